/-
  A leader begins.
-/
import Derived.Test.YtpegidbkplgplaaGJ
namespace Go.Vl
open Go.Proofs Classical
set_option maxHeartbeats 4000000 in
set_option maxRecDepth 100000 in
theorem aget_lb {lb : List (Int × SlR)} {s : Int} : aget (lb.map fun p => (p.1, p.2.c)) s = (aget lb s).map SlR.c := by
  rw [← aget_map (fun _ v => SlR.c v) lb s]
structure BgI where
  done : List (Int × SlR)
  last : Option (Int × SlR)
  left : List (Int × SlR)
  o : Obj
  m : Int
structure BgS where
  k : Nat
  ses : Array MapEntry
  sclk : Nat
  lo : List Opn
abbrev cOf (lb : List (Int × SlR)) : List (Int × Sl) := lb.map fun p => (p.1, p.2.c)
set_option maxHeartbeats 4000000 in
set_option maxRecDepth 100000 in
theorem isLast_add {fr m : Int} {done : List (Int × SlR)} {p : Int × SlR} (h : IsLast fr (cOf done) m) : IsLast fr (cOf (done ++ [p])) (max m p.1) := by
  have := isLast_fold (cOf [p]) (cOf done) m h
  rw [show cOf done ++ cOf [p] = cOf (done ++ [p]) from (List.map_append ..).symm] at this
  exact this
set_option maxHeartbeats 4000000 in
set_option maxRecDepth 100000 in
theorem cOf_perm {a b : List (Int × SlR)} (h : a.Perm b) : (cOf a).Perm (cOf b) := h.map _
structure FillOK (a : Ld) (M : Hp) (s : BgS) : Prop where
  map : MapK (Value.int .i64) pv s.ses s.sclk (s.lo.map fun x => (x.slot, x.o))
  L : s.lo.map Opn.c = fillS a.came a.fr s.k
  ch : ∀ x ∈ s.lo, x.ch = false ∧ x.v = noV
  li : ∀ x ∈ s.lo, EnIn M x.en ∧ EnSz x.en.c
  lt : ∀ x ∈ s.lo, x.slot < a.fr + (s.k : Int)
set_option maxHeartbeats 4000000 in
set_option maxRecDepth 100000 in
theorem cnt_noV : cnt5 noV = 0 := rfl
set_option maxHeartbeats 4000000 in
set_option maxRecDepth 100000 in
theorem fillS_slot {came : List (Int × Sl)} {nx : Int} : ∀ {k : Nat} {x : Ol}, x ∈ fillS came nx k → nx ≤ x.slot ∧ x.slot < nx + (k : Int)
  | 0, x, h => by cases h
  | k + 1, x, h => by
    rcases List.mem_append.1 h with h | h
    · have := fillS_slot h; omega
    · rw [List.mem_singleton.1 h]; simp only; omega
set_option maxHeartbeats 4000000 in
set_option maxRecDepth 100000 in
theorem fillS_srt {came : List (Int × Sl)} {nx : Int} : ∀ {k : Nat}, (fillS came nx k).Pairwise fun x y => x.slot < y.slot
  | 0 => .nil
  | k + 1 => by
    refine List.pairwise_append.2 ⟨fillS_srt, List.pairwise_singleton _ _, fun x hx y hy => ?_⟩
    rw [List.mem_singleton.1 hy]
    exact (fillS_slot hx).2
set_option maxHeartbeats 4000000 in
set_option maxRecDepth 100000 in
theorem FillOK.step {a : Ld} {M : Hp} {s : BgS} (h : FillOK a M s) {en : EnR} {o : Nat} {es : Array MapEntry} {clk : Nat} (he : en.c = entOf a.came (a.fr + (s.k : Int))) (hi : EnIn M en) (hz : EnSz en.c)
    (hM : MapK (Value.int .i64) pv es clk (aput (s.lo.map fun x => (x.slot, x.o)) (a.fr + (s.k : Int)) o)) : FillOK a M ⟨s.k + 1, es, clk, s.lo ++ [⟨a.fr + (s.k : Int), o, en, noV, false⟩]⟩ := by
  have hn : aget (s.lo.map fun x => (x.slot, x.o)) (a.fr + (s.k : Int)) = none := by
    rw [aget_none]
    intro p hp
    obtain ⟨x, hx, rfl⟩ := List.mem_map.1 hp
    have := h.lt x hx
    simp only; omega
  rw [aput_new hn] at hM
  refine ⟨by simpa using hM, ?_, ?_, ?_, ?_⟩
  · rw [List.map_append, h.L]
    show _ = fillS a.came a.fr s.k ++ _
    rw [← he]
    rfl
  · intro x hx
    rcases List.mem_append.1 hx with hx | hx
    · exact h.ch x hx
    · rw [List.mem_singleton.1 hx]; exact ⟨rfl, rfl⟩
  · intro x hx
    rcases List.mem_append.1 hx with hx | hx
    · exact h.li x hx
    · rw [List.mem_singleton.1 hx]; exact ⟨hi, hz⟩
  · intro x hx
    rcases List.mem_append.1 hx with hx | hx
    · have := h.lt x hx; simp only; omega
    · rw [List.mem_singleton.1 hx]; simp only; omega
set_option maxHeartbeats 4000000 in
set_option maxRecDepth 100000 in
theorem begin_ok {a : Ld} {r : LdR} {s : BgS} (hr : r.ok a) (hi : a.L = []) (hnx : a.next = a.fr) (h : FillOK a r.M s) (hk : s.k = a.more) : LdR.ok ⟨r.m1, r.m2, r.bes, r.bclk, s.ses, s.sclk, r.lb, s.lo, r.M⟩ (beginA a) := by
  have hl := isLast_lastS a.fr a.came
  have hm : (a.more : Int) ≤ 4097 ∧ a.fr + (a.more : Int) ≤ 1099511627777 := by
    unfold Ld.more
    have f1 := hr.a.f1
    rcases hl.at_ with g | ⟨p, hp, g⟩
    · omega
    · have := hr.a.key p hp; omega
  refine ⟨hr.best, h.map, hr.came, ?_, ?_, hr.bi, h.li, ?_⟩
  · show s.lo.map Opn.c = a.L ++ fillS a.came a.next a.more
    rw [hi, hnx, ← hk, h.L]; rfl
  · intro x hx
    obtain ⟨h1, h2⟩ := h.ch x hx
    rw [h1, h2, cnt_noV]
    unfold maj
    simp
  · have ha := hr.a
    refine ⟨ha.n1, ha.n5, ha.f0, ha.f1, ?_, ?_, ha.key, ha.nod, ?_, ?_, fun h => (by cases h)⟩
    · show a.fr ≤ a.next + (a.more : Int); omega
    · show a.next + (a.more : Int) ≤ _; omega
    · show (a.L ++ fillS a.came a.next a.more).Pairwise _
      rw [hi]; exact fillS_srt
    · intro x hx
      have hx : x ∈ a.L ++ fillS a.came a.next a.more := hx
      rw [hi, List.nil_append] at hx
      have := fillS_slot hx
      show a.fr ≤ x.slot ∧ x.slot < a.next + (a.more : Int)
      omega
set_option maxHeartbeats 4000000 in
set_option maxRecDepth 100000 in
theorem slV_en (s : SlR) : s.cells.toArray.extract 3 (3 + 56) = s.en.cells.toArray := by
  rw [List.extract_toArray]
  rfl
set_option maxHeartbeats 4000000 in
set_option maxRecDepth 100000 in
theorem fld51 : fld Try.prog 51 2 = some (3, some 56) := by decide +kernel
section
variable {e : World} {ρ : Fr} {H : Hp} {d : Option Nat} {ty : TypeId} {pos : String} {af : Array Edge} {g : Option (Nat × Bool)}
set_option maxHeartbeats 4000000 in
set_option maxRecDepth 100000 in
theorem rd_fieldEn {x : Operand} (s : SlR) (hx : ev ρ x = slV s) : Rd Try.prog e ρ H ⟨d, .field 51 x 2, ty, pos, af, g⟩ (.agg s.en.cells.toArray) := by
  rw [← slV_en]
  exact rd_fieldN hx fld51
end
abbrev zeroSR : SlR := ⟨0, ⟨0, 0⟩, zeroE, [], []⟩
end Go.Vl
