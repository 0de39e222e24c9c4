/-
  ProposerKeeps: what the replicas have accepted.
-/
import Derived.Test.YtpegidbkplgplaaHD
namespace Go.Vl
open Go.Proofs Classical
def repB (R : Nat → Rep) : Nat → Hp
  | 0 => []
  | n + 1 => repB R n ++ (R n).B
set_option maxHeartbeats 4000000 in
set_option maxRecDepth 100000 in
theorem repB_succ (R : Nat → Rep) (n : Nat) : repB R (n + 1) = repB R n ++ (R n).B := rfl
set_option maxHeartbeats 4000000 in
set_option maxRecDepth 100000 in
theorem repB_keep {R : Nat → Rep} {i : Nat} {x : Rep} : ∀ {n : Nat}, n ≤ i → repB (updR R i x) n = repB R n
  | 0, _ => rfl
  | n + 1, h => by rw [repB_succ, repB_succ, repB_keep (by omega), updR_ne (by omega)]
set_option maxHeartbeats 4000000 in
set_option maxRecDepth 100000 in
theorem repB_at {R : Nat → Rep} {i : Nat} : ∀ {n : Nat}, i < n → ∃ A C : Hp, repB R n = A ++ ((R i).B ++ C) ∧ ∀ x, repB (updR R i x) n = A ++ (x.B ++ C)
  | 0, h => absurd h (Nat.not_lt_zero _)
  | n + 1, h => by
    by_cases hi : i < n
    · obtain ⟨A, C, h1, h3⟩ := repB_at hi
      refine ⟨A, C ++ (R n).B, by rw [repB_succ, h1]; simp, fun x => ?_⟩
      rw [repB_succ, h3 x, updR_ne (by omega)]
      simp
    · obtain rfl : i = n := by omega
      refine ⟨repB R i, [], by rw [repB_succ]; simp, fun x => ?_⟩
      rw [repB_succ, repB_keep (Nat.le_refl _), updR_same]
      simp
set_option maxHeartbeats 4000000 in
set_option maxRecDepth 100000 in
theorem repB_0 : ∀ m : Nat, [] = repB rep0 m
  | 0 => rfl
  | m + 1 => by rw [repB_succ, ← repB_0 m]; rfl
/-- a replica of the law and what it has accepted -/
structure ROK (I : Hp) (W : List SlR) (x : Rep) : Prop where
  s : SlO 51 59 x.v x.ls.length (x.ls.map SlR.cells).flatten x.B
  k : LsK (W.map SlR.c) (x.ls.map SlR.c)
  e : ∀ s ∈ x.ls, EnIn I s.en ∧ EnSz s.en.c
  p : ¬ (⟨1, 0⟩ : Bal).lt x.prom
  n : x.ls.length ≤ W.length
structure KpS where
  i : Nat
  vw : Value
  W : List SlR
  Bw : Hp
  R : Nat → Rep
  X : Hp
structure KpOK (I : Hp) (m : Nat) (s : KpS) : Prop where
  w : WOK (s.W.map SlR.c)
  we : ∀ w ∈ s.W, EnIn I w.en ∧ EnSz w.en.c
  ws : SlO 51 59 s.vw s.W.length (s.W.map SlR.cells).flatten s.Bw
  r : ∀ j, j < m → ROK I s.W (s.R j)
  x : s.X = repB s.R m
  maj : ∀ w ∈ s.W.map SlR.c, maj m ≤ cnt (fun j => decide (w ∈ (s.R j).ls.map SlR.c)) m
/-- while one more is accepted -/
structure KqOK (I : Hp) (m f : Nat) (W : List SlR) (R0 : Nat → Rep) (s : SlR) (k : Nat) (R : Nat → Rep) (X : Hp) : Prop where
  old : ∀ j, j < m → hit f m k j = false → R j = R0 j
  new : ∀ j, j < m → hit f m k j = true → ROK I (W ++ [s]) (R j) ∧ (R j).ls = (R0 j).ls ++ [s]
  x : X = repB R m
set_option maxHeartbeats 4000000 in
set_option maxRecDepth 100000 in
theorem LsK.more {W : List SlR} {l : List Sl} (h : LsK (W.map SlR.c) l) (s : SlR) : LsK ((W ++ [s]).map SlR.c) l := ⟨fun x hx => by rw [List.map_append]; exact List.mem_append_left _ (h.mem x hx), h.srt⟩
set_option maxHeartbeats 4000000 in
set_option maxRecDepth 100000 in
theorem LsK.lt {W : List SlR} {l : List Sl} (hW : WOK (W.map SlR.c)) (h : LsK (W.map SlR.c) l) : ∀ x ∈ l, x.slot < (W.length : Int) := fun x hx => by
  obtain ⟨j, hj⟩ := List.mem_iff_getElem?.1 (h.mem x hx)
  have h1 := hW.slot j x hj
  have h2 := (List.getElem?_eq_some_iff.1 hj).1
  rw [List.length_map] at h2
  omega
set_option maxHeartbeats 4000000 in
set_option maxRecDepth 100000 in
theorem ROK.more {I : Hp} {W : List SlR} {x : Rep} (h : ROK I W x) (s : SlR) : ROK I (W ++ [s]) x := ⟨h.s, h.k.more s, h.e, h.p, by have := h.n; rw [List.length_append]; omega⟩
set_option maxHeartbeats 4000000 in
set_option maxRecDepth 100000 in
theorem ROK.add {I : Hp} {W : List SlR} {x : Rep} (hW : WOK (W.map SlR.c)) (h : ROK I W x) {s : SlR} (hs : s.slot = (W.length : Int)) (hb : s.bal = ⟨1, 0⟩) (he : EnIn I s.en ∧ EnSz s.en.c) {v : Value} {B : Hp} (hv : SlO 51 59 v (x.ls ++ [s]).length ((x.ls ++ [s]).map SlR.cells).flatten B) : ROK I (W ++ [s]) ⟨s.bal, v, x.ls ++ [s], B⟩ := by
  refine ⟨hv, ⟨fun y hy => ?_, ?_⟩, fun y hy => ?_, by show ¬ (⟨1, 0⟩ : Bal).lt s.bal; rw [hb]; exact Bal.lt_irrefl _, by have := h.n; simp only [List.length_append, List.length_cons, List.length_nil]; omega⟩
  · have hy : y ∈ (x.ls ++ [s]).map SlR.c := hy
    rw [List.map_append] at hy ⊢
    rcases List.mem_append.1 hy with hy | hy
    · exact List.mem_append_left _ (h.k.mem y hy)
    · exact List.mem_append_right _ hy
  · show ((x.ls ++ [s]).map SlR.c).Pairwise _
    rw [List.map_append]
    refine List.pairwise_append.2 ⟨h.k.srt, List.pairwise_singleton _ _, fun y hy z hz => ?_⟩
    rw [List.mem_singleton.1 hz]
    have := h.k.lt hW y hy
    show y.slot < s.slot
    omega
  · rcases List.mem_append.1 hy with hy | hy
    · exact h.e y hy
    · rw [List.mem_singleton.1 hy]; exact he
set_option maxHeartbeats 4000000 in
set_option maxRecDepth 100000 in
theorem kq_start {I : Hp} {m f : Nat} {W : List SlR} {R : Nat → Rep} {s : SlR} {X : Hp} (h : X = repB R m) : KqOK I m f W R s 0 R X :=
  ⟨fun _ _ _ => rfl, fun j _ g => (by rw [hit_0] at g; cases g), h⟩
set_option maxHeartbeats 4000000 in
set_option maxRecDepth 100000 in
theorem kq_step {I : Hp} {m f k : Nat} {W : List SlR} {R0 R : Nat → Rep} {s : SlR} {X A C B : Hp} {v : Value} (h : KqOK I m f W R0 s k R X) (hi : (f + k) % m < m) (hn : hit f m k ((f + k) % m) = false)
    (hA : ∀ x, repB (updR R ((f + k) % m) x) m = A ++ (x.B ++ C)) (hN : ROK I (W ++ [s]) ⟨s.bal, v, (R0 ((f + k) % m)).ls ++ [s], B⟩) : KqOK I m f W R0 s (k + 1) (updR R ((f + k) % m) ⟨s.bal, v, (R0 ((f + k) % m)).ls ++ [s], B⟩) (A ++ (B ++ C)) := by
  refine ⟨fun j hj hh => ?_, fun j hj hh => ?_, (hA ⟨s.bal, v, (R0 ((f + k) % m)).ls ++ [s], B⟩).symm⟩
  · rw [hit_step] at hh
    simp only [Bool.or_eq_false_iff, decide_eq_false_iff_not] at hh
    rw [updR_ne hh.2]
    exact h.old j hj hh.1
  · by_cases he : j = (f + k) % m
    · subst he; rw [updR_same]; exact ⟨hN, rfl⟩
    · rw [hit_step, decide_eq_false he, Bool.or_false] at hh
      rw [updR_ne he]
      exact h.new j hj hh
set_option maxHeartbeats 4000000 in
set_option maxRecDepth 100000 in
theorem kq_end {I : Hp} {m f : Nat} {W : List SlR} {R0 R : Nat → Rep} {s : SlR} {X Bw Bw' : Hp} {i : Nat} {vw vw' : Value} {X0 : Hp} (h1 : 1 ≤ m) (h5 : m ≤ 5) (h0 : KpOK I m ⟨i, vw, W, Bw, R0, X0⟩) (h : KqOK I m f W R0 s (maj m) R X) (hs : s.slot = (W.length : Int)) (hb : s.bal = ⟨1, 0⟩) (he : EnIn I s.en ∧ EnSz s.en.c) (hm : mayE s.en.c) (hl : W.length ≤ 4096)
    (hv : SlO 51 59 vw' (W ++ [s]).length ((W ++ [s]).map SlR.cells).flatten Bw') : KpOK I m ⟨i + 1, vw', W ++ [s], Bw', R, X⟩ := by
  have hmn : maj m ≤ m := by unfold maj; omega
  refine ⟨⟨fun j w hj => ?_, fun w hw => ?_, fun w hw => ?_, ?_⟩, fun w hw => ?_, hv, fun j hj => ?_, h.x, fun w hw => ?_⟩
  · simp only [List.map_append, List.map_cons, List.map_nil] at hj
    by_cases hjl : j < (W.map SlR.c).length
    · rw [List.getElem?_append_left hjl] at hj
      exact h0.w.slot j w hj
    · rw [List.getElem?_append_right (by omega)] at hj
      have hz := (List.getElem?_eq_some_iff.1 hj).1
      rw [List.length_map] at hjl hz
      simp only [List.length_cons, List.length_nil] at hz
      obtain rfl : j = W.length := by omega
      rw [List.length_map, Nat.sub_self] at hj
      cases hj
      exact hs
  · simp only [List.map_append, List.map_cons, List.map_nil] at hw
    rcases List.mem_append.1 hw with hw | hw
    · exact h0.w.bal w hw
    · rw [List.mem_singleton.1 hw]; exact hb
  · simp only [List.map_append, List.map_cons, List.map_nil] at hw
    rcases List.mem_append.1 hw with hw | hw
    · exact h0.w.may w hw
    · rw [List.mem_singleton.1 hw]; exact hm
  · simp only [List.length_map, List.length_append, List.length_cons, List.length_nil]; omega
  · rcases List.mem_append.1 hw with hw | hw
    · exact h0.we w hw
    · rw [List.mem_singleton.1 hw]; exact he
  · simp only at hj ⊢
    cases hh : hit f m (maj m) j with
    | true => exact (h.new j hj hh).1
    | false => rw [h.old j hj hh]; exact (h0.r j hj).more s
  · simp only [List.map_append, List.map_cons, List.map_nil] at hw ⊢
    rcases List.mem_append.1 hw with hw | hw
    · refine Nat.le_trans (h0.maj w hw) (cnt_mono fun j hj hp => ?_)
      refine decide_eq_true ?_
      have hp := of_decide_eq_true hp
      cases hh : hit f m (maj m) j with
      | true => rw [(h.new j hj hh).2, List.map_append]; exact List.mem_append_left _ hp
      | false => rw [h.old j hj hh]; exact hp
    · refine Nat.le_trans (Nat.le_of_eq (cnt_hit (f := f) h1 h5 hmn).symm) (cnt_mono fun j hj hp => ?_)
      refine decide_eq_true ?_
      rw [(h.new j hj hp).2, List.map_append, List.mem_singleton.1 hw]
      simp
set_option maxHeartbeats 4000000 in
set_option maxRecDepth 100000 in
theorem ROK.inn {I X : Hp} {W : List SlR} {x : Rep} (h : ROK I W x) (hx : ∀ y ∈ x.B, y ∈ X) (hW : W.length ≤ 4097) : LsIn (X ++ I) x.ls x.v :=
  ⟨(slInn h.s).more fun y hy => List.mem_append_left _ (hx y hy), fun s hs => ⟨(h.e s hs).1.more fun y hy => List.mem_append_right _ hy, (h.e s hs).2⟩, by have := h.n; omega⟩
set_option maxHeartbeats 4000000 in
set_option maxRecDepth 100000 in
theorem repB_mem {R : Nat → Rep} {i n : Nat} (h : i < n) : ∀ y ∈ (R i).B, y ∈ repB R n := by
  obtain ⟨A, C, h1, _⟩ := repB_at (R := R) h
  intro y hy
  rw [h1]
  simp [hy]
def PK (W : List Sl) (Ls : Nat → List Sl) (n f k : Nat) (a : Ld) : Prop := (k < maj n → PrK W Ls n f k a) ∧ (k = maj n → ∃ a', PrK W Ls n f k a' ∧ a = beginA a')
set_option maxHeartbeats 4000000 in
set_option maxRecDepth 100000 in
theorem pk_start {W : List Sl} {Ls : Nat → List Sl} {n f : Nat} : PK W Ls n f 0 (newA ⟨2, 0⟩ 0 n) :=
  ⟨fun _ => ⟨rfl, rfl, rfl, rfl, rfl, rfl, fun j => (hit_0 f n j).symm, cnt_noV, fun p h => (by cases h), fun t h => (by omega)⟩, fun h => (by unfold maj at h; omega)⟩
set_option maxHeartbeats 4000000 in
set_option maxRecDepth 100000 in
theorem pk_step {W : List Sl} {Ls : Nat → List Sl} {n f k : Nat} {a : Ld} (h1 : 1 ≤ n) (h5 : n ≤ 5) (hW : WOK W) (hk : k < maj n) (h : PK W Ls n f k a) (hl : LsK W (Ls ((f + k) % n))) :
    ∃ a', PK W Ls n f (k + 1) a' ∧ a.promise (((f + k) % n : Nat) : Int) (Ls ((f + k) % n)) = ((decide (k + 1 = maj n), 0), a') := by
  obtain ⟨a', h2, h3⟩ := prK_step h1 h5 hW hk (h.1 hk) hl
  by_cases hm : k + 1 = maj n
  · rw [if_pos hm] at h3
    exact ⟨beginA a', ⟨fun g => (by omega), fun _ => ⟨a', h2, rfl⟩⟩, by rw [h3, decide_eq_true hm]⟩
  · rw [if_neg hm] at h3
    exact ⟨a', ⟨fun _ => h2, fun g => absurd g hm⟩, by rw [h3, decide_eq_false hm]⟩
set_option maxHeartbeats 4000000 in
set_option maxRecDepth 100000 in
theorem rd_remM {P : Program} {e : World} {ρ : Fr} {H : Hp} {d : Option Nat} {ty t yt : TypeId} {pos : String} {af : Array Edge} {g : Option (Nat × Bool)} {x y : Operand} {k : IntKind} {a b c : Nat} (hx : ev ρ x = .int k (a : Int)) (hy : ev ρ y = .int k (b : Int)) (hb : 0 < b) (hc : a % b = c) : Rd P e ρ H ⟨d, .binOp .rem t x y yt, ty, pos, af, g⟩ (.int k (c : Int)) := by
  subst hc
  exact rd_remU hx hy hb
attribute [local irreducible] eqW eqV wpC wpO wpD Ex Rd callsK RetP Drop valK
set_option maxHeartbeats 4000000 in
set_option maxRecDepth 100000 in
theorem raccept2 (e : World) {rb i n o : Nat} {R : Nat → Rep} {s : SlR} {prom : Bal} {v : Value} {ls : List SlR} {B F : Hp} {K : Value → Hp → Prop} (ho : o = i * 3) (hi : i < n) (hR : R i = ⟨prom, v, ls, B⟩) (hS : SlO 51 59 v ls.length (ls.map SlR.cells).flatten B) (hlen : ls.length ≤ 4097) (hp : ¬ s.bal.lt prom) (hno : ∀ t ∈ ls, t.slot ≠ s.slot)
    (h1 : ∀ v' B', SlO 51 59 v' (ls ++ [s]).length ((ls ++ [s]).map SlR.cells).flatten B' → K (.bool true) (([(rb, cellsO (repL (updR R i ⟨s.bal, v', ls ++ [s], B'⟩) n) 72)] ++ B') ++ F)) :
    callsK Try.prog e 21 #[.pointer (some ⟨rb, o, none⟩), slV s] (([(rb, cellsO (repL R n) 72)] ++ B) ++ F) K := by
  subst ho
  exact raccept e hi hR hS (by omega) (fun h => absurd h hp) (fun _ _ => h1) fun _ k t hk he _ => absurd he (hno t (List.mem_of_getElem? hk))
set_option maxHeartbeats 4000000 in
set_option maxRecDepth 100000 in
theorem pmajN (e : World) {n : Nat} {F : Hp} {K : Value → Hp → Prop} (h1 : 1 ≤ n) (h5 : n ≤ 5) (hK : K (.int .i64 ((maj n : Nat) : Int)) F) : callsK Try.prog e 19 #[.int .i64 (n : Int)] F K :=
  pmaj e (fun _ _ => by rw [Int.toNat_natCast]; exact hK) fun h => absurd (show (1 : Int) ≤ n ∧ (n : Int) ≤ 5 by omega) h
set_option maxHeartbeats 4000000 in
set_option maxRecDepth 100000 in
theorem ppromise2 (e : World) {a a' : Ld} {d : Nat} {r : LdR} {ls : List SlR} {v : Value} {k : Nat} {b : Bool} {cs : List Sl} {I F : Hp} {K : Value → Hp → Prop} (hr : r.ok a) (hL : LsIn I ls v) (hc : ls.map SlR.c = cs) (hq : a.promise (k : Int) cs = ((b, 0), a'))
    (hK : ∀ r' : LdR, r'.ok a' → K (.tuple #[.bool b, .int .i64 0]) ((r'.hp a' d ++ I) ++ F)) :
    callsK Try.prog e 11 #[pv d, .int .i64 (k : Int), v] ((r.hp a d ++ I) ++ F) K := by
  subst hc
  exact ppromise e hr hL (by rw [hq]; exact hK)
end Go.Vl
