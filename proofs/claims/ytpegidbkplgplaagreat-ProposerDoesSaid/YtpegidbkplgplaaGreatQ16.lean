/-
  Steps of the proof: GK, GL, GM.
-/
import Derived.Test.YtpegidbkplgplaaGreatQ15
namespace Go.Vl
open Go.Proofs Classical
set_option maxHeartbeats 4000000 in
set_option maxRecDepth 100000 in
theorem aget_lb {lb : List (Int × SlR)} {s : Int} : aget (lb.map fun p => (p.1, p.2.c)) s = (aget lb s).map SlR.c := by
  rw [← aget_map (fun _ v => SlR.c v) lb s]
structure BgI where
  done : List (Int × SlR)
  last : Option (Int × SlR)
  left : List (Int × SlR)
  o : Obj
  m : Int
structure BgS where
  k : Nat
  ses : Array MapEntry
  sclk : Nat
  lo : List Opn
abbrev cOf (lb : List (Int × SlR)) : List (Int × Sl) := lb.map fun p => (p.1, p.2.c)
set_option maxHeartbeats 4000000 in
set_option maxRecDepth 100000 in
theorem isLast_add {fr m : Int} {done : List (Int × SlR)} {p : Int × SlR} (h : IsLast fr (cOf done) m) : IsLast fr (cOf (done ++ [p])) (max m p.1) := by
  have := isLast_fold (cOf [p]) (cOf done) m h
  rw [show cOf done ++ cOf [p] = cOf (done ++ [p]) from (List.map_append ..).symm] at this
  exact this
set_option maxHeartbeats 4000000 in
set_option maxRecDepth 100000 in
theorem cOf_perm {a b : List (Int × SlR)} (h : a.Perm b) : (cOf a).Perm (cOf b) := h.map _
structure FillOK (a : Ld) (M : Hp) (s : BgS) : Prop where
  map : MapK (Value.int .i64) pv s.ses s.sclk (s.lo.map fun x => (x.slot, x.o))
  L : s.lo.map Opn.c = fillS a.came a.fr s.k
  ch : ∀ x ∈ s.lo, x.ch = false ∧ x.v = noV
  li : ∀ x ∈ s.lo, EnIn M x.en ∧ EnSz x.en.c
  lt : ∀ x ∈ s.lo, x.slot < a.fr + (s.k : Int)
set_option maxHeartbeats 4000000 in
set_option maxRecDepth 100000 in
theorem cnt_noV : cnt5 noV = 0 := rfl
set_option maxHeartbeats 4000000 in
set_option maxRecDepth 100000 in
theorem fillS_slot {came : List (Int × Sl)} {nx : Int} : ∀ {k : Nat} {x : Ol}, x ∈ fillS came nx k → nx ≤ x.slot ∧ x.slot < nx + (k : Int)
  | 0, x, h => by cases h
  | k + 1, x, h => by
    rcases List.mem_append.1 h with h | h
    · have := fillS_slot h; omega
    · rw [List.mem_singleton.1 h]; simp only; omega
set_option maxHeartbeats 4000000 in
set_option maxRecDepth 100000 in
theorem fillS_srt {came : List (Int × Sl)} {nx : Int} : ∀ {k : Nat}, (fillS came nx k).Pairwise fun x y => x.slot < y.slot
  | 0 => .nil
  | k + 1 => by
    refine List.pairwise_append.2 ⟨fillS_srt, List.pairwise_singleton _ _, fun x hx y hy => ?_⟩
    rw [List.mem_singleton.1 hy]
    exact (fillS_slot hx).2
set_option maxHeartbeats 4000000 in
set_option maxRecDepth 100000 in
theorem FillOK.step {a : Ld} {M : Hp} {s : BgS} (h : FillOK a M s) {en : EnR} {o : Nat} {es : Array MapEntry} {clk : Nat} (he : en.c = entOf a.came (a.fr + (s.k : Int))) (hi : EnIn M en) (hz : EnSz en.c)
    (hM : MapK (Value.int .i64) pv es clk (aput (s.lo.map fun x => (x.slot, x.o)) (a.fr + (s.k : Int)) o)) : FillOK a M ⟨s.k + 1, es, clk, s.lo ++ [⟨a.fr + (s.k : Int), o, en, noV, false⟩]⟩ := by
  have hn : aget (s.lo.map fun x => (x.slot, x.o)) (a.fr + (s.k : Int)) = none := by
    rw [aget_none]
    intro p hp
    obtain ⟨x, hx, rfl⟩ := List.mem_map.1 hp
    have := h.lt x hx
    simp only; omega
  rw [aput_new hn] at hM
  refine ⟨by simpa using hM, ?_, ?_, ?_, ?_⟩
  · rw [List.map_append, h.L]
    show _ = fillS a.came a.fr s.k ++ _
    rw [← he]
    rfl
  · intro x hx
    rcases List.mem_append.1 hx with hx | hx
    · exact h.ch x hx
    · rw [List.mem_singleton.1 hx]; exact ⟨rfl, rfl⟩
  · intro x hx
    rcases List.mem_append.1 hx with hx | hx
    · exact h.li x hx
    · rw [List.mem_singleton.1 hx]; exact ⟨hi, hz⟩
  · intro x hx
    rcases List.mem_append.1 hx with hx | hx
    · have := h.lt x hx; simp only; omega
    · rw [List.mem_singleton.1 hx]; simp only; omega
set_option maxHeartbeats 4000000 in
set_option maxRecDepth 100000 in
theorem begin_ok {a : Ld} {r : LdR} {s : BgS} (hr : r.ok a) (hi : a.L = []) (hnx : a.next = a.fr) (h : FillOK a r.M s) (hk : s.k = a.more) : LdR.ok ⟨r.m1, r.m2, r.bes, r.bclk, s.ses, s.sclk, r.lb, s.lo, r.M⟩ (beginA a) := by
  have hl := isLast_lastS a.fr a.came
  have hm : (a.more : Int) ≤ 4097 ∧ a.fr + (a.more : Int) ≤ 1099511627777 := by
    unfold Ld.more
    have f1 := hr.a.f1
    rcases hl.at_ with g | ⟨p, hp, g⟩
    · omega
    · have := hr.a.key p hp; omega
  refine ⟨hr.best, h.map, hr.came, ?_, ?_, hr.bi, h.li, ?_⟩
  · show s.lo.map Opn.c = a.L ++ fillS a.came a.next a.more
    rw [hi, hnx, ← hk, h.L]; rfl
  · intro x hx
    obtain ⟨h1, h2⟩ := h.ch x hx
    rw [h1, h2, cnt_noV]
    unfold maj
    simp
  · have ha := hr.a
    refine ⟨ha.n1, ha.n5, ha.f0, ha.f1, ?_, ?_, ha.key, ha.nod, ?_, ?_, fun h => (by cases h)⟩
    · show a.fr ≤ a.next + (a.more : Int); omega
    · show a.next + (a.more : Int) ≤ _; omega
    · show (a.L ++ fillS a.came a.next a.more).Pairwise _
      rw [hi]; exact fillS_srt
    · intro x hx
      have hx : x ∈ a.L ++ fillS a.came a.next a.more := hx
      rw [hi, List.nil_append] at hx
      have := fillS_slot hx
      show a.fr ≤ x.slot ∧ x.slot < a.next + (a.more : Int)
      omega
set_option maxHeartbeats 4000000 in
set_option maxRecDepth 100000 in
theorem slV_en (s : SlR) : s.cells.toArray.extract 3 (3 + 56) = s.en.cells.toArray := by
  rw [List.extract_toArray]
  rfl
set_option maxHeartbeats 4000000 in
set_option maxRecDepth 100000 in
theorem fld51 : fld Tryz.prog 73 2 = some (3, some 56) := by decide +kernel
section
variable {e : World} {ρ : Fr} {H : Hp} {d : Option Nat} {ty : TypeId} {pos : String} {af : Array Edge} {g : Option (Nat × Bool)}
set_option maxHeartbeats 4000000 in
set_option maxRecDepth 100000 in
theorem rd_fieldEn {x : Operand} (s : SlR) (hx : ev ρ x = slV s) : Rd Tryz.prog e ρ H ⟨d, .field 73 x 2, ty, pos, af, g⟩ (.agg s.en.cells.toArray) := by
  rw [← slV_en]
  exact rd_fieldN hx fld51
end
abbrev zeroSR : SlR := ⟨0, ⟨0, 0⟩, zeroE, [], []⟩
end Go.Vl

namespace Go.Vl
open Go.Proofs Classical
attribute [local irreducible] eqW eqV wpC wpO wpD Ex Rd callsK RetP Drop valK
set_option maxHeartbeats 4000000 in
set_option maxRecDepth 100000 in
theorem pbegin (e : World) {a : Ld} {d : Nat} {r : LdR} {F : Hp} {K : Value → Hp → Prop} (hr : r.ok a) (hi : a.L = []) (hnx : a.next = a.fr) (hK : ∀ r' : LdR, r'.ok (beginA a) → r'.M = r.M → K (.tuple #[]) (r'.hp (beginA a) d ++ F)) :
    callsK Tryz.prog e 43 #[pv d] (r.hp a d ++ F) K := by
  have hM := hr.best
  have hO := hr.open_
  have f0 := hr.a.f0
  have f1 := hr.a.f1
  have hlo : r.lo = [] := by have := hr.L; rw [hi] at this; exact List.map_eq_nil_iff.1 this
  have hkey : ∀ p ∈ r.lb, a.fr ≤ p.1 ∧ p.1 ≤ 1099511627776 := fun p hp => by
    have := hr.a.key (p.1, p.2.c) (by rw [← hr.came]; exact List.mem_map.2 ⟨p, hp, rfl⟩)
    exact ⟨this.2.1, this.2.2.1⟩
  have hbi := hr.bi
  have hcm := hr.came
  have hfin : ∀ s : BgS, FillOK a r.M s → s.k = a.more → _ := fun s h1 h2 => begin_ok hr hi hnx h1 h2
  obtain ⟨m1, m2, bes, bclk, ses, sclk, lb, lo, M⟩ := r
  simp only at hM hO hlo hkey hbi hcm hfin ⊢
  subst hlo
  refine calls_body (N := 57) (args := [pv d]) Tryz.func43 rfl rfl rfl (by simp) ?_
  repeat' ((fail_if_success (show wpC _ (.loop _) _ _ _ _)); first | (show wpO _ _ _ _ _ _ _; first | refine wpO_nil ?_ | (show wpO _ _ _ (⟨_, .binOp _ _ _ _ _, _, _, _, _⟩ :: _) _ _ _; first | refine s_tt ?_ | refine s_ff ?_ | refine s_rdp ?_ | ((first | refine s_cmp (fun _ => ?_) (fun _ => ?_) | refine s_cb (fun _ => ?_) (fun _ => ?_)) <;> (first | (exfalso; omega) | contradiction | skip))) | (show wpO _ _ _ (⟨_, .lookup _ _ _ _, _, _, _, _⟩ :: _) _ _ _; first | refine s_rdm ?_ | refine s_look (fun _ _ => ?_) (fun _ => ?_)) | refine s_rdp ?_ | refine s_rdm ?_ | refine s_exq ?_ | refine s_exm ?_) | (show Ex _ _ _ _ _; first | (show Ex _ ⟨_, .box _ _, _, _, _, _⟩ _ _ _; first | (refine e_boxA ?_; intro _) | (refine e_box1 ?_; intro _)) | (show Ex _ ⟨_, .store _ _ _, _, _, _, _⟩ _ _ _; first | refine e_store1 ?_ | refine e_storeA ?_ | (refine e_storeO ?_; intro _ _)) | (show Ex _ ⟨_, .mapUpdate _ _ _ _, _, _, _, _⟩ _ _ _; refine e_mapUpdate ?_; intro _ _ _) | (show Ex _ ⟨_, .range _ _, _, _, _, _⟩ _ _ _; refine e_range ?_; intro _ _ _) | (show Ex _ ⟨_, .next _ _, _, _, _, _⟩ _ _ _; refine e_next (fun _ => ?_) (fun _ _ _ _ => ?_))) | (show wpC _ _ _ _ _ _; first | refine wpC_seq ?_ | refine wpC_region ?_ | refine c_true ?_ | refine c_false ?_ | (refine c_b (fun _ => ?_) (fun _ => ?_) <;> (first | (exfalso; omega) | contradiction | skip)) | refine wpC_block ?_ | refine wpC_ret ?_ | refine wpC_skip ?_ | refine wpC_exit ?_ | refine wpC_label ?_ | (apply wpC_drawX (id := 7) ([]) [0, 1, 2, 3, 4, 5, 6, 7, 8, 9, 10, 11, 12, 13, 14, 15, 16, 17, 18, 19, 20] rfl (by kernel_rfl); (case hpk => (repeat (first | exact Pcs.blk (by infer_instance) | exact Pcs.nil | (apply Pcs.cons; infer_instance) | apply Pcs.app))))) | (show Then _ _ _ _ _ _ _; first | refine then_normal ?_ | refine then_ret ?_ | refine then_exit ?_) | (show InBlock _ _ _ _ _ _; first | refine inBlock_normal ?_ | refine inBlock_ret ?_ | refine inBlock_same ?_ | refine b_other ?_) | (show LoopPost _ _ _ _ _ _; first | refine loop_ret ?_ | refine loop_exit ?_) | (show wpD _ _ _ _ _ _ _ _; first | refine wpD_nil ?_ | refine d_rdp ?_ | refine d_rdm ?_ | refine d_tt ?_ | refine d_ff ?_ | ((first | refine d_cmp (fun _ => ?_) (fun _ => ?_) | refine d_cb (fun _ => ?_) (fun _ => ?_)) <;> (first | (exfalso; omega) | contradiction | skip)) | refine d_look (fun _ _ => ?_) (fun _ => ?_) | refine d_exs ?_ | refine d_exn ?_) | (show (_ ∨ Subs _ _) ∧ _; first | refine d_sub ?_ | refine d_cov ?_) | (show RetP _ _ _ _ _ _ _ _; first | refine r_0 ?_))
  rename_i bi oi hI
  refine wpC_loopA (κ := BgI) [2, 3, 17, 18, 19, 20, 21, 22, 23] (fun s => [(2, .int .i64 s.m)]) (fun s => [(bi, s.o)] ++ ((LdR.mk m1 m2 bes bclk ses sclk lb [] M).hp { a with ready := true } d ++ F))
    (fun s => IterK (Value.int .i64) slV m1 bes bclk s.last s.left s.o ∧ (s.done ++ s.left).Perm lb ∧ IsLast a.fr (cOf s.done) s.m) (fun s => s.left.length) ⟨[], none, lb, oi, a.fr - 1⟩ ⟨hI, .refl _, ⟨Int.le_refl _, fun p h => (by cases h), .inl rfl⟩⟩ ⟨rfl, trivial⟩ q_drp ?_
  rintro ⟨done, la, left, o, m⟩ ρx ⟨hI, hp, hl⟩
  simp only at hI hp hl ⊢
  have hml := hl.lo
  repeat' ((fail_if_success (show wpC _ (.loop _) _ _ _ _)); first | (show wpO _ _ _ _ _ _ _; first | refine wpO_nil ?_ | (show wpO _ _ _ (⟨_, .binOp _ _ _ _ _, _, _, _, _⟩ :: _) _ _ _; first | refine s_tt ?_ | refine s_ff ?_ | refine s_rdp ?_ | ((first | refine s_cmp (fun _ => ?_) (fun _ => ?_) | refine s_cb (fun _ => ?_) (fun _ => ?_)) <;> (first | (exfalso; omega) | contradiction | skip))) | (show wpO _ _ _ (⟨_, .lookup _ _ _ _, _, _, _, _⟩ :: _) _ _ _; first | refine s_rdm ?_ | refine s_look (fun _ _ => ?_) (fun _ => ?_)) | refine s_rdp ?_ | refine s_rdm ?_ | refine s_exq ?_ | refine s_exm ?_) | (show Ex _ _ _ _ _; first | (show Ex _ ⟨_, .box _ _, _, _, _, _⟩ _ _ _; first | (refine e_boxA ?_; intro _) | (refine e_box1 ?_; intro _)) | (show Ex _ ⟨_, .store _ _ _, _, _, _, _⟩ _ _ _; first | refine e_store1 ?_ | refine e_storeA ?_ | (refine e_storeO ?_; intro _ _)) | (show Ex _ ⟨_, .mapUpdate _ _ _ _, _, _, _, _⟩ _ _ _; refine e_mapUpdate ?_; intro _ _ _) | (show Ex _ ⟨_, .range _ _, _, _, _, _⟩ _ _ _; refine e_range ?_; intro _ _ _) | (show Ex _ ⟨_, .next _ _, _, _, _, _⟩ _ _ _; refine e_next (fun _ => ?_) (fun _ _ _ _ => ?_))) | (show wpC _ _ _ _ _ _; first | refine wpC_seq ?_ | refine wpC_region ?_ | refine c_true ?_ | refine c_false ?_ | (refine c_b (fun _ => ?_) (fun _ => ?_) <;> (first | (exfalso; omega) | contradiction | skip)) | refine wpC_block ?_ | refine wpC_ret ?_ | refine wpC_skip ?_ | refine wpC_exit ?_ | refine wpC_label ?_ | (apply wpC_drawX (id := 7) ([]) [0, 1, 2, 3, 4, 5, 6, 7, 8, 9, 10, 11, 12, 13, 14, 15, 16, 17, 18, 19, 20] rfl (by kernel_rfl); (case hpk => (repeat (first | exact Pcs.blk (by infer_instance) | exact Pcs.nil | (apply Pcs.cons; infer_instance) | apply Pcs.app))))) | (show Then _ _ _ _ _ _ _; first | refine then_normal ?_ | refine then_ret ?_ | refine then_exit ?_) | (show InBlock _ _ _ _ _ _; first | refine inBlock_normal ?_ | refine inBlock_ret ?_ | refine inBlock_same ?_ | refine b_other ?_) | (show LoopPost _ _ _ _ _ _; first | refine loop_ret ?_ | refine loop_exit ?_) | (show wpD _ _ _ _ _ _ _ _; first | refine wpD_nil ?_ | refine d_rdp ?_ | refine d_rdm ?_ | refine d_tt ?_ | refine d_ff ?_ | ((first | refine d_cmp (fun _ => ?_) (fun _ => ?_) | refine d_cb (fun _ => ?_) (fun _ => ?_)) <;> (first | (exfalso; omega) | contradiction | skip)) | refine d_look (fun _ _ => ?_) (fun _ => ?_) | refine d_exs ?_ | refine d_exn ?_) | (show (_ ∨ Subs _ _) ∧ _; first | refine d_sub ?_ | refine d_cov ?_) | (show RetP _ _ _ _ _ _ _ _; first | refine r_0 ?_))
  · rename_i hle
    subst hle
    rw [List.append_nil] at hp
    have hm : m = lastS a.fr a.came := by
      have := (hl.perm (cOf_perm hp)).uniq (by rw [show cOf lb = a.came from hcm]; exact isLast_lastS a.fr a.came)
      exact this
    have hmore : (a.more : Int) = m + 1 - a.fr := by unfold Ld.more; rw [hnx, ← hm]; omega
    have hm40 : m ≤ 1099511627776 := by
      rcases hl.at_ with g | ⟨q, hq, g⟩
      · omega
      · obtain ⟨q', hq', rfl⟩ := List.mem_map.1 hq
        have := (hkey q' (hp.mem_iff.1 hq')).2
        simp only at g; omega
    have hF0 : FillOK a M ⟨0, ses, sclk, []⟩ := ⟨hO, rfl, fun x hx => (by cases hx), fun x hx => (by cases hx), fun x hx => (by cases hx)⟩
    clear hO hI hl hp hm
    refine wpC_loopA (κ := BgS × Int × Hp) [24, 25, 26, 27, 28, 29, 30, 31, 32, 33, 34, 35, 36, 37, 38, 39, 40, 41, 42, 43, 44, 45, 46, 47, 48, 49, 50, 51, 52, 53, 54, 55, 56] (fun _ => []) (fun s => ([(d, cellsO (ldV a.b a.fr a.n a.p true m1 m2 s.2.1) 65), (m1, .map bes bclk), (m2, .map s.1.ses s.1.sclk)] ++ (s.2.2 ++ M)) ++ F)
      (fun s => s.1.k ≤ a.more ∧ FillOK a M s.1 ∧ s.2.1 = a.fr + (s.1.k : Int) ∧ s.2.2 = opH s.1.lo) (fun s => a.more - s.1.k) (⟨0, ses, sclk, []⟩, a.next, []) ⟨Nat.zero_le _, hF0, by rw [hnx]; simp, rfl⟩ trivial q_drp ?_
    rintro ⟨⟨k, ses', sclk', lo⟩, nx, X⟩ ρy ⟨hk, hF, hnk, hX⟩
    simp only at hk hF hnk hX ⊢
    subst hnk
    have hO := hF.map
    simp only at hO
    by_cases hlt : k < a.more
    · clear hr hfin hK hI hF0
      cases hg : aget lb (a.fr + (k : Int)) with
      | some s =>
        have hgi := hbi _ (aget_some_mem hg)
        have hen : s.en.c = entOf a.came (a.fr + (k : Int)) := by
          unfold entOf
          rw [← hcm, aget_lb, hg]; rfl
        repeat' (first | (refine d_rdp ?_ (hr := by (apply (rd_fieldEn s); exact rfl; done))) | (show wpO _ _ _ _ _ _ _; first | refine wpO_nil ?_ | (show wpO _ _ _ (⟨_, .binOp _ _ _ _ _, _, _, _, _⟩ :: _) _ _ _; first | refine s_tt ?_ | refine s_ff ?_ | refine s_rdp ?_ | ((first | refine s_cmp (fun _ => ?_) (fun _ => ?_) | refine s_cb (fun _ => ?_) (fun _ => ?_)) <;> (first | (exfalso; omega) | contradiction | skip))) | (show wpO _ _ _ (⟨_, .lookup _ _ _ _, _, _, _, _⟩ :: _) _ _ _; first | refine s_rdm ?_ | refine s_look (fun _ _ => ?_) (fun _ => ?_)) | refine s_rdp ?_ | refine s_rdm ?_ | refine s_exq ?_ | refine s_exm ?_) | (show Ex _ _ _ _ _; first | (show Ex _ ⟨_, .box _ _, _, _, _, _⟩ _ _ _; first | (refine e_boxA ?_; intro _) | (refine e_box1 ?_; intro _)) | (show Ex _ ⟨_, .store _ _ _, _, _, _, _⟩ _ _ _; first | refine e_store1 ?_ | refine e_storeA ?_ | (refine e_storeO ?_; intro _ _)) | (show Ex _ ⟨_, .mapUpdate _ _ _ _, _, _, _, _⟩ _ _ _; refine e_mapUpdate ?_; intro _ _ _) | (show Ex _ ⟨_, .range _ _, _, _, _, _⟩ _ _ _; refine e_range ?_; intro _ _ _) | (show Ex _ ⟨_, .next _ _, _, _, _, _⟩ _ _ _; refine e_next (fun _ => ?_) (fun _ _ _ _ => ?_))) | (show wpC _ _ _ _ _ _; first | refine wpC_seq ?_ | refine wpC_region ?_ | refine c_true ?_ | refine c_false ?_ | (refine c_b (fun _ => ?_) (fun _ => ?_) <;> (first | (exfalso; omega) | contradiction | skip)) | refine wpC_block ?_ | refine wpC_ret ?_ | refine wpC_skip ?_ | refine wpC_exit ?_ | refine wpC_label ?_ | (apply wpC_drawX (id := 7) ([(m2, .map ses' sclk')]) [0, 1, 2, 3, 4, 5, 6, 7, 8, 9, 10, 11, 12, 13, 14, 15, 16, 17, 18, 19, 20] rfl (by kernel_rfl); (case hpk => (repeat (first | exact Pcs.blk (by infer_instance) | exact Pcs.nil | (apply Pcs.cons; infer_instance) | apply Pcs.app))))) | (show Then _ _ _ _ _ _ _; first | refine then_normal ?_ | refine then_ret ?_ | refine then_exit ?_) | (show InBlock _ _ _ _ _ _; first | refine inBlock_normal ?_ | refine inBlock_ret ?_ | refine inBlock_same ?_ | refine b_other ?_) | (show LoopPost _ _ _ _ _ _; first | refine loop_ret ?_ | refine loop_exit ?_) | (show wpD _ _ _ _ _ _ _ _; first | refine wpD_nil ?_ | refine d_rdp ?_ | refine d_rdm ?_ | refine d_tt ?_ | refine d_ff ?_ | ((first | refine d_cmp (fun _ => ?_) (fun _ => ?_) | refine d_cb (fun _ => ?_) (fun _ => ?_)) <;> (first | (exfalso; omega) | contradiction | skip)) | refine d_look (fun _ _ => ?_) (fun _ => ?_) | refine d_exs ?_ | refine d_exn ?_) | (show (_ ∨ Subs _ _) ∧ _; first | refine d_sub ?_ | refine d_cov ?_) | (show RetP _ _ _ _ _ _ _ _; first | refine r_0 ?_))
        all_goals first | (exfalso; omega) | skip
        rename_i o es clk hM'
        exact lp_end (⟨k + 1, es, clk, lo ++ [⟨a.fr + (k : Int), o, s.en, noV, false⟩]⟩, a.fr + (k : Int) + 1, X ++ [(o, cellsO (Opn.mk (a.fr + (k : Int)) o s.en noV false).cells 93)]) (by simp only; omega) ⟨by simp only; omega, FillOK.step hF (en := s.en) hen hgi.1 hgi.2 hM', by simp only; omega, by simp only [opH_app]; rw [hX]; rfl⟩
      | none =>
        have hen : zeroE.c = entOf a.came (a.fr + (k : Int)) := by
          unfold entOf
          rw [← hcm, aget_lb, hg]; rfl
        repeat' (first | (refine d_rdp ?_ (hr := by (apply (rd_fieldEn zeroSR); exact rfl; done))) | (show wpO _ _ _ _ _ _ _; first | refine wpO_nil ?_ | (show wpO _ _ _ (⟨_, .binOp _ _ _ _ _, _, _, _, _⟩ :: _) _ _ _; first | refine s_tt ?_ | refine s_ff ?_ | refine s_rdp ?_ | ((first | refine s_cmp (fun _ => ?_) (fun _ => ?_) | refine s_cb (fun _ => ?_) (fun _ => ?_)) <;> (first | (exfalso; omega) | contradiction | skip))) | (show wpO _ _ _ (⟨_, .lookup _ _ _ _, _, _, _, _⟩ :: _) _ _ _; first | refine s_rdm ?_ | refine s_look (fun _ _ => ?_) (fun _ => ?_)) | refine s_rdp ?_ | refine s_rdm ?_ | refine s_exq ?_ | refine s_exm ?_) | (show Ex _ _ _ _ _; first | (show Ex _ ⟨_, .box _ _, _, _, _, _⟩ _ _ _; first | (refine e_boxA ?_; intro _) | (refine e_box1 ?_; intro _)) | (show Ex _ ⟨_, .store _ _ _, _, _, _, _⟩ _ _ _; first | refine e_store1 ?_ | refine e_storeA ?_ | (refine e_storeO ?_; intro _ _)) | (show Ex _ ⟨_, .mapUpdate _ _ _ _, _, _, _, _⟩ _ _ _; refine e_mapUpdate ?_; intro _ _ _) | (show Ex _ ⟨_, .range _ _, _, _, _, _⟩ _ _ _; refine e_range ?_; intro _ _ _) | (show Ex _ ⟨_, .next _ _, _, _, _, _⟩ _ _ _; refine e_next (fun _ => ?_) (fun _ _ _ _ => ?_))) | (show wpC _ _ _ _ _ _; first | refine wpC_seq ?_ | refine wpC_region ?_ | refine c_true ?_ | refine c_false ?_ | (refine c_b (fun _ => ?_) (fun _ => ?_) <;> (first | (exfalso; omega) | contradiction | skip)) | refine wpC_block ?_ | refine wpC_ret ?_ | refine wpC_skip ?_ | refine wpC_exit ?_ | refine wpC_label ?_ | (apply wpC_drawX (id := 7) ([(m2, .map ses' sclk')]) [0, 1, 2, 3, 4, 5, 6, 7, 8, 9, 10, 11, 12, 13, 14, 15, 16, 17, 18, 19, 20] rfl (by kernel_rfl); (case hpk => (repeat (first | exact Pcs.blk (by infer_instance) | exact Pcs.nil | (apply Pcs.cons; infer_instance) | apply Pcs.app))))) | (show Then _ _ _ _ _ _ _; first | refine then_normal ?_ | refine then_ret ?_ | refine then_exit ?_) | (show InBlock _ _ _ _ _ _; first | refine inBlock_normal ?_ | refine inBlock_ret ?_ | refine inBlock_same ?_ | refine b_other ?_) | (show LoopPost _ _ _ _ _ _; first | refine loop_ret ?_ | refine loop_exit ?_) | (show wpD _ _ _ _ _ _ _ _; first | refine wpD_nil ?_ | refine d_rdp ?_ | refine d_rdm ?_ | refine d_tt ?_ | refine d_ff ?_ | ((first | refine d_cmp (fun _ => ?_) (fun _ => ?_) | refine d_cb (fun _ => ?_) (fun _ => ?_)) <;> (first | (exfalso; omega) | contradiction | skip)) | refine d_look (fun _ _ => ?_) (fun _ => ?_) | refine d_exs ?_ | refine d_exn ?_) | (show (_ ∨ Subs _ _) ∧ _; first | refine d_sub ?_ | refine d_cov ?_) | (show RetP _ _ _ _ _ _ _ _; first | refine r_0 ?_))
        all_goals first | (exfalso; omega) | skip
        rename_i o es clk hM'
        exact lp_end (⟨k + 1, es, clk, lo ++ [⟨a.fr + (k : Int), o, zeroE, noV, false⟩]⟩, a.fr + (k : Int) + 1, X ++ [(o, cellsO (Opn.mk (a.fr + (k : Int)) o zeroE noV false).cells 93)]) (by simp only; omega) ⟨by simp only; omega, FillOK.step hF (en := zeroE) hen ⟨InSl.nil, InSl.nil⟩ zeroE_sz hM', by simp only; omega, by simp only [opH_app]; rw [hX]; rfl⟩
    · obtain rfl : k = a.more := by omega
      subst hX
      repeat' (first | (show wpO _ _ _ _ _ _ _; first | refine wpO_nil ?_ | (show wpO _ _ _ (⟨_, .binOp _ _ _ _ _, _, _, _, _⟩ :: _) _ _ _; first | refine s_tt ?_ | refine s_ff ?_ | refine s_rdp ?_ | ((first | refine s_cmp (fun _ => ?_) (fun _ => ?_) | refine s_cb (fun _ => ?_) (fun _ => ?_)) <;> (first | (exfalso; omega) | contradiction | skip))) | (show wpO _ _ _ (⟨_, .lookup _ _ _ _, _, _, _, _⟩ :: _) _ _ _; first | refine s_rdm ?_ | refine s_look (fun _ _ => ?_) (fun _ => ?_)) | refine s_rdp ?_ | refine s_rdm ?_ | refine s_exq ?_ | refine s_exm ?_) | (show Ex _ _ _ _ _; first | (show Ex _ ⟨_, .box _ _, _, _, _, _⟩ _ _ _; first | (refine e_boxA ?_; intro _) | (refine e_box1 ?_; intro _)) | (show Ex _ ⟨_, .store _ _ _, _, _, _, _⟩ _ _ _; first | refine e_store1 ?_ | refine e_storeA ?_ | (refine e_storeO ?_; intro _ _)) | (show Ex _ ⟨_, .mapUpdate _ _ _ _, _, _, _, _⟩ _ _ _; refine e_mapUpdate ?_; intro _ _ _) | (show Ex _ ⟨_, .range _ _, _, _, _, _⟩ _ _ _; refine e_range ?_; intro _ _ _) | (show Ex _ ⟨_, .next _ _, _, _, _, _⟩ _ _ _; refine e_next (fun _ => ?_) (fun _ _ _ _ => ?_))) | (show wpC _ _ _ _ _ _; first | refine wpC_seq ?_ | refine wpC_region ?_ | refine c_true ?_ | refine c_false ?_ | (refine c_b (fun _ => ?_) (fun _ => ?_) <;> (first | (exfalso; omega) | contradiction | skip)) | refine wpC_block ?_ | refine wpC_ret ?_ | refine wpC_skip ?_ | refine wpC_exit ?_ | refine wpC_label ?_ | (apply wpC_drawX (id := 7) ([]) [0, 1, 2, 3, 4, 5, 6, 7, 8, 9, 10, 11, 12, 13, 14, 15, 16, 17, 18, 19, 20] rfl (by kernel_rfl); (case hpk => (repeat (first | exact Pcs.blk (by infer_instance) | exact Pcs.nil | (apply Pcs.cons; infer_instance) | apply Pcs.app))))) | (show Then _ _ _ _ _ _ _; first | refine then_normal ?_ | refine then_ret ?_ | refine then_exit ?_) | (show InBlock _ _ _ _ _ _; first | refine inBlock_normal ?_ | refine inBlock_ret ?_ | refine inBlock_same ?_ | refine b_other ?_) | (show LoopPost _ _ _ _ _ _; first | refine loop_ret ?_ | refine loop_exit ?_) | (show wpD _ _ _ _ _ _ _ _; first | refine wpD_nil ?_ | refine d_rdp ?_ | refine d_rdm ?_ | refine d_tt ?_ | refine d_ff ?_ | ((first | refine d_cmp (fun _ => ?_) (fun _ => ?_) | refine d_cb (fun _ => ?_) (fun _ => ?_)) <;> (first | (exfalso; omega) | contradiction | skip)) | refine d_look (fun _ _ => ?_) (fun _ => ?_) | refine d_exs ?_ | refine d_exn ?_) | (show (_ ∨ Subs _ _) ∧ _; first | refine d_sub ?_ | refine d_cov ?_) | (show RetP _ _ _ _ _ _ _ _; first | refine r_0 ?_))
      all_goals first | (exfalso; omega) | skip
      have := hK _ (hfin _ hF rfl) rfl
      rw [show beginA a = { a with ready := true, L := a.L ++ fillS a.came a.next a.more, next := a.fr + (a.more : Int) } from by unfold beginA; rw [hnx]] at this
      exact q_drop this
  · rename_i pr hpl o' hI'
    have hnd : (left.map Prod.fst).Nodup := by
      have h1 := (hp.map Prod.fst).nodup_iff.2 hM.keys
      rw [List.map_append] at h1
      exact (List.nodup_append.1 h1).2.1
    have hmax : max m pr.1 = (if m < pr.1 then pr.1 else m) := by split <;> omega
    refine lp_end ⟨done ++ [pr], some pr, adel left pr.1, o', max m pr.1⟩ (adel_less hpl) ⟨hI', ?_, isLast_add hl⟩ ⟨congrArg (Value.int .i64) hmax.symm, trivial⟩
    rw [List.append_assoc]
    exact ((perm_take hnd hpl).symm.append_left done).trans hp
end Go.Vl

namespace Go.Vl
open Go.Proofs Classical
set_option maxHeartbeats 4000000 in
set_option maxRecDepth 100000 in
theorem aput_cOf {k : Int} {v : SlR} : ∀ {lb : List (Int × SlR)}, cOf (aput lb k v) = aput (cOf lb) k v.c
  | [] => rfl
  | p :: lb => by
    unfold aput
    show cOf (if p.1 = k then (k, v) :: lb else p :: aput lb k v) = if p.1 = k then (k, v.c) :: cOf lb else (p.1, p.2.c) :: aput (cOf lb) k v.c
    split
    · rfl
    · show (p.1, p.2.c) :: cOf (aput lb k v) = _
      rw [aput_cOf]
set_option maxHeartbeats 4000000 in
set_option maxRecDepth 100000 in
theorem mem_aput {α : Type} {k : Int} {v : α} : ∀ {l : List (Int × α)} {p : Int × α}, p ∈ aput l k v → p = (k, v) ∨ p ∈ l
  | [], p, h => .inl (List.mem_singleton.1 h)
  | q :: l, p, h => by
    unfold aput at h
    split at h
    · rcases List.mem_cons.1 h with h | h
      · exact .inl h
      · exact .inr (List.mem_cons_of_mem _ h)
    · rcases List.mem_cons.1 h with h | h
      · exact .inr (by rw [h]; simp)
      · exact (mem_aput h).imp id (List.mem_cons_of_mem _)
set_option maxHeartbeats 4000000 in
set_option maxRecDepth 100000 in
theorem best1_keep {came : List (Int × Sl)} {x o : Sl} (h : aget came x.slot = some o) (hl : ¬ o.bal.lt x.bal) : best1 came x = came := by
  unfold best1; rw [h]; exact if_neg hl
set_option maxHeartbeats 4000000 in
set_option maxRecDepth 100000 in
theorem best1_put {came : List (Int × Sl)} {x : Sl} (h : ∀ o, aget came x.slot = some o → o.bal.lt x.bal) : best1 came x = aput came x.slot x := by
  unfold best1
  cases hg : aget came x.slot with
  | none => rfl
  | some o => exact if_pos (h o hg)
set_option maxHeartbeats 4000000 in
set_option maxRecDepth 100000 in
theorem wrong_zero {a : Ld} {l : List Sl} (h : a.wrong l = 0) : good1 a l ∧ good3 a l ∧ good4 l := by
  unfold Ld.wrong at h
  split at h
  · cases h
  · split at h
    · cases h
    · split at h
      · cases h
      · rename_i h1 h2 h3
        exact ⟨Classical.not_not.1 h1, Classical.not_not.1 h2, Classical.not_not.1 h3⟩
def keyOK1 (a : Ld) (came : List (Int × Sl)) : Prop := (∀ p ∈ came, p.1 = p.2.slot ∧ a.fr ≤ p.1 ∧ p.1 ≤ 1099511627776 ∧ p.1 ≤ a.fr + 4096) ∧ (came.map Prod.fst).Nodup
set_option maxHeartbeats 4000000 in
set_option maxRecDepth 100000 in
theorem best1_ok {a : Ld} {came : List (Int × Sl)} {x : Sl} (h : keyOK1 a came) (h1 : a.fr ≤ x.slot) (h2 : x.slot ≤ 1099511627776) (h3 : x.slot - a.fr ≤ 4096) : keyOK1 a (best1 came x) := by
  have hp : keyOK1 a (aput came x.slot x) := ⟨fun p hp => by
    rcases mem_aput hp with rfl | hp
    · exact ⟨rfl, h1, h2, by simp only; omega⟩
    · exact h.1 p hp, aput_nodup h.2⟩
  unfold best1
  split
  · split
    · exact hp
    · exact h
  · exact hp
set_option maxHeartbeats 4000000 in
set_option maxRecDepth 100000 in
theorem fold_ok {a : Ld} : ∀ {l : List Sl} {came : List (Int × Sl)}, keyOK1 a came → (∀ s ∈ l, a.fr ≤ s.slot ∧ s.slot ≤ 1099511627776 ∧ s.slot - a.fr ≤ 4096) → keyOK1 a (l.foldl best1 came)
  | [], _, h, _ => h
  | x :: l, came, h, g => fold_ok (l := l) (best1_ok h (g x (by simp)).1 (g x (by simp)).2.1 (g x (by simp)).2.2) fun s hs => g s (List.mem_cons_of_mem _ hs)
set_option maxHeartbeats 4000000 in
set_option maxRecDepth 100000 in
theorem ok_setp {a : Ld} (h : a.ok) (p : Nat → Bool) : Ld.ok { a with p := p } := ⟨h.n1, h.n5, h.f0, h.f1, h.x0, h.x1, h.key, h.nod, h.srt, h.sl, h.idle⟩
set_option maxHeartbeats 4000000 in
set_option maxRecDepth 100000 in
theorem ok_came {a : Ld} (h : a.ok) (p : Nat → Bool) {l : List Sl} (hw : a.wrong l = 0) : Ld.ok { a with p := p, came := l.foldl best1 a.came } := by
  obtain ⟨g1, g3, _⟩ := wrong_zero hw
  have hk : keyOK1 a (l.foldl best1 a.came) := fold_ok ⟨h.key, h.nod⟩ fun s hs => by
    obtain ⟨i, hi⟩ := List.mem_iff_getElem?.1 hs
    have := g1 i s hi
    exact ⟨this.1, this.2.1, g3 s hs⟩
  exact ⟨h.n1, h.n5, h.f0, h.f1, h.x0, h.x1, hk.1, hk.2, h.srt, h.sl, h.idle⟩
set_option maxHeartbeats 4000000 in
set_option maxRecDepth 100000 in
theorem ldAt (a : Ld) (m1 m2 : Nat) {k : Nat} (hk : k < 5) : (ldC a m1 m2)[0 + 4 + k * 1]? = some (.bool (a.p k)) := by
  rcases (by omega : k = 0 ∨ k = 1 ∨ k = 2 ∨ k = 3 ∨ k = 4) with rfl | rfl | rfl | rfl | rfl <;> rfl
set_option maxHeartbeats 4000000 in
set_option maxRecDepth 100000 in
theorem ldSet (b : Bal) (fr : Int) (n : Nat) (p : Nat → Bool) (ready : Bool) (m1 m2 : Nat) (next : Int) {k : Nat} (hk : k < 5) : (ldV b fr n p ready m1 m2 next).set (0 + 4 + k * 1) (.bool true) = ldV b fr n (setv p k) ready m1 m2 next := by
  rcases (by omega : k = 0 ∨ k = 1 ∨ k = 2 ∨ k = 3 ∨ k = 4) with rfl | rfl | rfl | rfl | rfl <;> rfl
set_option maxHeartbeats 4000000 in
set_option maxRecDepth 100000 in
theorem r_setp {r : LdR} {a : Ld} (h : r.ok a) (p : Nat → Bool) : r.ok { a with p := p } := ⟨h.best, h.open_, h.came, h.L, h.ch, h.bi, h.li, ok_setp h.a p⟩
structure PmS where
  j : Nat
  bes : Array MapEntry
  bclk : Nat
  lb : List (Int × SlR)
  M : Hp
structure PmOK (a : Ld) (l : List Sl) (M0 : Hp) (s : PmS) : Prop where
  map : MapK (Value.int .i64) slV s.bes s.bclk s.lb
  came : cOf s.lb = (l.take s.j).foldl best1 a.came
  bi : ∀ p ∈ s.lb, EnIn s.M p.2.en ∧ EnSz p.2.en.c
  more : ∀ x ∈ M0, x ∈ s.M
set_option maxHeartbeats 4000000 in
set_option maxRecDepth 100000 in
theorem PmOK.keep {a : Ld} {l : List Sl} {M0 : Hp} {s : PmS} (h : PmOK a l M0 s) {x : SlR} (hx : l[s.j]? = some x.c) {o : SlR} (hg : aget s.lb x.slot = some o) (hl : ¬ o.bal.lt x.bal) : PmOK a l M0 ⟨s.j + 1, s.bes, s.bclk, s.lb, s.M⟩ :=
  ⟨h.map, by
    rw [List.take_add_one, hx]
    show _ = (l.take s.j ++ [x.c]).foldl best1 a.came
    rw [List.foldl_append, ← h.came]
    exact (best1_keep (o := o.c) (by rw [show x.c.slot = x.slot from rfl, aget_lb, hg]; rfl) hl).symm, h.bi, h.more⟩
set_option maxHeartbeats 4000000 in
set_option maxRecDepth 100000 in
theorem PmOK.put {a : Ld} {l : List Sl} {M0 : Hp} {s : PmS} (h : PmOK a l M0 s) {x : SlR} (hx : l[s.j]? = some x.c) (hl : ∀ o, aget s.lb x.slot = some o → o.bal.lt x.bal) {y : EnR} (hy : y.c = x.en.c) {Bo Bd : Hp} (hO : EnO y Bo Bd) (hz : EnSz x.en.c) {es : Array MapEntry} {clk : Nat}
    (hM : MapK (Value.int .i64) slV es clk (aput s.lb x.slot ⟨x.slot, x.bal, y, [], []⟩)) : PmOK a l M0 ⟨s.j + 1, es, clk, aput s.lb x.slot ⟨x.slot, x.bal, y, [], []⟩, (Bo ++ Bd) ++ s.M⟩ := by
  refine ⟨hM, ?_, ?_, fun z hz => List.mem_append_right _ (h.more z hz)⟩
  · rw [List.take_add_one, hx]
    show _ = (l.take s.j ++ [x.c]).foldl best1 a.came
    rw [List.foldl_append, ← h.came, aput_cOf]
    have : best1 (cOf s.lb) x.c = aput (cOf s.lb) x.c.slot x.c := best1_put fun o ho => by
      rw [show x.c.slot = x.slot from rfl, aget_lb] at ho
      cases hg : aget s.lb x.slot with
      | none => rw [hg] at ho; cases ho
      | some q => rw [hg] at ho; cases ho; exact hl q hg
    show _ = best1 (cOf s.lb) x.c
    rw [this]
    show aput (cOf s.lb) x.slot ⟨x.slot, x.bal, y.c⟩ = aput (cOf s.lb) x.slot ⟨x.slot, x.bal, x.en.c⟩
    rw [hy]
  · intro p hp
    rcases mem_aput hp with rfl | hp
    · exact ⟨(EnO.inn hO).more fun z hz => List.mem_append_left _ hz, by rw [show y.c = x.en.c from hy]; exact hz⟩
    · exact ⟨((h.bi p hp).1).more fun z hz => List.mem_append_right _ hz, (h.bi p hp).2⟩
end Go.Vl
