/-
  The document's acceptor (orchardref07): a list by slots whose elements share memory; entries are the same.
-/
import Derived.Test.YtagdhnbodddipaaA7
import Derived.Test.YtagdhnbodddipaaAQ
namespace Go.Vl
open Go.Proofs
abbrev rfb (d : Nat) (prom : Bal) (first : Int) (v : Value) : Hp := [(d, cellsO [.int .i64 prom.r, .int .i64 prom.p, .int .i64 first, v] 64)]
/-- the document's acceptor in memory -/
def RfO (a : Ac) (d : Nat) (H : Hp) : Prop := ∃ (v : Value) (ls : List SlR) (Bs Pl : Hp), H = rfb d a.prom a.first v ++ (Bs ++ Pl) ∧ ls.map SlR.c = a.L ∧ SlO 52 59 v ls.length (ls.map SlR.cells).flatten Bs ∧ (∀ s ∈ ls, EnIn Pl s.en)
set_option maxHeartbeats 4000000 in
set_option maxRecDepth 100000 in
theorem pool_more {P Q : Hp} {ls : List SlR} (h : ∀ s ∈ ls, EnIn P s.en) : ∀ s ∈ ls, EnIn (Q ++ P) s.en := fun s hs => (h s hs).more fun _ hx => List.mem_append_right _ hx
attribute [local irreducible] wpC wpO wpD Ex Rd callsK RetP Drop valK
set_option maxHeartbeats 4000000 in
set_option maxRecDepth 100000 in
theorem rclone_spec (e : World) {x : EnR} {P F : Hp} {K : Value → Hp → Prop} (hx : EnIn P x) (hz : EnSz x.c) (hK : ∀ y : EnR, y.c = x.c → ∀ Bo Bd, EnO y Bo Bd → K (.agg y.cells.toArray) ((Bo ++ Bd) ++ (P ++ F))) :
    callsK Try.prog e 24 #[.agg x.cells.toArray] (P ++ F) K := by
  have hxo := hx.o
  have hxd := hx.d
  have hno : SlO 39 8 (.slice none 0 0) 0 [] [] := SlO.nil 39 8
  have hzo := hz.o
  have hzd := hz.d
  refine calls_body (N := 14) (args := [.agg x.cells.toArray]) Try.func24 rfl rfl rfl (by simp) ?_
  repeat' ((fail_if_success (show wpC _ (.seq (.region 2 _ _) _) _ _ _ _)); first | (show wpO _ _ _ _ _ _ _; first | refine wpO_nil ?_ | refine s_rdp ?_ | refine s_rdm ?_ | refine s_exq ?_ | refine s_exm ?_) | (show Ex _ _ _ _ _; first | (show Ex _ ⟨_, .alloc _, _, _, _, _⟩ _ _ _; first | (refine e_allocA ?_; intro _) | (refine e_alloc1 ?_; intro _)) | (show Ex _ ⟨_, .box _ _, _, _, _, _⟩ _ _ _; first | (refine e_boxA ?_; intro _) | (refine e_box1 ?_; intro _)) | (show Ex _ ⟨_, .store _ _ _, _, _, _, _⟩ _ _ _; first | refine e_store1 ?_ | refine e_storeA ?_ | (refine e_storeO ?_; intro _ _)) | (show Ex _ ⟨_, .call ⟨.builtin .append, _, _⟩, _, _, _, _⟩ _ _ _; (first | refine e_append ?_ | refine e_appendIn ?_); intro _ _ _)) | (show wpC _ _ _ _ _ _; first | refine wpC_seq ?_ | refine wpC_region ?_ | refine wpC_ret ?_ | refine wpC_skip ?_ | refine wpC_label ?_) | (show Then _ _ _ _ _ _ _; first | refine then_normal ?_ | refine then_ret ?_) | (show RetP _ _ _ _ _ _ _ _; first | refine r_C1 ?_ | refine r_DC ?_))
  rename_i b1 b2 v1 B1 h1
  obtain ⟨a1, c1, hv1⟩ := SlO.val h1
  subst hv1
  have h1' := h1
  clear h1 hno
  have e1 : 0 + x.c.ops.length = x.c.ops.length := Nat.zero_add _
  simp only [Nat.zero_add, List.nil_append] at h1'
  have h1 : True ∧ SlO 39 8 (.slice a1 x.c.ops.length c1) x.c.ops.length (x.c.ops.map OpC.cells).flatten B1 := ⟨trivial, h1'⟩
  clear h1'
  have hnd : SlO 5 1 (.slice none 0 0) 0 [] [] := SlO.nil 5 1
  repeat' ((fail_if_success (show wpC _ (.seq (.region 3 _ _) _) _ _ _ _)); first | (show wpO _ _ _ _ _ _ _; first | refine wpO_nil ?_ | refine s_rdp ?_ | refine s_rdm ?_ | refine s_exq ?_ | refine s_exm ?_) | (show Ex _ _ _ _ _; first | (show Ex _ ⟨_, .alloc _, _, _, _, _⟩ _ _ _; first | (refine e_allocA ?_; intro _) | (refine e_alloc1 ?_; intro _)) | (show Ex _ ⟨_, .box _ _, _, _, _, _⟩ _ _ _; first | (refine e_boxA ?_; intro _) | (refine e_box1 ?_; intro _)) | (show Ex _ ⟨_, .store _ _ _, _, _, _, _⟩ _ _ _; first | refine e_store1 ?_ | refine e_storeA ?_ | (refine e_storeO ?_; intro _ _)) | (show Ex _ ⟨_, .call ⟨.builtin .append, _, _⟩, _, _, _, _⟩ _ _ _; (first | refine e_append ?_ | refine e_appendIn ?_); intro _ _ _)) | (show wpC _ _ _ _ _ _; first | refine wpC_seq ?_ | refine wpC_region ?_ | refine wpC_ret ?_ | refine wpC_skip ?_ | refine wpC_label ?_) | (show Then _ _ _ _ _ _ _; first | refine then_normal ?_ | refine then_ret ?_) | (show RetP _ _ _ _ _ _ _ _; first | refine r_C1 ?_ | refine r_DC ?_))
  rename_i v2 B2 h2
  obtain ⟨a2, c2, hv2⟩ := SlO.val h2
  subst hv2
  have e2 : 0 + x.c.data.length = x.c.data.length := Nat.zero_add _
  simp only [Nat.zero_add, List.nil_append] at h2
  repeat' (first | refine r_CA ?_ | (show wpO _ _ _ _ _ _ _; first | refine wpO_nil ?_ | refine s_rdp ?_ | refine s_rdm ?_ | refine s_exq ?_ | refine s_exm ?_) | (show Ex _ _ _ _ _; first | (show Ex _ ⟨_, .alloc _, _, _, _, _⟩ _ _ _; first | (refine e_allocA ?_; intro _) | (refine e_alloc1 ?_; intro _)) | (show Ex _ ⟨_, .box _ _, _, _, _, _⟩ _ _ _; first | (refine e_boxA ?_; intro _) | (refine e_box1 ?_; intro _)) | (show Ex _ ⟨_, .store _ _ _, _, _, _, _⟩ _ _ _; first | refine e_store1 ?_ | refine e_storeA ?_ | (refine e_storeO ?_; intro _ _)) | (show Ex _ ⟨_, .call ⟨.builtin .append, _, _⟩, _, _, _, _⟩ _ _ _; (first | refine e_append ?_ | refine e_appendIn ?_); intro _ _ _)) | (show wpC _ _ _ _ _ _; first | refine wpC_seq ?_ | refine wpC_region ?_ | refine wpC_ret ?_ | refine wpC_skip ?_ | refine wpC_label ?_) | (show Then _ _ _ _ _ _ _; first | refine then_normal ?_ | refine then_ret ?_) | (show RetP _ _ _ _ _ _ _ _; first | refine r_C1 ?_ | refine r_DC ?_))
  exact q_drop (hK ⟨x.c, a1, c1, a2, c2⟩ rfl B1 B2 ⟨h1.2, h2⟩)
set_option maxHeartbeats 4000000 in
set_option maxRecDepth 100000 in
theorem op_refl (x : OpC) : eqW Try.prog 4 39 (.agg x.cells.toArray) (.agg x.cells.toArray) = some true := eqW_refl (by kernel_rfl)
set_option maxHeartbeats 4000000 in
set_option maxRecDepth 100000 in
theorem ep_refl (x : EnC) : eqW Try.prog 4 45 (.agg #[.int .i64 x.num, .int .i64 (x.st 0), .int .i64 (x.st 1), .int .i64 (x.st 2), .int .i64 (x.st 3), .int .i64 (x.st 4), .int .i64 (x.st 5), .int .i64 (x.st 6), .int .i64 (x.st 7),
  .int .i64 (x.sea 0), .int .i64 (x.sea 1), .int .i64 (x.sea 2), .int .i64 (x.sea 3), .int .i64 (x.sea 4), .int .i64 (x.sea 5), .int .i64 (x.sea 6), .int .i64 (x.sea 7),
  .int .i64 (x.spo 0), .int .i64 (x.spo 1), .int .i64 (x.spo 2), .int .i64 (x.spo 3), .int .i64 (x.spo 4), .int .i64 (x.spo 5), .int .i64 (x.spo 6), .int .i64 (x.spo 7)]) (.agg #[.int .i64 x.num, .int .i64 (x.st 0), .int .i64 (x.st 1), .int .i64 (x.st 2), .int .i64 (x.st 3), .int .i64 (x.st 4), .int .i64 (x.st 5), .int .i64 (x.st 6), .int .i64 (x.st 7),
  .int .i64 (x.sea 0), .int .i64 (x.sea 1), .int .i64 (x.sea 2), .int .i64 (x.sea 3), .int .i64 (x.sea 4), .int .i64 (x.sea 5), .int .i64 (x.sea 6), .int .i64 (x.sea 7),
  .int .i64 (x.spo 0), .int .i64 (x.spo 1), .int .i64 (x.spo 2), .int .i64 (x.spo 3), .int .i64 (x.spo 4), .int .i64 (x.spo 5), .int .i64 (x.spo 6), .int .i64 (x.spo 7)]) = some true := eqW_refl (by kernel_rfl)
set_option maxHeartbeats 4000000 in
set_option maxRecDepth 100000 in
theorem ve_refl (x : EnC) : eqW Try.prog 4 43 (.agg #[.int .i64 (x.vec 0), .int .i64 (x.vec 1), .int .i64 (x.vec 2), .int .i64 (x.vec 3), .int .i64 (x.vec 4), .int .i64 (x.vec 5), .int .i64 (x.vec 6), .int .i64 (x.vec 7)]) (.agg #[.int .i64 (x.vec 0), .int .i64 (x.vec 1), .int .i64 (x.vec 2), .int .i64 (x.vec 3), .int .i64 (x.vec 4), .int .i64 (x.vec 5), .int .i64 (x.vec 6), .int .i64 (x.vec 7)]) = some true := eqW_refl (by kernel_rfl)
end Go.Vl
