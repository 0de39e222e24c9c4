/-
  The laws' own first look at an acceptor; AcceptorBallots.
-/
import Derived.Test.YtagdhnbodddipaaA5
namespace Go.Vl
open Go.Proofs
abbrev zeroE : EnR := ⟨⟨0, 0, 0, ⟨0, 0, 0, 0, 0, ⟨#[]⟩, ⟨#[]⟩, ⟨#[]⟩⟩, 0, 0, [], 0, fun _ => 0, fun _ => 0, fun _ => 0, 0, fun _ => 0, 0, 0, 0, 0, [], 0, 0, 0⟩, none, 0, none, 0⟩
set_option maxHeartbeats 4000000 in
set_option maxRecDepth 100000 in
theorem zeroE_in : EnIn [] zeroE := ⟨InSl.nil, InSl.nil⟩
set_option maxHeartbeats 4000000 in
set_option maxRecDepth 100000 in
theorem zeroE_sz : EnSz zeroE.c := ⟨by decide, by decide⟩
set_option maxHeartbeats 4000000 in
set_option maxRecDepth 100000 in
theorem AcR.nil : AcR [] [] := ⟨.refl _, .nil, (fun s hs => by cases hs), (fun s hs => by cases hs)⟩
attribute [local irreducible] wpC wpO wpD Ex Rd callsK RetP Drop valK
set_option maxHeartbeats 4000000 in
set_option maxRecDepth 100000 in
theorem anew2 (e : World) {F : Hp} {K : Value → Hp → Prop} (hK : ∀ d m, K (pv d) ((accO d m #[] 0 ⟨0, 0⟩ 0 ++ acH []) ++ F)) : callsK Try.prog e 19 #[] F K :=
  anew_spec e fun d m => by have := hK d m; rwa [show acH [] = [] from rfl, List.append_nil] at this
set_option maxHeartbeats 4000000 in
set_option maxRecDepth 100000 in
theorem live_p (e : World) {d m : Nat} {F : Hp} {K : Value → Hp → Prop} (hK : ∀ v Bs ls, K (.tuple #[v, .int .i64 0]) ((Bs ++ acH ls) ++ ((accO d m #[] 0 ⟨2, 0⟩ 0 ++ acH []) ++ F))) :
    callsK Try.prog e 20 #[pv d, .agg #[.int .i64 2, .int .i64 0], .int .i64 0] ((accO d m #[] 0 ⟨0, 0⟩ 0 ++ acH []) ++ F) K :=
  prepare_spec (b := ⟨2, 0⟩) (prom := ⟨0, 0⟩) e (MapK.nil _ _) AcR.nil (by simp) (fun h => absurd h (by decide)) (fun _ _ h => absurd h (by decide)) (fun _ _ _ v Bs ls _ _ _ => hK v Bs ls)
set_option maxHeartbeats 4000000 in
set_option maxRecDepth 100000 in
theorem live_a1 (e : World) {d m : Nat} {F : Hp} {K : Value → Hp → Prop} (hK : K (.int .i64 70) ((accO d m #[] 0 ⟨2, 0⟩ 0 ++ acH []) ++ F)) :
    callsK Try.prog e 22 #[pv d, .agg #[.int .i64 1, .int .i64 0], .int .i64 0, .agg zeroE.cells.toArray] ((accO d m #[] 0 ⟨2, 0⟩ 0 ++ acH []) ++ F) K := by
  have h := accept_spec (d := d) (m := m) (b := ⟨1, 0⟩) (prom := ⟨2, 0⟩) (first := 0) (n := 0) (F := F) (K := K) e (MapK.nil _ _) AcR.nil zeroE_in zeroE_sz (fun h => absurd h (by decide)) (fun _ _ _ => by rw [List.append_nil]; exact hK) (fun _ _ h => absurd h (by decide)) (fun _ _ h => absurd h (by decide))
  rwa [List.append_nil] at h
set_option maxHeartbeats 4000000 in
set_option maxRecDepth 100000 in
theorem live_a2 (e : World) {d m : Nat} {F : Hp} {K : Value → Hp → Prop} (hK : ∀ es clk l, MapS es clk l → l.length = 1 → K (.int .i64 0) ((accO d m es clk ⟨2, 0⟩ 0 ++ acH l) ++ F)) :
    callsK Try.prog e 22 #[pv d, .agg #[.int .i64 2, .int .i64 0], .int .i64 3, .agg zeroE.cells.toArray] ((accO d m #[] 0 ⟨2, 0⟩ 0 ++ acH []) ++ F) K := by
  have h := accept_spec (d := d) (m := m) (b := ⟨2, 0⟩) (prom := ⟨2, 0⟩) (first := 0) (n := 3) (F := F) (K := K) e (MapK.nil _ _) AcR.nil zeroE_in zeroE_sz (fun h => absurd h (by decide)) (fun _ _ h => absurd h (by decide)) (fun _ _ _ h => absurd h (by decide)) (fun _ _ _ _ es clk l hM hR => by rw [List.append_nil]; exact hK es clk l hM hR.len)
  rwa [List.append_nil] at h
set_option maxHeartbeats 4000000 in
set_option maxRecDepth 100000 in
theorem live_c (e : World) {F : Hp} {K : Value → Hp → Prop} (hK : K (.bool true) F) : callsK Try.prog e 17 #[.agg #[.int .i64 1, .int .i64 0]] F K := check_E (b := ⟨1, 0⟩) e (by decide) hK
set_option maxHeartbeats 4000000 in
set_option maxRecDepth 100000 in
theorem live_spec (e : World) {F : Hp} {K : Value → Hp → Prop} (hK : K (.bool true) F) : callsK Try.prog e 14 #[] F K := by
  refine calls_body (N := 42) (args := []) Try.func14 rfl rfl rfl (by simp) ?_
  repeat' (first | (show wpO _ _ _ _ _ _ _; first | refine wpO_nil ?_ | (show wpO _ _ _ (⟨_, .binOp _ _ _ _ _, _, _, _, _⟩ :: _) _ _ _; first | refine s_tt ?_ | refine s_ff ?_ | refine s_rdp ?_ | (refine s_cmp (fun _ => ?_) (fun _ => ?_) <;> (first | (exfalso; omega) | contradiction | skip)) | (refine s_cb (fun _ => ?_) (fun _ => ?_) <;> (first | (exfalso; omega) | contradiction | skip)) | refine s_sks ?_ | (refine s_g (fun _ => ?_) (fun _ => ?_) <;> (first | (exfalso; omega) | contradiction | skip))) | (show wpO _ _ _ (⟨_, .pick _ _ _, _, _, _, _⟩ :: _) _ _ _; first | refine s_rdp ?_ | (refine s_p (fun _ => ?_) (fun _ => ?_) <;> (first | (exfalso; omega) | contradiction | skip)) | refine s_sks ?_ | (refine s_g (fun _ => ?_) (fun _ => ?_) <;> (first | (exfalso; omega) | contradiction | skip))) | refine s_rdp ?_ | refine s_rdm ?_ | refine s_exq ?_ | refine s_exm ?_ | refine s_sks ?_ | refine s_skn ?_ | (refine s_g (fun _ => ?_) (fun _ => ?_) <;> (first | (exfalso; omega) | contradiction | skip))) | (show Ex _ _ _ _ _; first | (show Ex _ ⟨_, .call ⟨.value (.func _), _, _⟩, _, _, _, _⟩ _ _ _; refine e_call ?_; first | (apply anew2 _) | (apply p_pcs; apply live_p _; (try case hS => assumption); (case hpcs => (repeat (first | exact Pcs.blk (by infer_instance) | exact Pcs.nil | (apply Pcs.cons; infer_instance) | apply Pcs.app)))) | (apply p_pcs; apply live_a1 _; (try case hS => assumption); (case hpcs => (repeat (first | exact Pcs.blk (by infer_instance) | exact Pcs.nil | (apply Pcs.cons; infer_instance) | apply Pcs.app)))) | (apply p_pcs; apply live_a2 _; (try case hS => assumption); (case hpcs => (repeat (first | exact Pcs.blk (by infer_instance) | exact Pcs.nil | (apply Pcs.cons; infer_instance) | apply Pcs.app)))) | (apply p_pcs; apply len_a _ ‹_›; (try case hS => assumption); (case hpcs => (repeat (first | exact Pcs.blk (by infer_instance) | exact Pcs.nil | (apply Pcs.cons; infer_instance) | apply Pcs.app)))) | (apply live_c _))) | (show wpC _ _ _ _ _ _; first | refine wpC_seq ?_ | refine wpC_region ?_ | refine c_true ?_ | refine c_false ?_ | (refine c_b (fun _ => ?_) (fun _ => ?_) <;> (first | (exfalso; omega) | contradiction | skip)) | refine wpC_ret ?_ | refine wpC_skip ?_ | refine wpC_label ?_) | (show Then _ _ _ _ _ _ _; first | refine then_normal ?_ | refine then_ret ?_) | (show RetP _ _ _ _ _ _ _ _; first | refine r_1 ?_) | assumption | intro _)
  all_goals exact q_drop hK
set_option maxHeartbeats 4000000 in
set_option maxRecDepth 100000 in
theorem ballots_law (e : World) {a b : Bal} {I : Hp} {K : Value → Hp → Prop} (hK : K (.bool true) (I ++ [])) : callsK Try.prog e 3 #[.agg a.cells.toArray, .agg b.cells.toArray] (I ++ []) K := by
  refine calls_body (N := 22) (args := [.agg a.cells.toArray, .agg b.cells.toArray]) Try.func3 rfl rfl rfl (by simp) ?_
  repeat' (first | (show wpO _ _ _ _ _ _ _; first | refine wpO_nil ?_ | (show wpO _ _ _ (⟨_, .binOp _ _ _ _ _, _, _, _, _⟩ :: _) _ _ _; first | refine s_tt ?_ | refine s_ff ?_ | refine s_rdp ?_ | (refine s_cmp (fun _ => ?_) (fun _ => ?_) <;> (first | (exfalso; omega) | contradiction | skip)) | (refine s_cb (fun _ => ?_) (fun _ => ?_) <;> (first | (exfalso; omega) | contradiction | skip)) | refine s_sks ?_ | (refine s_g (fun _ => ?_) (fun _ => ?_) <;> (first | (exfalso; omega) | contradiction | skip))) | (show wpO _ _ _ (⟨_, .pick _ _ _, _, _, _, _⟩ :: _) _ _ _; first | refine s_rdp ?_ | (refine s_p (fun _ => ?_) (fun _ => ?_) <;> (first | (exfalso; omega) | contradiction | skip)) | refine s_sks ?_ | (refine s_g (fun _ => ?_) (fun _ => ?_) <;> (first | (exfalso; omega) | contradiction | skip))) | refine s_rdp ?_ | refine s_rdm ?_ | refine s_exq ?_ | refine s_exm ?_ | refine s_sks ?_ | refine s_skn ?_ | (refine s_g (fun _ => ?_) (fun _ => ?_) <;> (first | (exfalso; omega) | contradiction | skip))) | (show Ex _ _ _ _ _; first | (show Ex _ ⟨_, .call ⟨.value (.func _), _, _⟩, _, _, _, _⟩ _ _ _; refine e_call ?_; first | (apply live_spec _) | (apply compare_spec _) | (apply rcompare_spec _) | (apply check_spec _) | (apply rcheck_spec _)) | (show Ex _ ⟨_, .box _ _, _, _, _, _⟩ _ _ _; first | (refine e_boxA ?_; intro _) | (refine e_box1 ?_; intro _))) | (show wpC _ _ _ _ _ _; first | refine wpC_seq ?_ | refine wpC_region ?_ | refine wpC_ret ?_ | refine wpC_skip ?_ | refine wpC_label ?_ | (apply wpC_drawX (id := 1) ([]) [0, 1, 2, 3, 5, 6, 4, 7, 8, 9, 10, 11, 13, 12, 14, 15, 16, 17] rfl (by kernel_rfl); (case hpk => (repeat (first | exact Pcs.blk (by infer_instance) | exact Pcs.nil | (apply Pcs.cons; infer_instance) | apply Pcs.app))))) | (show Then _ _ _ _ _ _ _; first | refine then_normal ?_ | refine then_ret ?_) | (show wpD _ _ _ _ _ _ _ _; first | refine wpD_nil ?_ | refine d_rdp ?_ | refine d_rdm ?_ | refine d_sks ?_ | refine d_tt ?_ | refine d_ff ?_ | (refine d_cmp (fun _ => ?_) (fun _ => ?_) <;> (first | (exfalso; omega) | contradiction | skip)) | (refine d_cb (fun _ => ?_) (fun _ => ?_) <;> (first | (exfalso; omega) | contradiction | skip)) | refine d_exs ?_ | refine d_exn ?_ | (refine d_p (fun _ => ?_) (fun _ => ?_) <;> (first | (exfalso; omega) | contradiction | skip)) | (refine d_g (fun _ => ?_) (fun _ => ?_) <;> (first | (exfalso; omega) | contradiction | skip))) | (show (_ ∨ Subs _ _) ∧ _; first | refine d_sub ?_ | refine d_cov ?_) | (show RetP _ _ _ _ _ _ _ _; first | refine r_1 ?_) | assumption | intro _)
  all_goals exact q_drop hK
end Go.Vl
