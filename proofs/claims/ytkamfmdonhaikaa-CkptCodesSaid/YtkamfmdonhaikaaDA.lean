/-
  A script's operation, with the program alone.
-/
import Derived.Test.YtkamfmdonhaikaaD9
namespace Go.Vl
open Go.Proofs
attribute [local irreducible] wpC wpO wpD Ex Rd callsK RetP Drop valK
set_option maxHeartbeats 4000000 in
set_option maxRecDepth 100000 in
theorem run0 {s : DS} {room : Int} {o : OpD}  (h : o.kind = 0) : s.run room o = s.append room o.nm o.bs := by unfold DS.run; rw [if_pos h]
set_option maxHeartbeats 4000000 in
set_option maxRecDepth 100000 in
theorem run1 {s : DS} {room : Int} {o : OpD} (h0 : ¬ o.kind = 0) (h : o.kind = 1) : s.run room o = s.sync o.nm := by unfold DS.run; rw [if_neg h0, if_pos h]
set_option maxHeartbeats 4000000 in
set_option maxRecDepth 100000 in
theorem run3 {s : DS} {room : Int} {o : OpD} (h0 : ¬ o.kind = 0) (h1 : ¬ o.kind = 1) (h : o.kind = 3) : s.run room o = s.remove o.nm := by unfold DS.run; rw [if_neg h0, if_neg h1, if_pos h]
set_option maxHeartbeats 4000000 in
set_option maxRecDepth 100000 in
theorem run4 {s : DS} {room : Int} {o : OpD} (h0 : ¬ o.kind = 0) (h1 : ¬ o.kind = 1) (h3 : ¬ o.kind = 3) (h : o.kind = 4) : s.run room o = s.rename o.nm o.to := by unfold DS.run; rw [if_neg h0, if_neg h1, if_neg h3, if_pos h]
set_option maxHeartbeats 4000000 in
set_option maxRecDepth 100000 in
theorem run6 {s : DS} {room : Int} {o : OpD} (h0 : ¬ o.kind = 0) (h1 : ¬ o.kind = 1) (h3 : ¬ o.kind = 3) (h4 : ¬ o.kind = 4) (h : o.kind = 6) : s.run room o = s.setFuse o.k o.keep := by unfold DS.run; rw [if_neg h0, if_neg h1, if_neg h3, if_neg h4, if_pos h]
set_option maxHeartbeats 4000000 in
set_option maxRecDepth 100000 in
theorem run7 {s : DS} {room : Int} {o : OpD} (h0 : ¬ o.kind = 0) (h1 : ¬ o.kind = 1) (h3 : ¬ o.kind = 3) (h4 : ¬ o.kind = 4) (h6 : ¬ o.kind = 6) (h : o.kind = 7) : s.run room o = s.crash o.keep := by unfold DS.run; rw [if_neg h0, if_neg h1, if_neg h3, if_neg h4, if_neg h6, if_pos h]
set_option maxHeartbeats 4000000 in
set_option maxRecDepth 100000 in
theorem run8 {s : DS} {room : Int} {o : OpD} (h0 : ¬ o.kind = 0) (h1 : ¬ o.kind = 1) (h3 : ¬ o.kind = 3) (h4 : ¬ o.kind = 4) (h6 : ¬ o.kind = 6) (h7 : ¬ o.kind = 7) (h : o.kind = 8) : s.run room o = s.restart := by unfold DS.run; rw [if_neg h0, if_neg h1, if_neg h3, if_neg h4, if_neg h6, if_neg h7, if_pos h]
set_option maxHeartbeats 4000000 in
set_option maxRecDepth 100000 in
theorem runX {s : DS} {room : Int} {o : OpD} (h0 : ¬ o.kind = 0) (h1 : ¬ o.kind = 1) (h3 : ¬ o.kind = 3) (h4 : ¬ o.kind = 4) (h6 : ¬ o.kind = 6) (h7 : ¬ o.kind = 7) (h8 : ¬ o.kind = 8) : s.run room o = (0, s) := by unfold DS.run; rw [if_neg h0, if_neg h1, if_neg h3, if_neg h4, if_neg h6, if_neg h7, if_neg h8]
set_option maxHeartbeats 4000000 in
set_option maxRecDepth 100000 in
theorem run_D (e : World) {o : OpD} {Fn F : Hp} {d m : Nat} {x : Dk} {room : Int} {K : Value → Hp → Prop} (hx : x.ok room) (hr : room ≤ 9223372036854775807) (hk : o.k ≤ 9223372036854775807) (hS : InSl Fn 1 (o.bs.map byC) o.v) (hb : o.bs.length ≤ 9223372036854775807) (hcap : (o.bs.length : Int) + tot x.l ≤ room → o.bs.length + tot x.l ≤ 140737488355328) (ht : tot x.l ≤ 140737488355328)
    (hK : ∀ x' : Dk, x'.ok room → x'.ds.E (x.ds.run room o).2 → K (.int .i64 (x.ds.run room o).1) ((x'.hp d m room ++ Fn) ++ F)) :
    callsK Try.prog e 18 #[pv d, .agg o.cells.toArray] ((x.hp d m room ++ Fn) ++ F) K := by
  obtain ⟨kind, nm, to, a, c, bs, k, keep⟩ := o
  simp only at hS hb hcap hk ⊢
  refine calls_body (N := 53) (args := [pv d, .agg (OpD.mk kind nm to a c bs k keep).cells.toArray]) Try.func18 rfl rfl rfl (by simp) ?_
  repeat' (first | (show wpO _ _ _ _ _ _ _; first | refine wpO_nil ?_ | (show wpO _ _ _ (⟨_, .binOp _ _ _ _ _, _, _, _, _⟩ :: _) _ _ _; first | refine s_tt ?_ | refine s_ff ?_ | refine s_rdp ?_ | (refine s_cmp (fun _ => ?_) (fun _ => ?_) <;> (first | (exfalso; omega) | contradiction | skip)) | (refine s_cb (fun _ => ?_) (fun _ => ?_) <;> (first | (exfalso; omega) | contradiction | skip))) | refine s_rdp ?_ | refine s_rdm ?_ | refine s_exq ?_ | refine s_exm ?_) | (show Ex _ _ _ _ _; first | (show Ex _ ⟨_, .call ⟨.value (.func _), _, _⟩, _, _, _, _⟩ _ _ _; refine e_call ?_; first | (apply p_pcs; apply append_D _ hx hr hS hb hcap; (try case hS => assumption); (case hpcs => (repeat (first | exact Pcs.blk (by infer_instance) | exact Pcs.nil | (apply Pcs.cons; infer_instance) | apply Pcs.app)))) | (apply p_pcs; apply sync_D _ hx ht; (try case hS => assumption); (case hpcs => (repeat (first | exact Pcs.blk (by infer_instance) | exact Pcs.nil | (apply Pcs.cons; infer_instance) | apply Pcs.app)))) | (apply p_pcs; apply remove_D _ hx ht; (try case hS => assumption); (case hpcs => (repeat (first | exact Pcs.blk (by infer_instance) | exact Pcs.nil | (apply Pcs.cons; infer_instance) | apply Pcs.app)))) | (apply p_pcs; apply rename_D _ hx; (try case hS => assumption); (case hpcs => (repeat (first | exact Pcs.blk (by infer_instance) | exact Pcs.nil | (apply Pcs.cons; infer_instance) | apply Pcs.app)))) | (apply p_pcs; apply setFuse_D _ hx hk; (try case hS => assumption); (case hpcs => (repeat (first | exact Pcs.blk (by infer_instance) | exact Pcs.nil | (apply Pcs.cons; infer_instance) | apply Pcs.app)))) | (apply p_pcs; apply crash_D _ hx; (try case hS => assumption); (case hpcs => (repeat (first | exact Pcs.blk (by infer_instance) | exact Pcs.nil | (apply Pcs.cons; infer_instance) | apply Pcs.app)))) | (apply p_pcs; apply restart_D _ hx; (try case hS => assumption); (case hpcs => (repeat (first | exact Pcs.blk (by infer_instance) | exact Pcs.nil | (apply Pcs.cons; infer_instance) | apply Pcs.app))))) | (show Ex _ ⟨_, .box _ _, _, _, _, _⟩ _ _ _; first | (refine e_boxA ?_; intro _) | (refine e_box1 ?_; intro _))) | (show wpC _ _ _ _ _ _; first | refine wpC_seq ?_ | refine wpC_region ?_ | refine c_true ?_ | refine c_false ?_ | (refine c_b (fun _ => ?_) (fun _ => ?_) <;> (first | (exfalso; omega) | contradiction | skip)) | refine wpC_block ?_ | refine wpC_ret ?_ | refine wpC_skip ?_ | refine wpC_label ?_) | (show Then _ _ _ _ _ _ _; first | refine then_normal ?_ | refine then_ret ?_) | (show InBlock _ _ _ _ _ _; first | refine inBlock_normal ?_ | refine inBlock_ret ?_ | refine inBlock_same ?_ | refine b_other ?_) | (show RetP _ _ _ _ _ _ _ _; first | refine r_1 ?_) | assumption | intro _)
  all_goals first | rw [run0 ‹_›] at hK | rw [run1 ‹_› ‹_›] at hK | rw [run3 ‹_› ‹_› ‹_›] at hK | rw [run4 ‹_› ‹_› ‹_› ‹_›] at hK | rw [run6 ‹_› ‹_› ‹_› ‹_› ‹_›] at hK | rw [run7 ‹_› ‹_› ‹_› ‹_› ‹_› ‹_›] at hK | rw [run8 ‹_› ‹_› ‹_› ‹_› ‹_› ‹_› ‹_›] at hK | rw [runX ‹_› ‹_› ‹_› ‹_› ‹_› ‹_› ‹_›] at hK
  all_goals first | exact q_drop (hK _ ‹_› ‹_›) | exact q_drop (hK x hx (.rfl _))
end Go.Vl
