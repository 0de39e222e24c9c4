/-
  Entries that are the same (the proposer's seat).
-/
import Derived.Test.YtpegidbkplgplaaPE
namespace Go.Vl
open Go.Proofs
set_option maxHeartbeats 4000000 in
set_option maxRecDepth 100000 in
theorem op_refl (x : OpC) : eqW Try.prog 4 30 (.agg x.cells.toArray) (.agg x.cells.toArray) = some true := eqW_refl (by kernel_rfl)
set_option maxHeartbeats 4000000 in
set_option maxRecDepth 100000 in
theorem ep_refl (x : EnC) : eqW Try.prog 4 36 (.agg #[.int .i64 x.num, .int .i64 (x.st 0), .int .i64 (x.st 1), .int .i64 (x.st 2), .int .i64 (x.st 3), .int .i64 (x.st 4), .int .i64 (x.st 5), .int .i64 (x.st 6), .int .i64 (x.st 7),
  .int .i64 (x.sea 0), .int .i64 (x.sea 1), .int .i64 (x.sea 2), .int .i64 (x.sea 3), .int .i64 (x.sea 4), .int .i64 (x.sea 5), .int .i64 (x.sea 6), .int .i64 (x.sea 7),
  .int .i64 (x.spo 0), .int .i64 (x.spo 1), .int .i64 (x.spo 2), .int .i64 (x.spo 3), .int .i64 (x.spo 4), .int .i64 (x.spo 5), .int .i64 (x.spo 6), .int .i64 (x.spo 7)]) (.agg #[.int .i64 x.num, .int .i64 (x.st 0), .int .i64 (x.st 1), .int .i64 (x.st 2), .int .i64 (x.st 3), .int .i64 (x.st 4), .int .i64 (x.st 5), .int .i64 (x.st 6), .int .i64 (x.st 7),
  .int .i64 (x.sea 0), .int .i64 (x.sea 1), .int .i64 (x.sea 2), .int .i64 (x.sea 3), .int .i64 (x.sea 4), .int .i64 (x.sea 5), .int .i64 (x.sea 6), .int .i64 (x.sea 7),
  .int .i64 (x.spo 0), .int .i64 (x.spo 1), .int .i64 (x.spo 2), .int .i64 (x.spo 3), .int .i64 (x.spo 4), .int .i64 (x.spo 5), .int .i64 (x.spo 6), .int .i64 (x.spo 7)]) = some true := eqW_refl (by kernel_rfl)
set_option maxHeartbeats 4000000 in
set_option maxRecDepth 100000 in
theorem ve_refl (x : EnC) : eqW Try.prog 4 34 (.agg #[.int .i64 (x.vec 0), .int .i64 (x.vec 1), .int .i64 (x.vec 2), .int .i64 (x.vec 3), .int .i64 (x.vec 4), .int .i64 (x.vec 5), .int .i64 (x.vec 6), .int .i64 (x.vec 7)]) (.agg #[.int .i64 (x.vec 0), .int .i64 (x.vec 1), .int .i64 (x.vec 2), .int .i64 (x.vec 3), .int .i64 (x.vec 4), .int .i64 (x.vec 5), .int .i64 (x.vec 6), .int .i64 (x.vec 7)]) = some true := eqW_refl (by kernel_rfl)
attribute [local irreducible] eqW eqV wpC wpO wpD Ex Rd callsK RetP Drop valK
set_option maxHeartbeats 4000000 in
set_option maxRecDepth 100000 in
theorem sameOps_spec (e : World) {os : List OpC} {v u : Value} {P F : Hp} {K : Value → Hp → Prop} (hv : InSl P 8 (os.map OpC.cells) v) (hu : InSl P 8 (os.map OpC.cells) u) (hl : os.length * 88 ≤ 140737488355328) (hK : K (.bool true) (P ++ F)) :
    callsK Try.prog e 51 #[v, u] (P ++ F) K := by
  have hv0 := hv
  have hu0 := hu
  obtain ⟨a1, c1, rfl, _⟩ := hv0
  obtain ⟨a2, c2, rfl, _⟩ := hu0
  have hml : (os.map OpC.cells).length = os.length := List.length_map _
  refine calls_body (N := 26) (args := [.slice a1 (os.map OpC.cells).length c1, .slice a2 (os.map OpC.cells).length c2]) Try.func51 rfl rfl rfl (by simp) ?_
  repeat' (first | (show wpO _ _ _ _ _ _ _; first | refine wpO_nil ?_ | (show wpO _ _ _ (⟨_, .binOp _ _ _ _ _, _, _, _, _⟩ :: _) _ _ _; first | refine s_tt ?_ | refine s_ff ?_ | refine s_rdp ?_ | (refine s_cmp (fun _ => ?_) (fun _ => ?_) <;> (first | (exfalso; omega) | contradiction | skip)) | (refine s_cb (fun _ => ?_) (fun _ => ?_) <;> (first | (exfalso; omega) | contradiction | skip))) | (show wpO _ _ _ (⟨_, .indexAddr _ _ _, _, _, _, _⟩ :: _) _ _ _; first | refine s_rdp ?_ | refine s_idx (fun _ _ _ _ _ _ _ => ?_)) | refine s_rdp ?_ | refine s_rdm ?_ | refine s_exq ?_ | refine s_exm ?_) | (show wpC _ _ _ _ _ _; first | refine wpC_seq ?_ | refine wpC_region ?_ | refine c_true ?_ | refine c_false ?_ | (refine c_b (fun _ => ?_) (fun _ => ?_) <;> (first | (exfalso; omega) | contradiction | skip)) | refine wpC_block ?_ | refine wpC_ret ?_ | refine wpC_skip ?_ | refine wpC_exit ?_ | refine wpC_label ?_ | (apply wpC_drawX (id := 6) ([]) [0, 1, 2, 3, 4, 5, 6, 7, 8] rfl (by kernel_rfl); (case hpk => (repeat (first | exact Pcs.blk (by infer_instance) | exact Pcs.nil | (apply Pcs.cons; infer_instance) | apply Pcs.app))))) | (show Then _ _ _ _ _ _ _; first | refine then_normal ?_ | refine then_ret ?_ | refine then_exit ?_) | (show InBlock _ _ _ _ _ _; first | refine inBlock_normal ?_ | refine inBlock_ret ?_ | refine inBlock_same ?_ | refine b_other ?_) | (show LoopPost _ _ _ _ _ _; first | refine loop_ret ?_ | refine loop_exit ?_) | (show wpD _ _ _ _ _ _ _ _; first | refine wpD_nil ?_ | refine d_rdp ?_ | refine d_rdm ?_ | refine d_tt ?_ | refine d_ff ?_ | (refine d_cmp (fun _ => ?_) (fun _ => ?_) <;> (first | (exfalso; omega) | contradiction | skip)) | (refine d_cb (fun _ => ?_) (fun _ => ?_) <;> (first | (exfalso; omega) | contradiction | skip)) | refine d_idx (fun _ _ _ _ _ _ _ => ?_) | refine d_exs ?_ | refine d_exn ?_) | (show (_ ∨ Subs _ _) ∧ _; first | refine d_sub ?_ | refine d_cov ?_) | (show RetP _ _ _ _ _ _ _ _; first | refine r_1 ?_))
  refine wpC_loopA (κ := Nat) [4, 5, 11, 12, 13, 14, 15, 16, 17, 18, 19, 20, 21, 22, 23, 24, 25] (fun i => [(5, .int .i64 (i : Int))]) (fun _ => P ++ F) (fun i => i ≤ os.length) (fun i => os.length - i) 0 (Nat.zero_le _) ⟨rfl, trivial⟩ q_drp ?_
  rintro i ρx hi
  cases hr : os[i]? with
  | none =>
    have hge : os.length ≤ i := List.getElem?_eq_none_iff.1 hr
    repeat' (first | (show wpO _ _ _ _ _ _ _; first | refine wpO_nil ?_ | (show wpO _ _ _ (⟨_, .binOp _ _ _ _ _, _, _, _, _⟩ :: _) _ _ _; first | refine s_tt ?_ | refine s_ff ?_ | refine s_rdp ?_ | (refine s_cmp (fun _ => ?_) (fun _ => ?_) <;> (first | (exfalso; omega) | contradiction | skip)) | (refine s_cb (fun _ => ?_) (fun _ => ?_) <;> (first | (exfalso; omega) | contradiction | skip))) | (show wpO _ _ _ (⟨_, .indexAddr _ _ _, _, _, _, _⟩ :: _) _ _ _; first | refine s_rdp ?_ | refine s_idx (fun _ _ _ _ _ _ _ => ?_)) | refine s_rdp ?_ | refine s_rdm ?_ | refine s_exq ?_ | refine s_exm ?_) | (show wpC _ _ _ _ _ _; first | refine wpC_seq ?_ | refine wpC_region ?_ | refine c_true ?_ | refine c_false ?_ | (refine c_b (fun _ => ?_) (fun _ => ?_) <;> (first | (exfalso; omega) | contradiction | skip)) | refine wpC_block ?_ | refine wpC_ret ?_ | refine wpC_skip ?_ | refine wpC_exit ?_ | refine wpC_label ?_ | (apply wpC_drawX (id := 6) ([]) [0, 1, 2, 3, 4, 5, 6, 7, 8] rfl (by kernel_rfl); (case hpk => (repeat (first | exact Pcs.blk (by infer_instance) | exact Pcs.nil | (apply Pcs.cons; infer_instance) | apply Pcs.app))))) | (show Then _ _ _ _ _ _ _; first | refine then_normal ?_ | refine then_ret ?_ | refine then_exit ?_) | (show InBlock _ _ _ _ _ _; first | refine inBlock_normal ?_ | refine inBlock_ret ?_ | refine inBlock_same ?_ | refine b_other ?_) | (show LoopPost _ _ _ _ _ _; first | refine loop_ret ?_ | refine loop_exit ?_) | (show wpD _ _ _ _ _ _ _ _; first | refine wpD_nil ?_ | refine d_rdp ?_ | refine d_rdm ?_ | refine d_tt ?_ | refine d_ff ?_ | (refine d_cmp (fun _ => ?_) (fun _ => ?_) <;> (first | (exfalso; omega) | contradiction | skip)) | (refine d_cb (fun _ => ?_) (fun _ => ?_) <;> (first | (exfalso; omega) | contradiction | skip)) | refine d_idx (fun _ _ _ _ _ _ _ => ?_) | refine d_exs ?_ | refine d_exn ?_) | (show (_ ∨ Subs _ _) ∧ _; first | refine d_sub ?_ | refine d_cov ?_) | (show RetP _ _ _ _ _ _ _ _; first | refine r_1 ?_))
    exact q_drop hK
  | some o =>
    have hlt := (List.getElem?_eq_some_iff.1 hr).1
    have heq := op_refl o
    repeat' (first | (show wpO _ _ _ _ _ _ _; first | refine wpO_nil ?_ | (show wpO _ _ _ (⟨_, .binOp _ _ _ _ _, _, _, _, _⟩ :: _) _ _ _; first | refine s_tt ?_ | refine s_ff ?_ | refine s_rdp ?_ | (refine s_cmp (fun _ => ?_) (fun _ => ?_) <;> (first | (exfalso; omega) | contradiction | skip)) | (refine s_cb (fun _ => ?_) (fun _ => ?_) <;> (first | (exfalso; omega) | contradiction | skip))) | (show wpO _ _ _ (⟨_, .indexAddr _ _ _, _, _, _, _⟩ :: _) _ _ _; first | refine s_rdp ?_ | refine s_idx (fun _ _ _ _ _ _ _ => ?_)) | refine s_rdp ?_ | refine s_rdm ?_ | refine s_exq ?_ | refine s_exm ?_) | (show wpC _ _ _ _ _ _; first | refine wpC_seq ?_ | refine wpC_region ?_ | refine c_true ?_ | refine c_false ?_ | (refine c_b (fun _ => ?_) (fun _ => ?_) <;> (first | (exfalso; omega) | contradiction | skip)) | refine wpC_block ?_ | refine wpC_ret ?_ | refine wpC_skip ?_ | refine wpC_exit ?_ | refine wpC_label ?_ | (apply wpC_drawX (id := 6) ([]) [0, 1, 2, 3, 4, 5, 6, 7, 8] rfl (by kernel_rfl); (case hpk => (repeat (first | exact Pcs.blk (by infer_instance) | exact Pcs.nil | (apply Pcs.cons; infer_instance) | apply Pcs.app))))) | (show Then _ _ _ _ _ _ _; first | refine then_normal ?_ | refine then_ret ?_ | refine then_exit ?_) | (show InBlock _ _ _ _ _ _; first | refine inBlock_normal ?_ | refine inBlock_ret ?_ | refine inBlock_same ?_ | refine b_other ?_) | (show LoopPost _ _ _ _ _ _; first | refine loop_ret ?_ | refine loop_exit ?_) | (show wpD _ _ _ _ _ _ _ _; first | refine wpD_nil ?_ | refine d_rdp ?_ | refine d_rdm ?_ | refine d_tt ?_ | refine d_ff ?_ | (refine d_cmp (fun _ => ?_) (fun _ => ?_) <;> (first | (exfalso; omega) | contradiction | skip)) | (refine d_cb (fun _ => ?_) (fun _ => ?_) <;> (first | (exfalso; omega) | contradiction | skip)) | refine d_idx (fun _ _ _ _ _ _ _ => ?_) | refine d_exs ?_ | refine d_exn ?_) | (show (_ ∨ Subs _ _) ∧ _; first | refine d_sub ?_ | refine d_cov ?_) | (show RetP _ _ _ _ _ _ _ _; first | refine r_1 ?_))
    exact lp_end (i + 1) (by omega) hlt
set_option maxHeartbeats 4000000 in
set_option maxRecDepth 100000 in
theorem samePart_spec (e : World) {bs : List UInt8} {s i m : Int} {v u : Value} {P F : Hp} {K : Value → Hp → Prop} (hv : InSl P 1 (bs.map byC) v) (hu : InSl P 1 (bs.map byC) u) (hK : K (.bool true) (P ++ F)) :
    callsK Try.prog e 52 #[.agg #[.int .i64 s, .int .i64 i, .int .i64 m, v], .agg #[.int .i64 s, .int .i64 i, .int .i64 m, u]] (P ++ F) K := by
  have hv0 := hv
  have hu0 := hu
  obtain ⟨a1, c1, rfl, _⟩ := hv0
  obtain ⟨a2, c2, rfl, _⟩ := hu0
  refine calls_body (N := 33) (args := [.agg #[.int .i64 s, .int .i64 i, .int .i64 m, .slice a1 (bs.map byC).length c1], .agg #[.int .i64 s, .int .i64 i, .int .i64 m, .slice a2 (bs.map byC).length c2]]) Try.func52 rfl rfl rfl (by simp) ?_
  repeat' (first | (show wpO _ _ _ _ _ _ _; first | refine wpO_nil ?_ | (show wpO _ _ _ (⟨_, .binOp _ _ _ _ _, _, _, _, _⟩ :: _) _ _ _; first | refine s_tt ?_ | refine s_ff ?_ | refine s_rdp ?_ | (refine s_cmp (fun _ => ?_) (fun _ => ?_) <;> (first | (exfalso; omega) | contradiction | skip)) | (refine s_cb (fun _ => ?_) (fun _ => ?_) <;> (first | (exfalso; omega) | contradiction | skip)) | refine s_sks ?_ | (refine s_g (fun _ => ?_) (fun _ => ?_) <;> (first | (exfalso; omega) | contradiction | skip))) | (show wpO _ _ _ (⟨_, .pick _ _ _, _, _, _, _⟩ :: _) _ _ _; first | refine s_rdp ?_ | (refine s_p (fun _ => ?_) (fun _ => ?_) <;> (first | (exfalso; omega) | contradiction | skip)) | refine s_sks ?_ | (refine s_g (fun _ => ?_) (fun _ => ?_) <;> (first | (exfalso; omega) | contradiction | skip))) | (show wpO _ _ _ (⟨_, .convert _ _ _, _, _, _, _⟩ :: _) _ _ _; first | (refine s_exs ?_; refine e_mark ?_) | refine s_rdm ?_ (hr := by first | (apply rd_bytesStrO; (conv => lhs; whnf); assumption; exact Sbs.sub (self := by infer_instance); exact rfl; exact rfl; exact rfl; done) | (apply rd_bytesStr; (conv => lhs; whnf); assumption; exact Sbs.sub (self := by infer_instance); exact rfl; exact rfl; exact rfl; done)) | refine s_sks ?_ | (refine s_g (fun _ => ?_) (fun _ => ?_) <;> (first | (exfalso; omega) | contradiction | skip))) | refine s_rdp ?_ | refine s_rdm ?_ | refine s_exq ?_ | refine s_exm ?_ | refine s_sks ?_ | refine s_skn ?_ | (refine s_g (fun _ => ?_) (fun _ => ?_) <;> (first | (exfalso; omega) | contradiction | skip))) | (show Ex _ _ _ _ _; first | (show Ex _ ⟨_, .box _ _, _, _, _, _⟩ _ _ _; first | (refine e_boxA ?_; intro _) | (refine e_box1 ?_; intro _)) | (show Ex _ ⟨_, .convert _ _ _, _, _, _, _⟩ _ _ _; refine e_mark ?_)) | (show wpC _ _ _ _ _ _; first | refine wpC_seq ?_ | refine wpC_region ?_ | refine wpC_ret ?_ | refine wpC_skip ?_ | refine wpC_label ?_) | (show Then _ _ _ _ _ _ _; first | refine then_normal ?_ | refine then_ret ?_) | (show RetP _ _ _ _ _ _ _ _; first | refine r_1 ?_))
  all_goals first | exact q_drop hK | skip
set_option maxHeartbeats 4000000 in
set_option maxRecDepth 100000 in
theorem sameEntry_spec (e : World) {x y : EnR} {P F : Hp} {K : Value → Hp → Prop} (hx : EnIn P x) (hy : EnIn P y) (hc : y.c = x.c) (hz : EnSz x.c) (hK : K (.bool true) (P ++ F)) :
    callsK Try.prog e 23 #[.agg x.cells.toArray, .agg y.cells.toArray] (P ++ F) K := by
  obtain ⟨yc, ya, yo, yd, ye⟩ := y
  simp only at hc
  subst hc
  have hxo := hx.o
  have hxd := hx.d
  have hyo := hy.o
  have hyd := hy.d
  have hzo := hz.o
  have h1 := op_refl x.c.op
  have h2 := ep_refl x.c
  have h3 := ve_refl x.c
  refine calls_body (N := 108) (args := [.agg x.cells.toArray, .agg (EnR.mk x.c ya yo yd ye).cells.toArray]) Try.func23 rfl rfl rfl (by simp) ?_
  repeat' (first | (show wpO _ _ _ _ _ _ _; first | refine wpO_nil ?_ | (show wpO _ _ _ (⟨_, .binOp _ _ _ _ _, _, _, _, _⟩ :: _) _ _ _; first | refine s_tt ?_ | refine s_ff ?_ | refine s_rdp ?_ | (refine s_cmp (fun _ => ?_) (fun _ => ?_) <;> (first | (exfalso; omega) | contradiction | skip)) | (refine s_cb (fun _ => ?_) (fun _ => ?_) <;> (first | (exfalso; omega) | contradiction | skip)) | refine s_sks ?_ | (refine s_g (fun _ => ?_) (fun _ => ?_) <;> (first | (exfalso; omega) | contradiction | skip))) | (show wpO _ _ _ (⟨_, .pick _ _ _, _, _, _, _⟩ :: _) _ _ _; first | refine s_rdp ?_ | (refine s_p (fun _ => ?_) (fun _ => ?_) <;> (first | (exfalso; omega) | contradiction | skip)) | refine s_sks ?_ | (refine s_g (fun _ => ?_) (fun _ => ?_) <;> (first | (exfalso; omega) | contradiction | skip))) | refine s_rdp ?_ | refine s_rdm ?_ | refine s_exq ?_ | refine s_exm ?_ | refine s_sks ?_ | refine s_skn ?_ | (refine s_g (fun _ => ?_) (fun _ => ?_) <;> (first | (exfalso; omega) | contradiction | skip))) | (show Ex _ _ _ _ _; first | (show Ex _ ⟨_, .call ⟨.value (.func _), _, _⟩, _, _, _, _⟩ _ _ _; refine e_call ?_; first | (apply p_pcs; apply sameOps_spec _ hxo hyo hzo; (try case hS => assumption); (case hpcs => (repeat (first | exact Pcs.blk (by infer_instance) | exact Pcs.nil | (apply Pcs.cons; infer_instance) | apply Pcs.app)))) | (apply p_pcs; apply samePart_spec _ hxd hyd; (try case hS => assumption); (case hpcs => (repeat (first | exact Pcs.blk (by infer_instance) | exact Pcs.nil | (apply Pcs.cons; infer_instance) | apply Pcs.app))))) | (show Ex _ ⟨_, .box _ _, _, _, _, _⟩ _ _ _; first | (refine e_boxA ?_; intro _) | (refine e_box1 ?_; intro _))) | (show wpC _ _ _ _ _ _; first | refine wpC_seq ?_ | refine wpC_region ?_ | refine wpC_ret ?_ | refine wpC_skip ?_ | refine wpC_label ?_) | (show Then _ _ _ _ _ _ _; first | refine then_normal ?_ | refine then_ret ?_) | (show RetP _ _ _ _ _ _ _ _; first | refine r_1 ?_) | assumption | intro _)
  all_goals first | exact q_drop hK | skip
set_option maxHeartbeats 4000000 in
set_option maxRecDepth 100000 in
theorem sameSlotted_spec (e : World) {x y : SlR} {P F : Hp} {K : Value → Hp → Prop} (hx : EnIn P x.en) (hy : EnIn P y.en) (hc : y.c = x.c) (hz : EnSz x.en.c) (hK : K (.bool true) (P ++ F)) :
    callsK Try.prog e 28 #[slV x, slV y] (P ++ F) K := by
  obtain ⟨ts, tb, te, _, _⟩ := y
  have hc1 : ts = x.slot := congrArg Sl.slot hc
  have hc2 : tb = x.bal := congrArg Sl.bal hc
  have hc3 : te.c = x.en.c := congrArg Sl.en hc
  subst hc1
  subst hc2
  have heq := bal_eqV x.bal x.bal
  rw [decide_eq_true rfl] at heq
  refine calls_body (N := 24) (args := [slV x, slV ⟨x.slot, x.bal, te, [], []⟩]) Try.func28 rfl rfl rfl (by simp) ?_
  repeat' (first | (show wpO _ _ _ _ _ _ _; first | refine wpO_nil ?_ | (show wpO _ _ _ (⟨_, .binOp _ _ _ _ _, _, _, _, _⟩ :: _) _ _ _; first | refine s_tt ?_ | refine s_ff ?_ | refine s_rdp ?_ | (refine s_cmp (fun _ => ?_) (fun _ => ?_) <;> (first | (exfalso; omega) | contradiction | skip)) | (refine s_cb (fun _ => ?_) (fun _ => ?_) <;> (first | (exfalso; omega) | contradiction | skip)) | refine s_sks ?_ | (refine s_g (fun _ => ?_) (fun _ => ?_) <;> (first | (exfalso; omega) | contradiction | skip))) | (show wpO _ _ _ (⟨_, .pick _ _ _, _, _, _, _⟩ :: _) _ _ _; first | refine s_rdp ?_ | (refine s_p (fun _ => ?_) (fun _ => ?_) <;> (first | (exfalso; omega) | contradiction | skip)) | refine s_sks ?_ | (refine s_g (fun _ => ?_) (fun _ => ?_) <;> (first | (exfalso; omega) | contradiction | skip))) | refine s_rdp ?_ | refine s_rdm ?_ | refine s_exq ?_ | refine s_exm ?_ | refine s_sks ?_ | refine s_skn ?_ | (refine s_g (fun _ => ?_) (fun _ => ?_) <;> (first | (exfalso; omega) | contradiction | skip))) | (show Ex _ _ _ _ _; first | (show Ex _ ⟨_, .call ⟨.value (.func _), _, _⟩, _, _, _, _⟩ _ _ _; refine e_call ?_; first | (apply p_pcs; apply sameEntry_spec _ hx hy hc3 hz; (try case hS => assumption); (case hpcs => (repeat (first | exact Pcs.blk (by infer_instance) | exact Pcs.nil | (apply Pcs.cons; infer_instance) | apply Pcs.app))))) | (show Ex _ ⟨_, .box _ _, _, _, _, _⟩ _ _ _; first | (refine e_boxA ?_; intro _) | (refine e_box1 ?_; intro _))) | (show wpC _ _ _ _ _ _; first | refine wpC_seq ?_ | refine wpC_region ?_ | refine wpC_ret ?_ | refine wpC_skip ?_ | refine wpC_label ?_) | (show Then _ _ _ _ _ _ _; first | refine then_normal ?_ | refine then_ret ?_) | (show RetP _ _ _ _ _ _ _ _; first | refine r_1 ?_) | assumption | intro _)
  all_goals first | exact q_drop hK | skip
end Go.Vl
