/-
  Steps of the proof: PQ, PR, HG, Vh, HA, Vc.
-/
import Derived.Test.YtpegidbkplgplaaGreatQ07
import Derived.Test.YtpegidbkplgplaaGreatQ14
import Derived.Test.YtpegidbkplgplaaGreatQ18
import Derived.Test.YtpegidbkplgplaaGreatQ06
import Derived.Laws.MakeOwn
namespace Go.Vl
open Go.Proofs
attribute [local irreducible] eqW eqV wpC wpO wpD Ex Rd callsK RetP Drop valK
set_option maxHeartbeats 4000000 in
set_option maxRecDepth 100000 in
theorem pequalOps (e : World) {os : List OpC} {v u : Value} {P F : Hp} {K : Value → Hp → Prop} (hv : InSl P 8 (os.map OpC.cells) v) (hu : InSl P 8 (os.map OpC.cells) u) (hl : os.length * 88 ≤ 140737488355328) (hK : K (.bool true) (P ++ F)) :
    callsK Tryz.prog e 83 #[v, u] (P ++ F) K := by
  have hv0 := hv
  have hu0 := hu
  obtain ⟨a1, c1, rfl, _⟩ := hv0
  obtain ⟨a2, c2, rfl, _⟩ := hu0
  have hml : (os.map OpC.cells).length = os.length := List.length_map _
  refine calls_body (N := 26) (args := [.slice a1 (os.map OpC.cells).length c1, .slice a2 (os.map OpC.cells).length c2]) Tryz.func83 rfl rfl rfl (by simp) ?_
  repeat' (first | (show wpO _ _ _ _ _ _ _; first | refine wpO_nil ?_ | (show wpO _ _ _ (⟨_, .binOp _ _ _ _ _, _, _, _, _⟩ :: _) _ _ _; first | refine s_tt ?_ | refine s_ff ?_ | refine s_rdp ?_ | ((first | refine s_cmp (fun _ => ?_) (fun _ => ?_) | refine s_cb (fun _ => ?_) (fun _ => ?_)) <;> (first | (exfalso; omega) | contradiction | skip))) | (show wpO _ _ _ (⟨_, .indexAddr _ _ _, _, _, _, _⟩ :: _) _ _ _; first | refine s_rdp ?_ | refine s_idx (fun _ _ _ _ _ _ _ => ?_)) | refine s_rdp ?_ | refine s_rdm ?_ | refine s_exq ?_ | refine s_exm ?_) | (show wpC _ _ _ _ _ _; first | refine wpC_seq ?_ | refine wpC_region ?_ | refine c_true ?_ | refine c_false ?_ | (refine c_b (fun _ => ?_) (fun _ => ?_) <;> (first | (exfalso; omega) | contradiction | skip)) | refine wpC_block ?_ | refine wpC_ret ?_ | refine wpC_skip ?_ | refine wpC_exit ?_ | refine wpC_label ?_ | (apply wpC_drawX (id := 6) ([]) [0, 1, 2, 3, 4, 5, 6, 7, 8] rfl (by kernel_rfl); (case hpk => (repeat (first | exact Pcs.blk (by infer_instance) | exact Pcs.nil | (apply Pcs.cons; infer_instance) | apply Pcs.app))))) | (show Then _ _ _ _ _ _ _; first | refine then_normal ?_ | refine then_ret ?_ | refine then_exit ?_) | (show InBlock _ _ _ _ _ _; first | refine inBlock_normal ?_ | refine inBlock_ret ?_ | refine inBlock_same ?_ | refine b_other ?_) | (show LoopPost _ _ _ _ _ _; first | refine loop_ret ?_ | refine loop_exit ?_) | (show wpD _ _ _ _ _ _ _ _; first | refine wpD_nil ?_ | refine d_rdp ?_ | refine d_rdm ?_ | refine d_tt ?_ | refine d_ff ?_ | ((first | refine d_cmp (fun _ => ?_) (fun _ => ?_) | refine d_cb (fun _ => ?_) (fun _ => ?_)) <;> (first | (exfalso; omega) | contradiction | skip)) | refine d_idx (fun _ _ _ _ _ _ _ => ?_) | refine d_exs ?_ | refine d_exn ?_) | (show (_ ∨ Subs _ _) ∧ _; first | refine d_sub ?_ | refine d_cov ?_) | (show RetP _ _ _ _ _ _ _ _; first | refine r_1 ?_))
  refine wpC_loopA (κ := Nat) [4, 5, 13, 14, 15, 16, 17, 18, 19, 20, 21, 22, 23, 24, 25] (fun i => [(13, .int .i64 (i : Int))]) (fun _ => P ++ F) (fun i => i ≤ os.length) (fun i => os.length - i) 0 (Nat.zero_le _) ⟨rfl, trivial⟩ q_drp ?_
  rintro i ρx hi
  cases hr : os[i]? with
  | none =>
    have hge : os.length ≤ i := List.getElem?_eq_none_iff.1 hr
    repeat' (first | (show wpO _ _ _ _ _ _ _; first | refine wpO_nil ?_ | (show wpO _ _ _ (⟨_, .binOp _ _ _ _ _, _, _, _, _⟩ :: _) _ _ _; first | refine s_tt ?_ | refine s_ff ?_ | refine s_rdp ?_ | ((first | refine s_cmp (fun _ => ?_) (fun _ => ?_) | refine s_cb (fun _ => ?_) (fun _ => ?_)) <;> (first | (exfalso; omega) | contradiction | skip))) | (show wpO _ _ _ (⟨_, .indexAddr _ _ _, _, _, _, _⟩ :: _) _ _ _; first | refine s_rdp ?_ | refine s_idx (fun _ _ _ _ _ _ _ => ?_)) | refine s_rdp ?_ | refine s_rdm ?_ | refine s_exq ?_ | refine s_exm ?_) | (show wpC _ _ _ _ _ _; first | refine wpC_seq ?_ | refine wpC_region ?_ | refine c_true ?_ | refine c_false ?_ | (refine c_b (fun _ => ?_) (fun _ => ?_) <;> (first | (exfalso; omega) | contradiction | skip)) | refine wpC_block ?_ | refine wpC_ret ?_ | refine wpC_skip ?_ | refine wpC_exit ?_ | refine wpC_label ?_ | (apply wpC_drawX (id := 6) ([]) [0, 1, 2, 3, 4, 5, 6, 7, 8] rfl (by kernel_rfl); (case hpk => (repeat (first | exact Pcs.blk (by infer_instance) | exact Pcs.nil | (apply Pcs.cons; infer_instance) | apply Pcs.app))))) | (show Then _ _ _ _ _ _ _; first | refine then_normal ?_ | refine then_ret ?_ | refine then_exit ?_) | (show InBlock _ _ _ _ _ _; first | refine inBlock_normal ?_ | refine inBlock_ret ?_ | refine inBlock_same ?_ | refine b_other ?_) | (show LoopPost _ _ _ _ _ _; first | refine loop_ret ?_ | refine loop_exit ?_) | (show wpD _ _ _ _ _ _ _ _; first | refine wpD_nil ?_ | refine d_rdp ?_ | refine d_rdm ?_ | refine d_tt ?_ | refine d_ff ?_ | ((first | refine d_cmp (fun _ => ?_) (fun _ => ?_) | refine d_cb (fun _ => ?_) (fun _ => ?_)) <;> (first | (exfalso; omega) | contradiction | skip)) | refine d_idx (fun _ _ _ _ _ _ _ => ?_) | refine d_exs ?_ | refine d_exn ?_) | (show (_ ∨ Subs _ _) ∧ _; first | refine d_sub ?_ | refine d_cov ?_) | (show RetP _ _ _ _ _ _ _ _; first | refine r_1 ?_))
    exact q_drop hK
  | some o =>
    have hlt := (List.getElem?_eq_some_iff.1 hr).1
    have heq := op_refl o
    repeat' (first | (show wpO _ _ _ _ _ _ _; first | refine wpO_nil ?_ | (show wpO _ _ _ (⟨_, .binOp _ _ _ _ _, _, _, _, _⟩ :: _) _ _ _; first | refine s_tt ?_ | refine s_ff ?_ | refine s_rdp ?_ | ((first | refine s_cmp (fun _ => ?_) (fun _ => ?_) | refine s_cb (fun _ => ?_) (fun _ => ?_)) <;> (first | (exfalso; omega) | contradiction | skip))) | (show wpO _ _ _ (⟨_, .indexAddr _ _ _, _, _, _, _⟩ :: _) _ _ _; first | refine s_rdp ?_ | refine s_idx (fun _ _ _ _ _ _ _ => ?_)) | refine s_rdp ?_ | refine s_rdm ?_ | refine s_exq ?_ | refine s_exm ?_) | (show wpC _ _ _ _ _ _; first | refine wpC_seq ?_ | refine wpC_region ?_ | refine c_true ?_ | refine c_false ?_ | (refine c_b (fun _ => ?_) (fun _ => ?_) <;> (first | (exfalso; omega) | contradiction | skip)) | refine wpC_block ?_ | refine wpC_ret ?_ | refine wpC_skip ?_ | refine wpC_exit ?_ | refine wpC_label ?_ | (apply wpC_drawX (id := 6) ([]) [0, 1, 2, 3, 4, 5, 6, 7, 8] rfl (by kernel_rfl); (case hpk => (repeat (first | exact Pcs.blk (by infer_instance) | exact Pcs.nil | (apply Pcs.cons; infer_instance) | apply Pcs.app))))) | (show Then _ _ _ _ _ _ _; first | refine then_normal ?_ | refine then_ret ?_ | refine then_exit ?_) | (show InBlock _ _ _ _ _ _; first | refine inBlock_normal ?_ | refine inBlock_ret ?_ | refine inBlock_same ?_ | refine b_other ?_) | (show LoopPost _ _ _ _ _ _; first | refine loop_ret ?_ | refine loop_exit ?_) | (show wpD _ _ _ _ _ _ _ _; first | refine wpD_nil ?_ | refine d_rdp ?_ | refine d_rdm ?_ | refine d_tt ?_ | refine d_ff ?_ | ((first | refine d_cmp (fun _ => ?_) (fun _ => ?_) | refine d_cb (fun _ => ?_) (fun _ => ?_)) <;> (first | (exfalso; omega) | contradiction | skip)) | refine d_idx (fun _ _ _ _ _ _ _ => ?_) | refine d_exs ?_ | refine d_exn ?_) | (show (_ ∨ Subs _ _) ∧ _; first | refine d_sub ?_ | refine d_cov ?_) | (show RetP _ _ _ _ _ _ _ _; first | refine r_1 ?_))
    exact lp_end (i + 1) (by omega) hlt
set_option maxHeartbeats 4000000 in
set_option maxRecDepth 100000 in
theorem psamePart (e : World) {bs : List UInt8} {s i m : Int} {v u : Value} {P F : Hp} {K : Value → Hp → Prop} (hv : InSl P 1 (bs.map byC) v) (hu : InSl P 1 (bs.map byC) u) (hK : K (.bool true) (P ++ F)) :
    callsK Tryz.prog e 84 #[.agg #[.int .i64 s, .int .i64 i, .int .i64 m, v], .agg #[.int .i64 s, .int .i64 i, .int .i64 m, u]] (P ++ F) K := by
  have hv0 := hv
  have hu0 := hu
  obtain ⟨a1, c1, rfl, _⟩ := hv0
  obtain ⟨a2, c2, rfl, _⟩ := hu0
  refine calls_body (N := 33) (args := [.agg #[.int .i64 s, .int .i64 i, .int .i64 m, .slice a1 (bs.map byC).length c1], .agg #[.int .i64 s, .int .i64 i, .int .i64 m, .slice a2 (bs.map byC).length c2]]) Tryz.func84 rfl rfl rfl (by simp) ?_
  repeat' (first | (show wpO _ _ _ _ _ _ _; first | refine wpO_nil ?_ | (show wpO _ _ _ (⟨_, .binOp _ _ _ _ _, _, _, _, _⟩ :: _) _ _ _; first | refine s_tt ?_ | refine s_ff ?_ | refine s_rdp ?_ | ((first | refine s_cmp (fun _ => ?_) (fun _ => ?_) | refine s_cb (fun _ => ?_) (fun _ => ?_)) <;> (first | (exfalso; omega) | contradiction | skip))) | (show wpO _ _ _ (⟨_, .pick _ _ _, _, _, _, _⟩ :: _) _ _ _; first | refine s_rdp ?_ | (refine s_p (fun _ => ?_) (fun _ => ?_) <;> (first | (exfalso; omega) | contradiction | skip))) | (show wpO _ _ _ (⟨_, .convert _ _ _, _, _, _, _⟩ :: _) _ _ _; first | (refine s_exs ?_; refine e_mark ?_) | refine s_rdm ?_ (hr := by first | (apply rd_bytesStrO; (conv => lhs; whnf); assumption; exact Sbs.sub (self := by infer_instance); exact rfl; exact rfl; exact rfl; done) | (apply rd_bytesStr; (conv => lhs; whnf); assumption; exact Sbs.sub (self := by infer_instance); exact rfl; exact rfl; exact rfl; done))) | refine s_rdp ?_ | refine s_rdm ?_ | refine s_exq ?_ | refine s_exm ?_ | refine s_sks ?_ | refine s_skn ?_ | (refine s_g (fun _ => ?_) (fun _ => ?_) <;> (first | (exfalso; omega) | contradiction | skip))) | (show Ex _ _ _ _ _; first | (show Ex _ ⟨_, .box _ _, _, _, _, _⟩ _ _ _; first | (refine e_boxA ?_; intro _) | (refine e_box1 ?_; intro _)) | (show Ex _ ⟨_, .convert _ _ _, _, _, _, _⟩ _ _ _; refine e_mark ?_)) | (show wpC _ _ _ _ _ _; first | refine wpC_seq ?_ | refine wpC_region ?_ | refine wpC_ret ?_ | refine wpC_skip ?_ | refine wpC_label ?_) | (show Then _ _ _ _ _ _ _; first | refine then_normal ?_ | refine then_ret ?_) | (show RetP _ _ _ _ _ _ _ _; first | refine r_1 ?_))
  all_goals first | exact q_drop hK | skip
set_option maxHeartbeats 4000000 in
set_option maxRecDepth 100000 in
theorem psameEntry (e : World) {x y : EnR} {P F : Hp} {K : Value → Hp → Prop} (hx : EnIn P x) (hy : EnIn P y) (hc : y.c = x.c) (hz : EnSz x.c) (hK : K (.bool true) (P ++ F)) :
    callsK Tryz.prog e 67 #[.agg x.cells.toArray, .agg y.cells.toArray] (P ++ F) K := by
  obtain ⟨yc, ya, yo, yd, ye⟩ := y
  simp only at hc
  subst hc
  have hxo := hx.o
  have hxd := hx.d
  have hyo := hy.o
  have hyd := hy.d
  have hzo := hz.o
  have h1 := op_refl x.c.op
  have h2 := ep_refl x.c
  have h3 := ve_refl x.c
  refine calls_body (N := 108) (args := [.agg x.cells.toArray, .agg (EnR.mk x.c ya yo yd ye).cells.toArray]) Tryz.func67 rfl rfl rfl (by simp) ?_
  repeat' (first | (show wpO _ _ _ _ _ _ _; first | refine wpO_nil ?_ | (show wpO _ _ _ (⟨_, .binOp _ _ _ _ _, _, _, _, _⟩ :: _) _ _ _; first | refine s_tt ?_ | refine s_ff ?_ | refine s_rdp ?_ | ((first | refine s_cmp (fun _ => ?_) (fun _ => ?_) | refine s_cb (fun _ => ?_) (fun _ => ?_)) <;> (first | (exfalso; omega) | contradiction | skip))) | (show wpO _ _ _ (⟨_, .pick _ _ _, _, _, _, _⟩ :: _) _ _ _; first | refine s_rdp ?_ | (refine s_p (fun _ => ?_) (fun _ => ?_) <;> (first | (exfalso; omega) | contradiction | skip))) | refine s_rdp ?_ | refine s_rdm ?_ | refine s_exq ?_ | refine s_exm ?_ | refine s_sks ?_ | refine s_skn ?_ | (refine s_g (fun _ => ?_) (fun _ => ?_) <;> (first | (exfalso; omega) | contradiction | skip))) | (show Ex _ _ _ _ _; first | (show Ex _ ⟨_, .call ⟨.value (.func _), _, _⟩, _, _, _, _⟩ _ _ _; refine e_call ?_; first | (apply p_pcs; (first | apply pequalOps _ hxo hyo hzo | apply psamePart _ hxd hyd); (try case hS => assumption); (case hpcs => (repeat (first | exact Pcs.blk (by infer_instance) | exact Pcs.nil | (apply Pcs.cons; infer_instance) | apply Pcs.app))))) | (show Ex _ ⟨_, .box _ _, _, _, _, _⟩ _ _ _; first | (refine e_boxA ?_; intro _) | (refine e_box1 ?_; intro _))) | (show wpC _ _ _ _ _ _; first | refine wpC_seq ?_ | refine wpC_region ?_ | refine wpC_ret ?_ | refine wpC_skip ?_ | refine wpC_label ?_) | (show Then _ _ _ _ _ _ _; first | refine then_normal ?_ | refine then_ret ?_) | (show RetP _ _ _ _ _ _ _ _; first | refine r_1 ?_) | assumption | intro _)
  all_goals first | exact q_drop hK | skip
abbrev leave3 : EnC := { zeroE.c with kind := 7, site := 3 }
abbrev leaveR : EnR := ⟨leave3, none, 0, none, 0⟩
set_option maxHeartbeats 4000000 in
set_option maxRecDepth 100000 in
theorem leaveR_in {P : Hp} : EnIn P leaveR := ⟨InSl.nil, InSl.nil⟩
set_option maxHeartbeats 4000000 in
set_option maxRecDepth 100000 in
theorem leaveR_sz : EnSz leaveR.c := ⟨by decide, by decide⟩
set_option maxHeartbeats 4000000 in
set_option maxRecDepth 100000 in
theorem site3 (e : World) {b : Nat} {F : Hp} {K : Value → Hp → Prop} (hK : K (.bool true) ([(b, cellsO [.int .i64 3] 3)] ++ F)) : callsK Tryz.prog e 62 #[.slice (some ⟨b, 0, none⟩) 1 1] ([(b, cellsO [.int .i64 3] 3)] ++ F) K := by
  refine calls_body (N := 18) (args := [.slice (some ⟨b, 0, none⟩) 1 1]) Tryz.func62 rfl rfl rfl (by simp) ?_
  repeat' ((fail_if_success (show wpC _ (.loop _) _ _ _ _)); first | (show wpO _ _ _ _ _ _ _; first | refine wpO_nil ?_ | (show wpO _ _ _ (⟨_, .binOp _ _ _ _ _, _, _, _, _⟩ :: _) _ _ _; first | refine s_tt ?_ | refine s_ff ?_ | refine s_rdp ?_ | ((first | refine s_cmp (fun _ => ?_) (fun _ => ?_) | refine s_cb (fun _ => ?_) (fun _ => ?_)) <;> (first | (exfalso; omega) | contradiction | skip))) | (show wpO _ _ _ (⟨_, .indexAddr _ _ _, _, _, _, _⟩ :: _) _ _ _; first | refine s_rdp ?_ | refine s_idx (fun _ _ _ _ _ _ _ => ?_)) | (show wpO _ _ _ (⟨_, .pick _ _ _, _, _, _, _⟩ :: _) _ _ _; first | refine s_rdp ?_ | (refine s_p (fun _ => ?_) (fun _ => ?_) <;> (first | (exfalso; omega) | contradiction | skip))) | refine s_rdp ?_ | refine s_rdm ?_ | refine s_exq ?_ | refine s_exm ?_ | refine s_sks ?_ | refine s_skn ?_ | (refine s_g (fun _ => ?_) (fun _ => ?_) <;> (first | (exfalso; omega) | contradiction | skip))) | (show wpC _ _ _ _ _ _; first | refine wpC_seq ?_ | refine wpC_region ?_ | refine c_true ?_ | refine c_false ?_ | (refine c_b (fun _ => ?_) (fun _ => ?_) <;> (first | (exfalso; omega) | contradiction | skip)) | refine wpC_block ?_ | refine wpC_ret ?_ | refine wpC_skip ?_ | refine wpC_exit ?_ | refine wpC_label ?_) | (show Then _ _ _ _ _ _ _; first | refine then_normal ?_ | refine then_ret ?_ | refine then_exit ?_) | (show InBlock _ _ _ _ _ _; first | refine inBlock_normal ?_ | refine inBlock_ret ?_ | refine inBlock_same ?_ | refine b_other ?_) | (show LoopPost _ _ _ _ _ _; first | refine loop_ret ?_ | refine loop_exit ?_) | (show RetP _ _ _ _ _ _ _ _; first | refine r_1 ?_))
  refine wpC_loopA (κ := Nat) [2, 4, 7, 8, 9, 10, 11, 12, 13, 14, 15, 16, 17] (fun k => [(7, .int .i64 (k : Int))]) (fun _ => [(b, cellsO [.int .i64 3] 3)] ++ F) (fun k => k ≤ 1) (fun k => 1 - k) 0 (by decide) ⟨rfl, trivial⟩ q_drp ?_
  rintro k ρx hk
  rcases (by omega : k = 0 ∨ k = 1) with rfl | rfl
  · repeat' (first | (show wpO _ _ _ _ _ _ _; first | refine wpO_nil ?_ | (show wpO _ _ _ (⟨_, .binOp _ _ _ _ _, _, _, _, _⟩ :: _) _ _ _; first | refine s_tt ?_ | refine s_ff ?_ | refine s_rdp ?_ | ((first | refine s_cmp (fun _ => ?_) (fun _ => ?_) | refine s_cb (fun _ => ?_) (fun _ => ?_)) <;> (first | (exfalso; omega) | contradiction | skip))) | (show wpO _ _ _ (⟨_, .indexAddr _ _ _, _, _, _, _⟩ :: _) _ _ _; first | refine s_rdp ?_ | refine s_idx (fun _ _ _ _ _ _ _ => ?_)) | (show wpO _ _ _ (⟨_, .pick _ _ _, _, _, _, _⟩ :: _) _ _ _; first | refine s_rdp ?_ | (refine s_p (fun _ => ?_) (fun _ => ?_) <;> (first | (exfalso; omega) | contradiction | skip))) | refine s_rdp ?_ | refine s_rdm ?_ | refine s_exq ?_ | refine s_exm ?_ | refine s_sks ?_ | refine s_skn ?_ | (refine s_g (fun _ => ?_) (fun _ => ?_) <;> (first | (exfalso; omega) | contradiction | skip))) | (show wpC _ _ _ _ _ _; first | refine wpC_seq ?_ | refine wpC_region ?_ | refine c_true ?_ | refine c_false ?_ | (refine c_b (fun _ => ?_) (fun _ => ?_) <;> (first | (exfalso; omega) | contradiction | skip)) | refine wpC_block ?_ | refine wpC_ret ?_ | refine wpC_skip ?_ | refine wpC_exit ?_ | refine wpC_label ?_) | (show Then _ _ _ _ _ _ _; first | refine then_normal ?_ | refine then_ret ?_ | refine then_exit ?_) | (show InBlock _ _ _ _ _ _; first | refine inBlock_normal ?_ | refine inBlock_ret ?_ | refine inBlock_same ?_ | refine b_other ?_) | (show LoopPost _ _ _ _ _ _; first | refine loop_ret ?_ | refine loop_exit ?_) | (show RetP _ _ _ _ _ _ _ _; first | refine r_1 ?_))
    all_goals first | exact lp_end 1 (by decide) (by decide) | (exfalso; omega) | trace_state
  · repeat' (first | (show wpO _ _ _ _ _ _ _; first | refine wpO_nil ?_ | (show wpO _ _ _ (⟨_, .binOp _ _ _ _ _, _, _, _, _⟩ :: _) _ _ _; first | refine s_tt ?_ | refine s_ff ?_ | refine s_rdp ?_ | ((first | refine s_cmp (fun _ => ?_) (fun _ => ?_) | refine s_cb (fun _ => ?_) (fun _ => ?_)) <;> (first | (exfalso; omega) | contradiction | skip))) | (show wpO _ _ _ (⟨_, .indexAddr _ _ _, _, _, _, _⟩ :: _) _ _ _; first | refine s_rdp ?_ | refine s_idx (fun _ _ _ _ _ _ _ => ?_)) | (show wpO _ _ _ (⟨_, .pick _ _ _, _, _, _, _⟩ :: _) _ _ _; first | refine s_rdp ?_ | (refine s_p (fun _ => ?_) (fun _ => ?_) <;> (first | (exfalso; omega) | contradiction | skip))) | refine s_rdp ?_ | refine s_rdm ?_ | refine s_exq ?_ | refine s_exm ?_ | refine s_sks ?_ | refine s_skn ?_ | (refine s_g (fun _ => ?_) (fun _ => ?_) <;> (first | (exfalso; omega) | contradiction | skip))) | (show wpC _ _ _ _ _ _; first | refine wpC_seq ?_ | refine wpC_region ?_ | refine c_true ?_ | refine c_false ?_ | (refine c_b (fun _ => ?_) (fun _ => ?_) <;> (first | (exfalso; omega) | contradiction | skip)) | refine wpC_block ?_ | refine wpC_ret ?_ | refine wpC_skip ?_ | refine wpC_exit ?_ | refine wpC_label ?_) | (show Then _ _ _ _ _ _ _; first | refine then_normal ?_ | refine then_ret ?_ | refine then_exit ?_) | (show InBlock _ _ _ _ _ _; first | refine inBlock_normal ?_ | refine inBlock_ret ?_ | refine inBlock_same ?_ | refine b_other ?_) | (show LoopPost _ _ _ _ _ _; first | refine loop_ret ?_ | refine loop_exit ?_) | (show RetP _ _ _ _ _ _ _ _; first | refine r_1 ?_))
    all_goals first | exact q_drop hK | (exfalso; omega) | trace_state
set_option maxHeartbeats 4000000 in
set_option maxRecDepth 100000 in
theorem verdictT (e : World) {F : Hp} {K : Value → Hp → Prop} (hK : K (.int .i64 0) F) : callsK Tryz.prog e 66 #[.bool true] F K := by
  refine calls_body (N := 4) (args := [.bool true]) Tryz.func66 rfl rfl rfl (by simp) ?_
  repeat' (first | (show wpO _ _ _ _ _ _ _; first | refine wpO_nil ?_ | refine s_rdp ?_ | refine s_rdm ?_ | refine s_exq ?_ | refine s_exm ?_) | (show wpC _ _ _ _ _ _; first | refine wpC_seq ?_ | refine wpC_region ?_ | refine c_true ?_ | refine c_false ?_ | (refine c_b (fun _ => ?_) (fun _ => ?_) <;> (first | (exfalso; omega) | contradiction | skip)) | refine wpC_ret ?_ | refine wpC_skip ?_ | refine wpC_label ?_) | (show Then _ _ _ _ _ _ _; first | refine then_normal ?_ | refine then_ret ?_) | (show RetP _ _ _ _ _ _ _ _; first | refine r_1 ?_))
  all_goals exact q_drop hK
set_option maxHeartbeats 4000000 in
set_option maxRecDepth 100000 in
theorem checkLeave (e : World) {F : Hp} {K : Value → Hp → Prop} (hK : K (.int .i64 0) F) : callsK Tryz.prog e 44 #[.agg leaveR.cells.toArray] F K := by
  have h1 := leaveR_in (P := [])
  have h2 := leaveR_sz
  refine calls_body (N := 165) (args := [.agg leaveR.cells.toArray]) Tryz.func44 rfl rfl rfl (by simp) ?_
  repeat' (first | (show wpO _ _ _ _ _ _ _; first | refine wpO_nil ?_ | (show wpO _ _ _ (⟨_, .binOp _ _ _ _ _, _, _, _, _⟩ :: _) _ _ _; first | refine s_tt ?_ | refine s_ff ?_ | refine s_rdp ?_ | ((first | refine s_cmp (fun _ => ?_) (fun _ => ?_) | refine s_cb (fun _ => ?_) (fun _ => ?_)) <;> (first | (exfalso; omega) | contradiction | skip))) | (show wpO _ _ _ (⟨_, .slice _ _ _ _ _, _, _, _, _⟩ :: _) _ _ _; first | refine s_rdp ?_ | refine s_sliceHiT (fun _ _ => ?_) | refine s_clipO (fun _ _ => ?_) | refine s_sliceHi (fun _ _ => ?_) | refine s_sliceLo (fun _ _ => ?_)) | (show wpO _ _ _ (⟨_, .pick _ _ _, _, _, _, _⟩ :: _) _ _ _; first | refine s_rdp ?_ | (refine s_p (fun _ => ?_) (fun _ => ?_) <;> (first | (exfalso; omega) | contradiction | skip))) | refine s_rdp ?_ | refine s_rdm ?_ | refine s_exq ?_ | refine s_exm ?_ | refine s_sks ?_ | refine s_skn ?_ | (refine s_g (fun _ => ?_) (fun _ => ?_) <;> (first | (exfalso; omega) | contradiction | skip))) | (show Ex _ _ _ _ _; first | (show Ex _ ⟨_, .call ⟨.value (.func _), _, _⟩, _, _, _, _⟩ _ _ _; refine e_call ?_; first | (apply verdictT _) | (apply p_pcs; (first | apply site3 _ | apply psameEntry _ (x := leaveR) (y := leaveR) (P := []) h1 h1 rfl h2); (try case hS => assumption); (case hpcs => (repeat (first | exact Pcs.blk (by infer_instance) | exact Pcs.nil | (apply Pcs.cons; infer_instance) | apply Pcs.app))))) | (show Ex _ ⟨_, .alloc _, _, _, _, _⟩ _ _ _; first | (refine e_allocA ?_; intro _) | (refine e_alloc1 ?_; intro _)) | (show Ex _ ⟨_, .box _ _, _, _, _, _⟩ _ _ _; first | (refine e_boxA ?_; intro _) | (refine e_box1 ?_; intro _)) | (show Ex _ ⟨_, .store _ _ _, _, _, _, _⟩ _ _ _; first | refine e_store1 ?_ | refine e_storeA ?_ | (refine e_storeO ?_; intro _ _)) | (show Ex _ ⟨_, .buildSlice _ _ _, _, _, _, _⟩ _ _ _; first | (refine e_buildSlice ?_; intro _) | (refine e_buildNil ?_; intro _ _ _))) | (show wpC _ _ _ _ _ _; first | refine wpC_seq ?_ | refine wpC_region ?_ | refine c_true ?_ | refine c_false ?_ | (refine c_b (fun _ => ?_) (fun _ => ?_) <;> (first | (exfalso; omega) | contradiction | skip)) | refine wpC_block ?_ | refine wpC_ret ?_ | refine wpC_skip ?_ | refine wpC_label ?_ | ((first | apply wpC_drawX (id := 7) ([]) [0, 1, 2, 3, 4, 5, 6, 7, 8, 9, 10, 11] rfl (by kernel_rfl) | apply wpC_drawX (id := 10) ([]) [0, 1, 2, 3, 4, 5, 6, 7, 8, 9, 10, 11] rfl (by kernel_rfl) | apply wpC_drawX (id := 16) ([]) [0, 1, 2, 3, 4, 5, 6, 7, 8, 9, 10, 11, 12, 13, 14, 15] rfl (by kernel_rfl) | apply wpC_drawX (id := 22) ([]) [0, 1, 2, 3, 4, 5, 6, 7] rfl (by kernel_rfl) | apply wpC_drawX (id := 28) ([]) [0, 1, 2, 3, 4, 5, 6, 7] rfl (by kernel_rfl)); (case hpk => (repeat (first | exact Pcs.blk (by infer_instance) | exact Pcs.nil | (apply Pcs.cons; infer_instance) | apply Pcs.app))))) | (show Then _ _ _ _ _ _ _; first | refine then_normal ?_ | refine then_ret ?_) | (show InBlock _ _ _ _ _ _; first | refine inBlock_normal ?_ | refine inBlock_ret ?_ | refine inBlock_same ?_ | refine b_other ?_) | (show wpD _ _ _ _ _ _ _ _; first | refine wpD_nil ?_ | refine d_rdp ?_ | refine d_rdm ?_ | refine d_sks ?_ | refine d_tt ?_ | refine d_ff ?_ | ((first | refine d_cmp (fun _ => ?_) (fun _ => ?_) | refine d_cb (fun _ => ?_) (fun _ => ?_)) <;> (first | (exfalso; omega) | contradiction | skip)) | refine d_sliceHiT (fun _ _ => ?_) | refine d_clipO (fun _ _ => ?_) | refine d_sliceHi (fun _ _ => ?_) | refine d_sliceLo (fun _ _ => ?_) | refine d_exs ?_ | refine d_exn ?_ | ((first | refine d_p (fun _ => ?_) (fun _ => ?_) | refine d_g (fun _ => ?_) (fun _ => ?_)) <;> (first | (exfalso; omega) | contradiction | skip))) | (show (_ ∨ Subs _ _) ∧ _; first | refine d_sub ?_ | refine d_cov ?_) | (show RetP _ _ _ _ _ _ _ _; first | refine r_1 ?_) | assumption | intro _)
  all_goals first | exact q_drop hK | (exfalso; omega) | trace_state
end Go.Vl

namespace Go.Vl
open Go.Proofs
abbrev opC (e : EnR) (v c : Bool) : List Value := [.int .i64 e.c.kind, .int .i64 e.c.ses, .int .i64 e.c.req,
  .int .i64 e.c.op.time, .int .i64 e.c.op.site, .int .i64 e.c.op.kind, .int .i64 e.c.op.node, .int .i64 e.c.op.parent, .string e.c.op.name, .string e.c.op.key, .string e.c.op.val,
  .int .i64 e.c.origin, .int .i64 e.c.seq, e.vo,
  .int .i64 e.c.num, .int .i64 (e.c.st 0), .int .i64 (e.c.st 1), .int .i64 (e.c.st 2), .int .i64 (e.c.st 3), .int .i64 (e.c.st 4), .int .i64 (e.c.st 5), .int .i64 (e.c.st 6), .int .i64 (e.c.st 7),
  .int .i64 (e.c.sea 0), .int .i64 (e.c.sea 1), .int .i64 (e.c.sea 2), .int .i64 (e.c.sea 3), .int .i64 (e.c.sea 4), .int .i64 (e.c.sea 5), .int .i64 (e.c.sea 6), .int .i64 (e.c.sea 7),
  .int .i64 (e.c.spo 0), .int .i64 (e.c.spo 1), .int .i64 (e.c.spo 2), .int .i64 (e.c.spo 3), .int .i64 (e.c.spo 4), .int .i64 (e.c.spo 5), .int .i64 (e.c.spo 6), .int .i64 (e.c.spo 7),
  .int .i64 e.c.src, .int .i64 (e.c.vec 0), .int .i64 (e.c.vec 1), .int .i64 (e.c.vec 2), .int .i64 (e.c.vec 3), .int .i64 (e.c.vec 4), .int .i64 (e.c.vec 5), .int .i64 (e.c.vec 6), .int .i64 (e.c.vec 7),
  .int .i64 e.c.clock, .int .i64 e.c.snap, .int .i64 e.c.idx, .int .i64 e.c.many, e.vd, .int .i64 e.c.site, .int .i64 e.c.sponsor, .int .i64 e.c.len, .bool v, .bool false, .bool false, .bool false, .bool false, .bool c]
attribute [local irreducible] eqW eqV wpC wpO wpD Ex Rd callsK RetP Drop valK
set_option maxHeartbeats 4000000 in
set_option maxRecDepth 100000 in
theorem put1 (e : World) {d m1 m2 : Nat} {F : Hp} {K : Value → Hp → Prop}
    (hK : ∀ (y : SlR) (x : EnR) (o : Nat) es clk, y.c = ⟨0, ⟨1, 0⟩, leave3⟩ → MapK (Value.int .i64) pv es clk [((0 : Int), o)] → K (.tuple #[slV y, .int .i64 0]) ((prO d m1 m2 es clk true true (0 + 1) ++ [(o, cellsO (opC x false false) 93)]) ++ F)) :
    callsK Tryz.prog e 20 #[pv d, .agg leaveR.cells.toArray] (prO d m1 m2 #[] 0 true true 0 ++ F) K := by
  have h1 := leaveR_in (P := [])
  have h2 := leaveR_sz
  have hM : MapK (Value.int .i64) pv #[] 0 [] := MapK.nil _ _
  refine calls_body (N := 60) (args := [pv d, .agg leaveR.cells.toArray]) Tryz.func20 rfl rfl rfl (by simp) ?_
  repeat' (first | (refine fork_mk ?_ ?_) | refine r_C1 ?_ | (show wpO _ _ _ _ _ _ _; first | refine wpO_nil ?_ | (show wpO _ _ _ (⟨_, .binOp _ _ _ _ _, _, _, _, _⟩ :: _) _ _ _; first | refine s_tt ?_ | refine s_ff ?_ | refine s_rdp ?_ | ((first | refine s_cmp (fun _ => ?_) (fun _ => ?_) | refine s_cb (fun _ => ?_) (fun _ => ?_)) <;> (first | (exfalso; omega) | contradiction | skip))) | refine s_rdp ?_ | refine s_rdm ?_ | refine s_exq ?_ | refine s_exm ?_) | (show Ex _ _ _ _ _; first | (show Ex _ ⟨_, .call ⟨.value (.func _), _, _⟩, _, _, _, _⟩ _ _ _; refine e_call ?_; first | (apply checkLeave _) | (apply p_pcs; (first | apply none1 _ | apply cloneEntry_spec _ (x := leaveR) (P := []) h1 h2); (try case hS => assumption); (case hpcs => (repeat (first | exact Pcs.blk (by infer_instance) | exact Pcs.nil | (apply Pcs.cons; infer_instance) | apply Pcs.app))))) | (show Ex _ ⟨_, .alloc _, _, _, _, _⟩ _ _ _; first | (refine e_allocA ?_; intro _) | (refine e_alloc1 ?_; intro _)) | (show Ex _ ⟨_, .box _ _, _, _, _, _⟩ _ _ _; first | (refine e_boxA ?_; intro _) | (refine e_box1 ?_; intro _)) | (show Ex _ ⟨_, .store _ _ _, _, _, _, _⟩ _ _ _; first | refine e_store1 ?_ | refine e_storeA ?_ | (refine e_storeO ?_; intro _ _)) | (show Ex _ ⟨_, .mapUpdate _ _ _ _, _, _, _, _⟩ _ _ _; refine e_mapUpdate ?_; intro _ _ _)) | (show wpC _ _ _ _ _ _; first | refine wpC_seq ?_ | refine wpC_region ?_ | refine c_true ?_ | refine c_false ?_ | (refine c_b (fun _ => ?_) (fun _ => ?_) <;> (first | (exfalso; omega) | contradiction | skip)) | refine wpC_ret ?_ | refine wpC_skip ?_ | refine wpC_label ?_ | (apply wpC_drawF (id := 10) [65, 51] [0, 1, 2, 3, 4, 5, 6, 7, 8] 9 11 [10, 11, 12] [9, 10, 12] rfl (by kernel_rfl); infer_instance) | (apply wpC_drawK (id := 11) [65, 51] [0, 1, 2, 3, 4, 5, 6, 7, 8, 9, 10, 11, 12] rfl (by kernel_rfl); infer_instance)) | (show Then _ _ _ _ _ _ _; first | refine then_normal ?_ | refine then_ret ?_) | (show wpD _ _ _ _ _ _ _ _; first | refine wpD_nil ?_ | refine d_rdp ?_ | refine d_rdm ?_ | refine d_tt ?_ | refine d_ff ?_ | ((first | refine d_cmp (fun _ => ?_) (fun _ => ?_) | refine d_cb (fun _ => ?_) (fun _ => ?_)) <;> (first | (exfalso; omega) | contradiction | skip)) | refine d_exs ?_ | refine d_exn ?_) | (show (_ ∨ Subs _ _) ∧ _; first | refine d_sub ?_ | refine d_cov ?_) | (show RetP _ _ _ _ _ _ _ _; first | refine r_C1 ?_ | refine r_DC ?_) | assumption | intro _)
  all_goals first
    | (rename_i y1 hyc1 _ _ _ _ y2 hyc2 _ _ _ o es clk hM'
       exact q_drop (hK ⟨0, ⟨1, 0⟩, y1, [], []⟩ y2 o es clk (by show Sl.mk _ _ _ = _; rw [hyc1]) hM'))
    | (rename_i y1 hyc1 _ _ _ y2 hyc2 _ _ _ o es clk hM'
       exact q_drop (hK ⟨0, ⟨1, 0⟩, y1, [], []⟩ y2 o es clk (by show Sl.mk _ _ _ = _; rw [hyc1]) hM'))
set_option maxHeartbeats 4000000 in
set_option maxRecDepth 100000 in
theorem accepted1 (e : World) {nx : Int} {d m1 m2 o clk : Nat} {es : Array MapEntry} {x : EnR} {F : Hp} {K : Value → Hp → Prop} (hM : MapK (Value.int .i64) pv es clk [((0 : Int), o)])
    (hK : K (.tuple #[.bool true, .int .i64 0]) ((prO d m1 m2 es clk true true nx ++ [(o, cellsO (opC x true true) 93)]) ++ F)) :
    callsK Tryz.prog e 21 #[pv d, .int .i64 0, .int .i64 0] ((prO d m1 m2 es clk true true nx ++ [(o, cellsO (opC x false false) 93)]) ++ F) K := by
  have hg : aget [((0 : Int), o)] 0 = some o := rfl
  refine calls_body (N := 60) (args := [pv d, .int .i64 0, .int .i64 0]) Tryz.func21 rfl rfl rfl (by simp) ?_
  repeat' (first | (refine s_rdp ?_ (hr := by (apply rd_indexArr (k := 0); exact rfl; exact rfl; exact rfl; exact rfl; decide; done))) | (refine d_rdp ?_ (hr := by (apply rd_indexArr (k := 0); exact rfl; exact rfl; exact rfl; exact rfl; decide; done))) | (show wpO _ _ _ _ _ _ _; first | refine wpO_nil ?_ | (show wpO _ _ _ (⟨_, .binOp _ _ _ _ _, _, _, _, _⟩ :: _) _ _ _; first | refine s_tt ?_ | refine s_ff ?_ | refine s_rdp ?_ | ((first | refine s_cmp (fun _ => ?_) (fun _ => ?_) | refine s_cb (fun _ => ?_) (fun _ => ?_)) <;> (first | (exfalso; omega) | contradiction | skip))) | (show wpO _ _ _ (⟨_, .lookup _ _ _ _, _, _, _, _⟩ :: _) _ _ _; first | refine s_rdm ?_ | refine s_look (fun _ _ => ?_) (fun _ => ?_)) | (show wpO _ _ _ (⟨_, .indexAddr _ _ _, _, _, _, _⟩ :: _) _ _ _; first | refine s_rdp ?_ | refine s_idx (fun _ _ _ _ _ _ _ => ?_)) | (show wpO _ _ _ (⟨_, .pick _ _ _, _, _, _, _⟩ :: _) _ _ _; first | refine s_rdp ?_ | (refine s_p (fun _ => ?_) (fun _ => ?_) <;> (first | (exfalso; omega) | contradiction | skip))) | refine s_rdp ?_ | refine s_rdm ?_ | refine s_exq ?_ | refine s_exm ?_ | refine s_sks ?_ | refine s_skn ?_ | (refine s_g (fun _ => ?_) (fun _ => ?_) <;> (first | (exfalso; omega) | contradiction | skip))) | (show Ex _ _ _ _ _; first | (show Ex _ ⟨_, .call ⟨.value (.func _), _, _⟩, _, _, _, _⟩ _ _ _; refine e_call ?_; first | (apply p_pcs; apply none1 _; (try case hS => assumption); (case hpcs => (repeat (first | exact Pcs.blk (by infer_instance) | exact Pcs.nil | (apply Pcs.cons; infer_instance) | apply Pcs.app)))) | (apply count1 _) | (apply maj1 _)) | (show Ex _ ⟨_, .store _ _ _, _, _, _, _⟩ _ _ _; first | refine e_store1 ?_ | refine e_storeA ?_ | (refine e_storeO ?_; intro _ _))) | (show wpC _ _ _ _ _ _; first | refine wpC_seq ?_ | refine wpC_region ?_ | refine c_true ?_ | refine c_false ?_ | (refine c_b (fun _ => ?_) (fun _ => ?_) <;> (first | (exfalso; omega) | contradiction | skip)) | refine wpC_ret ?_ | refine wpC_skip ?_ | refine wpC_label ?_ | (apply wpC_drawX (id := 11) ([]) [0, 1, 2, 3, 4, 5, 6, 7, 8, 10, 11, 12, 13, 9, 14, 15, 16] rfl (by kernel_rfl); (case hpk => (repeat (first | exact Pcs.blk (by infer_instance) | exact Pcs.nil | (apply Pcs.cons; infer_instance) | apply Pcs.app))))) | (show Then _ _ _ _ _ _ _; first | refine then_normal ?_ | refine then_ret ?_) | (show wpD _ _ _ _ _ _ _ _; first | refine wpD_nil ?_ | refine d_rdp ?_ | refine d_rdm ?_ | refine d_sks ?_ | refine d_tt ?_ | refine d_ff ?_ | ((first | refine d_cmp (fun _ => ?_) (fun _ => ?_) | refine d_cb (fun _ => ?_) (fun _ => ?_)) <;> (first | (exfalso; omega) | contradiction | skip)) | refine d_look (fun _ _ => ?_) (fun _ => ?_) | refine d_idx (fun _ _ _ _ _ _ _ => ?_) | refine d_exs ?_ | refine d_exn ?_ | ((first | refine d_p (fun _ => ?_) (fun _ => ?_) | refine d_g (fun _ => ?_) (fun _ => ?_)) <;> (first | (exfalso; omega) | contradiction | skip))) | (show (_ ∨ Subs _ _) ∧ _; first | refine d_sub ?_ | refine d_cov ?_) | (show RetP _ _ _ _ _ _ _ _; first | refine r_2 ?_) | assumption | intro _)
  all_goals first | exact q_drop hK | (exfalso; omega) | trace_state
set_option maxHeartbeats 4000000 in
set_option maxRecDepth 100000 in
theorem begun_spec (e : World) {F : Hp} {K : Value → Hp → Prop} (hK : K (.bool true) F) : callsK Tryz.prog e 6 #[] F K := by
  refine calls_body (N := 62) (args := []) Tryz.func6 rfl rfl rfl (by simp) ?_
  repeat' ((fail_if_success (show wpC _ (.seq (.region 6 _ _) _) _ _ _ _)); first | (show wpO _ _ _ _ _ _ _; first | refine wpO_nil ?_ | (show wpO _ _ _ (⟨_, .binOp _ _ _ _ _, _, _, _, _⟩ :: _) _ _ _; first | refine s_tt ?_ | refine s_ff ?_ | refine s_rdp ?_ | ((first | refine s_cmp (fun _ => ?_) (fun _ => ?_) | refine s_cb (fun _ => ?_) (fun _ => ?_)) <;> (first | (exfalso; omega) | contradiction | skip))) | (show wpO _ _ _ (⟨_, .pick _ _ _, _, _, _, _⟩ :: _) _ _ _; first | refine s_rdp ?_ | (refine s_p (fun _ => ?_) (fun _ => ?_) <;> (first | (exfalso; omega) | contradiction | skip))) | refine s_rdp ?_ | refine s_rdm ?_ | refine s_exq ?_ | refine s_exm ?_ | refine s_sks ?_ | refine s_skn ?_ | (refine s_g (fun _ => ?_) (fun _ => ?_) <;> (first | (exfalso; omega) | contradiction | skip))) | (show Ex _ _ _ _ _; first | (show Ex _ ⟨_, .call ⟨.value (.func _), _, _⟩, _, _, _, _⟩ _ _ _; refine e_call ?_; first | (apply new1 _) | (apply p_pcs; (first | apply promise1 _ | apply put1 _); (try case hS => assumption); (case hpcs => (repeat (first | exact Pcs.blk (by infer_instance) | exact Pcs.nil | (apply Pcs.cons; infer_instance) | apply Pcs.app))))) | (show Ex _ ⟨_, .alloc _, _, _, _, _⟩ _ _ _; first | (refine e_allocA ?_; intro _) | (refine e_alloc1 ?_; intro _)) | (show Ex _ ⟨_, .store _ _ _, _, _, _, _⟩ _ _ _; first | refine e_store1 ?_ | refine e_storeA ?_ | (refine e_storeO ?_; intro _ _))) | (show wpC _ _ _ _ _ _; first | refine wpC_seq ?_ | refine wpC_region ?_ | refine c_true ?_ | refine c_false ?_ | (refine c_b (fun _ => ?_) (fun _ => ?_) <;> (first | (exfalso; omega) | contradiction | skip)) | refine wpC_ret ?_ | refine wpC_skip ?_ | refine wpC_label ?_) | (show Then _ _ _ _ _ _ _; first | refine then_normal ?_ | refine then_ret ?_) | (show RetP _ _ _ _ _ _ _ _; first | refine r_1 ?_) | assumption | intro _)
  rename_i d m1 m2 y x o es clk hyc hM b
  obtain ⟨ys, yb, ye, _, _⟩ := y
  have h1 : ys = 0 := congrArg Sl.slot hyc
  have h2 : ye.c = leave3 := congrArg Sl.en hyc
  have h3 : ye.c.site = 3 := by rw [h2]
  subst h1
  repeat' (first | (show wpO _ _ _ _ _ _ _; first | refine wpO_nil ?_ | (show wpO _ _ _ (⟨_, .binOp _ _ _ _ _, _, _, _, _⟩ :: _) _ _ _; first | refine s_tt ?_ | refine s_ff ?_ | refine s_rdp ?_ | ((first | refine s_cmp (fun _ => ?_) (fun _ => ?_) | refine s_cb (fun _ => ?_) (fun _ => ?_)) <;> (first | (exfalso; omega) | contradiction | skip))) | (show wpO _ _ _ (⟨_, .pick _ _ _, _, _, _, _⟩ :: _) _ _ _; first | refine s_rdp ?_ | (refine s_p (fun _ => ?_) (fun _ => ?_) <;> (first | (exfalso; omega) | contradiction | skip))) | refine s_rdp ?_ | refine s_rdm ?_ | refine s_exq ?_ | refine s_exm ?_ | refine s_sks ?_ | refine s_skn ?_ | (refine s_g (fun _ => ?_) (fun _ => ?_) <;> (first | (exfalso; omega) | contradiction | skip))) | (show Ex _ _ _ _ _; first | (show Ex _ ⟨_, .call ⟨.value (.func _), _, _⟩, _, _, _, _⟩ _ _ _; refine e_call ?_; first | (apply p_pcs; apply accepted1 _ hM; (try case hS => assumption); (case hpcs => (repeat (first | exact Pcs.blk (by infer_instance) | exact Pcs.nil | (apply Pcs.cons; infer_instance) | apply Pcs.app))))) | (show Ex _ ⟨_, .alloc _, _, _, _, _⟩ _ _ _; first | (refine e_allocA ?_; intro _) | (refine e_alloc1 ?_; intro _)) | (show Ex _ ⟨_, .store _ _ _, _, _, _, _⟩ _ _ _; first | refine e_store1 ?_ | refine e_storeA ?_ | (refine e_storeO ?_; intro _ _))) | (show wpC _ _ _ _ _ _; first | refine wpC_seq ?_ | refine wpC_region ?_ | refine c_true ?_ | refine c_false ?_ | (refine c_b (fun _ => ?_) (fun _ => ?_) <;> (first | (exfalso; omega) | contradiction | skip)) | refine wpC_ret ?_ | refine wpC_skip ?_ | refine wpC_label ?_) | (show Then _ _ _ _ _ _ _; first | refine then_normal ?_ | refine then_ret ?_) | (show RetP _ _ _ _ _ _ _ _; first | refine r_1 ?_) | assumption | intro _)
  all_goals first | exact q_drop hK | (exfalso; omega) | trace_state
end Go.Vl

namespace Go.Vl
open Go.Proofs Classical
abbrev zeroSlr : SlR := ⟨0, ⟨0, 0⟩, zeroE, [], []⟩
set_option maxHeartbeats 4000000 in
set_option maxRecDepth 100000 in
theorem zeroSlr_ok : zeroSlr.ok := ⟨SlO.nil 40 8, SlO.nil 5 1⟩
attribute [local irreducible] eqW eqV wpC wpO wpD Ex Rd callsK RetP Drop valK
set_option maxHeartbeats 4000000 in
set_option maxRecDepth 100000 in
theorem pnoneV (e : World) {b : Bal} {fr : Int} {n d m1 m2 : Nat} {p : Nat → Bool} {ready : Bool} {next : Int} {F : Hp} {K : Value → Hp → Prop} (hK : K (.bool false) ([(d, cellsO (ldV b fr n p ready m1 m2 next) 65)] ++ F)) : callsK Tryz.prog e 34 #[pv d] ([(d, cellsO (ldV b fr n p ready m1 m2 next) 65)] ++ F) K := by
  refine calls_body (N := 12) (args := [pv d]) Tryz.func34 rfl rfl rfl (by simp) ?_
  repeat' (first | (show wpO _ _ _ _ _ _ _; first | refine wpO_nil ?_ | (show wpO _ _ _ (⟨_, .binOp _ _ _ _ _, _, _, _, _⟩ :: _) _ _ _; first | refine s_tt ?_ | refine s_ff ?_ | refine s_rdp ?_ | ((first | refine s_cmp (fun _ => ?_) (fun _ => ?_) | refine s_cb (fun _ => ?_) (fun _ => ?_)) <;> (first | (exfalso; omega) | contradiction | skip))) | (show wpO _ _ _ (⟨_, .pick _ _ _, _, _, _, _⟩ :: _) _ _ _; first | refine s_rdp ?_ | (refine s_p (fun _ => ?_) (fun _ => ?_) <;> (first | (exfalso; omega) | contradiction | skip))) | refine s_rdp ?_ | refine s_rdm ?_ | refine s_exq ?_ | refine s_exm ?_ | refine s_sks ?_ | refine s_skn ?_ | (refine s_g (fun _ => ?_) (fun _ => ?_) <;> (first | (exfalso; omega) | contradiction | skip))) | (show wpC _ _ _ _ _ _; first | refine wpC_seq ?_ | refine wpC_region ?_ | refine wpC_ret ?_ | refine wpC_skip ?_ | refine wpC_label ?_) | (show Then _ _ _ _ _ _ _; first | refine then_normal ?_ | refine then_ret ?_) | (show RetP _ _ _ _ _ _ _ _; first | refine r_1 ?_))
  all_goals first | exact q_drop hK | trace_state
set_option maxHeartbeats 4000000 in
set_option maxRecDepth 100000 in
theorem pput (e : World) {a : Ld} {d : Nat} {r : LdR} {x : EnR} {P F : Hp} {K : Value → Hp → Prop} (hr : r.ok a) (hx : EnIn P x) (hz : EnSz x.c)
    (hK : ∀ (y : SlR) (r' : LdR), y.c = (a.put x.c).1.1 → y.ok → r'.ok (a.put x.c).2 → K (.tuple #[slV y, .int .i64 (a.put x.c).1.2]) ((r'.hp (a.put x.c).2 d ++ y.hp) ++ (P ++ F))) :
    callsK Tryz.prog e 20 #[pv d, .agg x.cells.toArray] (r.hp a d ++ (P ++ F)) K := by
  have hln := hz.len
  have hM := hr.open_
  obtain ⟨b, fr, n, p, ready, came, L, next⟩ := a
  obtain ⟨m1, m2, bes, bclk, ses, sclk, lb, lo, M⟩ := r
  simp only at hM
  show callsK _ _ _ _ (([(d, cellsO (ldV b fr n p ready m1 m2 next) 65), (m1, .map bes bclk), (m2, .map ses sclk)] ++ (opH lo ++ M)) ++ (P ++ F)) K
  by_cases hm : mayE x.c
  · cases ready with
    | false =>
      have h := hK zeroSlr ⟨m1, m2, bes, bclk, ses, sclk, lb, lo, M⟩
      unfold Ld.put at h
      rw [if_neg (by simpa using hm), if_pos rfl] at h
      have h : K (.tuple #[slV zeroSlr, .int .i64 80]) (([(d, cellsO (ldV b fr n p false m1 m2 next) 65), (m1, .map bes bclk), (m2, .map ses sclk)] ++ (opH lo ++ M)) ++ ([] ++ []) ++ (P ++ F)) := h rfl zeroSlr_ok hr
      generalize opH lo = X at *
      refine calls_body (N := 60) (args := [pv d, .agg x.cells.toArray]) Tryz.func20 rfl rfl rfl (by simp) ?_
      repeat' (first | refine r_C1 ?_ | (show wpO _ _ _ _ _ _ _; first | refine wpO_nil ?_ | (show wpO _ _ _ (⟨_, .binOp _ _ _ _ _, _, _, _, _⟩ :: _) _ _ _; first | refine s_tt ?_ | refine s_ff ?_ | refine s_rdp ?_ | ((first | refine s_cmp (fun _ => ?_) (fun _ => ?_) | refine s_cb (fun _ => ?_) (fun _ => ?_)) <;> (first | (exfalso; omega) | contradiction | skip))) | refine s_rdp ?_ | refine s_rdm ?_ | refine s_exq ?_ | refine s_exm ?_) | (show Ex _ _ _ _ _; first | (show Ex _ ⟨_, .call ⟨.value (.func _), _, _⟩, _, _, _, _⟩ _ _ _; refine e_call ?_; first | (apply p_pcs; (first | apply pnoneV _ | apply pcheck _ hx hln); (try case hS => assumption); (case hpcs => (repeat (first | exact Pcs.blk (by infer_instance) | exact Pcs.nil | (apply Pcs.cons; infer_instance) | apply Pcs.app))))) | (show Ex _ ⟨_, .alloc _, _, _, _, _⟩ _ _ _; first | (refine e_allocA ?_; intro _) | (refine e_alloc1 ?_; intro _)) | (show Ex _ ⟨_, .box _ _, _, _, _, _⟩ _ _ _; first | (refine e_boxA ?_; intro _) | (refine e_box1 ?_; intro _)) | (show Ex _ ⟨_, .store _ _ _, _, _, _, _⟩ _ _ _; first | refine e_store1 ?_ | refine e_storeA ?_ | (refine e_storeO ?_; intro _ _)) | (show Ex _ ⟨_, .mapUpdate _ _ _ _, _, _, _, _⟩ _ _ _; refine e_mapUpdate ?_; intro _ _ _)) | (show wpC _ _ _ _ _ _; first | refine wpC_seq ?_ | refine wpC_region ?_ | refine c_true ?_ | refine c_false ?_ | (refine c_b (fun _ => ?_) (fun _ => ?_) <;> (first | (exfalso; omega) | contradiction | skip)) | refine wpC_ret ?_ | refine wpC_skip ?_ | refine wpC_label ?_ | (apply wpC_drawX (id := 11) ([]) [0, 1, 2, 3, 4, 5, 6, 7, 8, 9, 10, 11, 12] rfl (by kernel_rfl); (case hpk => (repeat (first | exact Pcs.blk (by infer_instance) | exact Pcs.nil | (apply Pcs.cons; infer_instance) | apply Pcs.app))))) | (show Then _ _ _ _ _ _ _; first | refine then_normal ?_ | refine then_ret ?_) | (show wpD _ _ _ _ _ _ _ _; first | refine wpD_nil ?_ | refine d_rdp ?_ | refine d_rdm ?_ | refine d_tt ?_ | refine d_ff ?_ | ((first | refine d_cmp (fun _ => ?_) (fun _ => ?_) | refine d_cb (fun _ => ?_) (fun _ => ?_)) <;> (first | (exfalso; omega) | contradiction | skip)) | refine d_exs ?_ | refine d_exn ?_) | (show (_ ∨ Subs _ _) ∧ _; first | refine d_sub ?_ | refine d_cov ?_) | (show RetP _ _ _ _ _ _ _ _; first | refine r_C1 ?_ | refine r_DC ?_) | assumption | intro _)
      all_goals first | (exfalso; contradiction) | exact q_drop h | trace_state
    | true =>
      by_cases hn : next ≤ 1099511627776
      · have hok := fun {y es clk o Bo Bd M'} => r_put (a := ⟨b, fr, n, p, true, came, L, next⟩) hr rfl hn (y := y) (e := x.c) (es := es) (clk := clk) (o := o) (Bo := Bo) (Bd := Bd) (M' := M')
        have h := fun y r' => hK y r'
        unfold Ld.put at h
        rw [if_neg (by simpa using hm), if_neg (by simp), if_neg (by simp only; omega)] at h
        simp only at hok h
        have fin : ∀ (y1 y2 : EnR) (Bo1 Bd1 Bo2 Bd2 : Hp) (o : Nat) (es' : Array MapEntry) (clk' : Nat), y1.c = x.c → EnO y1 Bo1 Bd1 → y2.c = x.c → EnO y2 Bo2 Bd2 → MapK (Value.int .i64) pv es' clk' (aput (lo.map fun x => (x.slot, x.o)) next o) →
            K (.tuple #[slV ⟨next, b, y1, Bo1, Bd1⟩, .int .i64 0]) ((([(d, cellsO (ldV b fr n p true m1 m2 (next + 1)) 65), (m1, .map bes bclk), (m2, .map es' clk')] ++ ((opH lo ++ [(o, cellsO (Opn.mk next o y2 noV false).cells 93)]) ++ ((Bo2 ++ Bd2) ++ M))) ++ (Bo1 ++ Bd1)) ++ (P ++ F)) := by
          intro y1 y2 Bo1 Bd1 Bo2 Bd2 o es' clk' hy1 hO1 hy2 hO2 hM'
          have h9 := h ⟨next, b, y1, Bo1, Bd1⟩ ⟨m1, m2, bes, bclk, es', clk', lb, lo ++ [⟨next, o, y2, noV, false⟩], (Bo2 ++ Bd2) ++ M⟩ (by show Sl.mk _ _ _ = _; rw [hy1]) hO1 (hok hy2 hz hO2 (fun z hz => List.mem_append_left _ hz) (fun z hz => List.mem_append_right _ hz) hM')
          rw [show (LdR.mk m1 m2 bes bclk es' clk' lb (lo ++ [⟨next, o, y2, noV, false⟩]) ((Bo2 ++ Bd2) ++ M)).hp ⟨b, fr, n, p, true, came, L ++ [⟨next, x.c, noV⟩], next + 1⟩ d = [(d, cellsO (ldV b fr n p true m1 m2 (next + 1)) 65), (m1, .map bes bclk), (m2, .map es' clk')] ++ (opH (lo ++ [⟨next, o, y2, noV, false⟩]) ++ ((Bo2 ++ Bd2) ++ M)) from rfl, opH_app] at h9
          exact h9
        have hx0 : fr ≤ next := hr.a.x0
        have hf0 : 0 ≤ fr := hr.a.f0
        clear h hok hr hK
        generalize opH lo = X at *
        refine calls_body (N := 60) (args := [pv d, .agg x.cells.toArray]) Tryz.func20 rfl rfl rfl (by simp) ?_
        repeat' (first | (refine fork_mk ?_ ?_) | refine r_C1 ?_ | (show wpO _ _ _ _ _ _ _; first | refine wpO_nil ?_ | (show wpO _ _ _ (⟨_, .binOp _ _ _ _ _, _, _, _, _⟩ :: _) _ _ _; first | refine s_tt ?_ | refine s_ff ?_ | refine s_rdp ?_ | ((first | refine s_cmp (fun _ => ?_) (fun _ => ?_) | refine s_cb (fun _ => ?_) (fun _ => ?_)) <;> (first | (exfalso; omega) | contradiction | skip))) | refine s_rdp ?_ | refine s_rdm ?_ | refine s_exq ?_ | refine s_exm ?_) | (show Ex _ _ _ _ _; first | (show Ex _ ⟨_, .call ⟨.value (.func _), _, _⟩, _, _, _, _⟩ _ _ _; refine e_call ?_; first | (apply p_pcs; (first | apply pnoneV _ | apply pcheck _ hx hln | apply cloneEntry_spec _ hx hz); (try case hS => assumption); (case hpcs => (repeat (first | exact Pcs.blk (by infer_instance) | exact Pcs.nil | (apply Pcs.cons; infer_instance) | apply Pcs.app))))) | (show Ex _ ⟨_, .alloc _, _, _, _, _⟩ _ _ _; first | (refine e_allocA ?_; intro _) | (refine e_alloc1 ?_; intro _)) | (show Ex _ ⟨_, .box _ _, _, _, _, _⟩ _ _ _; first | (refine e_boxA ?_; intro _) | (refine e_box1 ?_; intro _)) | (show Ex _ ⟨_, .store _ _ _, _, _, _, _⟩ _ _ _; first | refine e_store1 ?_ | refine e_storeA ?_ | (refine e_storeO ?_; intro _ _)) | (show Ex _ ⟨_, .mapUpdate _ _ _ _, _, _, _, _⟩ _ _ _; refine e_mapUpdate ?_; intro _ _ _)) | (show wpC _ _ _ _ _ _; first | refine wpC_seq ?_ | refine wpC_region ?_ | refine c_true ?_ | refine c_false ?_ | (refine c_b (fun _ => ?_) (fun _ => ?_) <;> (first | (exfalso; omega) | contradiction | skip)) | refine wpC_ret ?_ | refine wpC_skip ?_ | refine wpC_label ?_ | (apply wpC_drawF (id := 10) [65, 51] [0, 1, 2, 3, 4, 5, 6, 7, 8] 9 11 [10, 11, 12] [9, 10, 12] rfl (by kernel_rfl); infer_instance) | (apply wpC_drawK (id := 11) [65, 51] [0, 1, 2, 3, 4, 5, 6, 7, 8, 9, 10, 11, 12] rfl (by kernel_rfl); infer_instance)) | (show Then _ _ _ _ _ _ _; first | refine then_normal ?_ | refine then_ret ?_) | (show wpD _ _ _ _ _ _ _ _; first | refine wpD_nil ?_ | refine d_rdp ?_ | refine d_rdm ?_ | refine d_tt ?_ | refine d_ff ?_ | ((first | refine d_cmp (fun _ => ?_) (fun _ => ?_) | refine d_cb (fun _ => ?_) (fun _ => ?_)) <;> (first | (exfalso; omega) | contradiction | skip)) | refine d_exs ?_ | refine d_exn ?_) | (show (_ ∨ Subs _ _) ∧ _; first | refine d_sub ?_ | refine d_cov ?_) | (show RetP _ _ _ _ _ _ _ _; first | refine r_C1 ?_ | refine r_DC ?_) | assumption | intro _)
        all_goals first | (exfalso; contradiction) | (exfalso; omega) | skip
        all_goals first
          | (rename_i y1 hy1 Bo1 Bd1 hO1 _ y2 hy2 Bo2 Bd2 hO2 o es' clk' hM'
             exact q_drop (fin y1 y2 Bo1 Bd1 Bo2 Bd2 o es' clk' hy1 hO1 hy2 hO2 hM'))
          | (rename_i y1 hy1 Bo1 Bd1 hO1 y2 hy2 Bo2 Bd2 hO2 o es' clk' hM'
             exact q_drop (fin y1 y2 Bo1 Bd1 Bo2 Bd2 o es' clk' hy1 hO1 hy2 hO2 hM'))
      · have h := hK zeroSlr ⟨m1, m2, bes, bclk, ses, sclk, lb, lo, M⟩
        unfold Ld.put at h
        rw [if_neg (by simpa using hm), if_neg (by simp), if_pos (by simp only; omega)] at h
        have h : K (.tuple #[slV zeroSlr, .int .i64 3]) (([(d, cellsO (ldV b fr n p true m1 m2 next) 65), (m1, .map bes bclk), (m2, .map ses sclk)] ++ (opH lo ++ M)) ++ ([] ++ []) ++ (P ++ F)) := h rfl zeroSlr_ok hr
        generalize opH lo = X at *
        refine calls_body (N := 60) (args := [pv d, .agg x.cells.toArray]) Tryz.func20 rfl rfl rfl (by simp) ?_
        repeat' (first | refine r_C1 ?_ | (show wpO _ _ _ _ _ _ _; first | refine wpO_nil ?_ | (show wpO _ _ _ (⟨_, .binOp _ _ _ _ _, _, _, _, _⟩ :: _) _ _ _; first | refine s_tt ?_ | refine s_ff ?_ | refine s_rdp ?_ | ((first | refine s_cmp (fun _ => ?_) (fun _ => ?_) | refine s_cb (fun _ => ?_) (fun _ => ?_)) <;> (first | (exfalso; omega) | contradiction | skip))) | refine s_rdp ?_ | refine s_rdm ?_ | refine s_exq ?_ | refine s_exm ?_) | (show Ex _ _ _ _ _; first | (show Ex _ ⟨_, .call ⟨.value (.func _), _, _⟩, _, _, _, _⟩ _ _ _; refine e_call ?_; first | (apply p_pcs; (first | apply pnoneV _ | apply pcheck _ hx hln); (try case hS => assumption); (case hpcs => (repeat (first | exact Pcs.blk (by infer_instance) | exact Pcs.nil | (apply Pcs.cons; infer_instance) | apply Pcs.app))))) | (show Ex _ ⟨_, .alloc _, _, _, _, _⟩ _ _ _; first | (refine e_allocA ?_; intro _) | (refine e_alloc1 ?_; intro _)) | (show Ex _ ⟨_, .box _ _, _, _, _, _⟩ _ _ _; first | (refine e_boxA ?_; intro _) | (refine e_box1 ?_; intro _)) | (show Ex _ ⟨_, .store _ _ _, _, _, _, _⟩ _ _ _; first | refine e_store1 ?_ | refine e_storeA ?_ | (refine e_storeO ?_; intro _ _)) | (show Ex _ ⟨_, .mapUpdate _ _ _ _, _, _, _, _⟩ _ _ _; refine e_mapUpdate ?_; intro _ _ _)) | (show wpC _ _ _ _ _ _; first | refine wpC_seq ?_ | refine wpC_region ?_ | refine c_true ?_ | refine c_false ?_ | (refine c_b (fun _ => ?_) (fun _ => ?_) <;> (first | (exfalso; omega) | contradiction | skip)) | refine wpC_ret ?_ | refine wpC_skip ?_ | refine wpC_label ?_ | (apply wpC_drawX (id := 11) ([]) [0, 1, 2, 3, 4, 5, 6, 7, 8, 9, 10, 11, 12] rfl (by kernel_rfl); (case hpk => (repeat (first | exact Pcs.blk (by infer_instance) | exact Pcs.nil | (apply Pcs.cons; infer_instance) | apply Pcs.app))))) | (show Then _ _ _ _ _ _ _; first | refine then_normal ?_ | refine then_ret ?_) | (show wpD _ _ _ _ _ _ _ _; first | refine wpD_nil ?_ | refine d_rdp ?_ | refine d_rdm ?_ | refine d_tt ?_ | refine d_ff ?_ | ((first | refine d_cmp (fun _ => ?_) (fun _ => ?_) | refine d_cb (fun _ => ?_) (fun _ => ?_)) <;> (first | (exfalso; omega) | contradiction | skip)) | refine d_exs ?_ | refine d_exn ?_) | (show (_ ∨ Subs _ _) ∧ _; first | refine d_sub ?_ | refine d_cov ?_) | (show RetP _ _ _ _ _ _ _ _; first | refine r_C1 ?_ | refine r_DC ?_) | assumption | intro _)
        all_goals first | (exfalso; contradiction) | (exfalso; omega) | exact q_drop h | trace_state
  · have h := hK zeroSlr ⟨m1, m2, bes, bclk, ses, sclk, lb, lo, M⟩
    unfold Ld.put at h
    rw [if_pos hm] at h
    have h : K (.tuple #[slV zeroSlr, .int .i64 40]) (([(d, cellsO (ldV b fr n p ready m1 m2 next) 65), (m1, .map bes bclk), (m2, .map ses sclk)] ++ (opH lo ++ M)) ++ ([] ++ []) ++ (P ++ F)) := h rfl zeroSlr_ok hr
    generalize opH lo = X at *
    refine calls_body (N := 60) (args := [pv d, .agg x.cells.toArray]) Tryz.func20 rfl rfl rfl (by simp) ?_
    repeat' (first | refine r_C1 ?_ | (show wpO _ _ _ _ _ _ _; first | refine wpO_nil ?_ | (show wpO _ _ _ (⟨_, .binOp _ _ _ _ _, _, _, _, _⟩ :: _) _ _ _; first | refine s_tt ?_ | refine s_ff ?_ | refine s_rdp ?_ | ((first | refine s_cmp (fun _ => ?_) (fun _ => ?_) | refine s_cb (fun _ => ?_) (fun _ => ?_)) <;> (first | (exfalso; omega) | contradiction | skip))) | refine s_rdp ?_ | refine s_rdm ?_ | refine s_exq ?_ | refine s_exm ?_) | (show Ex _ _ _ _ _; first | (show Ex _ ⟨_, .call ⟨.value (.func _), _, _⟩, _, _, _, _⟩ _ _ _; refine e_call ?_; first | (apply p_pcs; (first | apply pnoneV _ | apply pcheck _ hx hln); (try case hS => assumption); (case hpcs => (repeat (first | exact Pcs.blk (by infer_instance) | exact Pcs.nil | (apply Pcs.cons; infer_instance) | apply Pcs.app))))) | (show Ex _ ⟨_, .alloc _, _, _, _, _⟩ _ _ _; first | (refine e_allocA ?_; intro _) | (refine e_alloc1 ?_; intro _)) | (show Ex _ ⟨_, .box _ _, _, _, _, _⟩ _ _ _; first | (refine e_boxA ?_; intro _) | (refine e_box1 ?_; intro _)) | (show Ex _ ⟨_, .store _ _ _, _, _, _, _⟩ _ _ _; first | refine e_store1 ?_ | refine e_storeA ?_ | (refine e_storeO ?_; intro _ _)) | (show Ex _ ⟨_, .mapUpdate _ _ _ _, _, _, _, _⟩ _ _ _; refine e_mapUpdate ?_; intro _ _ _)) | (show wpC _ _ _ _ _ _; first | refine wpC_seq ?_ | refine wpC_region ?_ | refine c_true ?_ | refine c_false ?_ | (refine c_b (fun _ => ?_) (fun _ => ?_) <;> (first | (exfalso; omega) | contradiction | skip)) | refine wpC_ret ?_ | refine wpC_skip ?_ | refine wpC_label ?_ | (apply wpC_drawX (id := 11) ([]) [0, 1, 2, 3, 4, 5, 6, 7, 8, 9, 10, 11, 12] rfl (by kernel_rfl); (case hpk => (repeat (first | exact Pcs.blk (by infer_instance) | exact Pcs.nil | (apply Pcs.cons; infer_instance) | apply Pcs.app))))) | (show Then _ _ _ _ _ _ _; first | refine then_normal ?_ | refine then_ret ?_) | (show wpD _ _ _ _ _ _ _ _; first | refine wpD_nil ?_ | refine d_rdp ?_ | refine d_rdm ?_ | refine d_tt ?_ | refine d_ff ?_ | ((first | refine d_cmp (fun _ => ?_) (fun _ => ?_) | refine d_cb (fun _ => ?_) (fun _ => ?_)) <;> (first | (exfalso; omega) | contradiction | skip)) | refine d_exs ?_ | refine d_exn ?_) | (show (_ ∨ Subs _ _) ∧ _; first | refine d_sub ?_ | refine d_cov ?_) | (show RetP _ _ _ _ _ _ _ _; first | refine r_C1 ?_ | refine r_DC ?_) | assumption | intro _)
    all_goals first | (exfalso; contradiction) | exact q_drop h | trace_state
end Go.Vl

namespace Go.Vl
open Go.RowKit
section
variable {C : Cx} {ρ : Fr} {H : Hp} {d : Option Nat} {ty : TypeId} {pos : String} {af : Array Edge} {g : Option (Nat × Bool)} {K : Value → Hp → Prop}
theorem madeList (z : Array Value) (_hz : 0 < z.size) : ∀ n : Nat, (madeCells z (n * z.size)).toList = (List.replicate n z.toList).flatten
  | 0 => by simp [madeCells]
  | n + 1 => by
    apply List.ext_getElem?
    intro i
    have hl : (List.replicate (n + 1) z.toList).flatten.length = (n + 1) * z.size := by simp
    by_cases hi : i < (n + 1) * z.size
    · have h1 : (madeCells z ((n + 1) * z.size)).toList[i]? = some (z[i % z.size]!) := by
        simp [madeCells, hi]
      rw [h1]
      have hf : ∀ (m i : Nat), i < m * z.size → (List.replicate m z.toList).flatten[i]? = some (z[i % z.size]!) := by
        intro m
        induction m with
        | zero => intro i h; omega
        | succ m ih =>
          intro i h
          rw [List.replicate_succ, List.flatten_cons, List.getElem?_append]
          split
          · rename_i h2
            have h2 : i < z.size := by simpa using h2
            rw [Nat.mod_eq_of_lt h2]
            simp [h2]
          · rename_i h2
            have h2 : z.size ≤ i := by simpa using h2
            rw [Array.length_toList, ih (i - z.size) (by rw [Nat.succ_mul] at h; omega)]
            rw [Nat.mod_eq_sub_mod h2]
      exact (hf (n + 1) i hi).symm
    · rw [List.getElem?_eq_none (by simp [madeCells]; omega), List.getElem?_eq_none (by rw [hl]; omega)]
theorem e_makeSlice {t el : TypeId} {x : Operand} {i : TypeInfo} {z : Value} {n : Nat} {kq : IntKind} (h : ∀ b, K (.slice (some ⟨b, 0, none⟩) n n) ((b, cellsO (List.replicate n z.cells.toList).flatten el) :: H)) (hx : ev ρ x = .int kq (n : Int)) (ht : C.P.underlying t = some (.slice el)) (hi : C.P.info? el = some i) (hz : i.zero = some z) (hsz : i.size = z.cells.size) (h0 : 0 < z.cells.size) (hb : i.bytes * n ≤ 281474976710656) (h63 : n ≤ 9223372036854775807) :
    Ex C ⟨d, .makeSlice t x x, ty, pos, af, g⟩ K ρ H := by
  refine ex_new (obj := cellsO (List.replicate n z.cells.toList).flatten el) (v := fun b => .slice (some ⟨b, 0, none⟩) n n) (fun w => ?_) h
  have hb' : (i.bytes : Int) * (n : Int) ≤ 281474976710656 := by
    have h : ((i.bytes * n : Nat) : Int) ≤ 281474976710656 := by omega
    rwa [Int.natCast_mul] at h
  have hr := run_make (P := C.P) w t el i z ht hi hz kq kq (n : Int) (n : Int) (by omega) (Int.le_refl _) hb' (by omega)
  have ho : Obj.cells (madeCells z.cells (n * i.size)) el = cellsO (List.replicate n z.cells.toList).flatten el := by
    show Obj.cells _ el (0, 0) = Obj.cells _ el (0, 0)
    rw [← madeList z.cells h0 n, ← hsz, Array.toArray_toList]
  simp only [Int.toNat_natCast, ho] at hr
  rw [← hx] at hr
  simp [execOp, hr]
end
end Go.Vl

namespace Go.Vl
open Go.Proofs Classical
attribute [local irreducible] eqW eqV wpC wpO wpD Ex Rd callsK RetP Drop valK
end Go.Vl

namespace Go.Vl
open Go.RowKit
theorem putL_eq : ∀ (r l : List Value) (o : Nat), o + r.length ≤ l.length → putL l o r = l.take o ++ (r ++ l.drop (o + r.length))
  | [], l, o, h => by simp [putL]
  | v :: r, l, o, h => by
    have h : o + (r.length + 1) ≤ l.length := by simpa using h
    rw [putL, putL_eq r (l.set o v) (o + 1) (by rw [List.length_set]; omega)]
    have h1 : (l.set o v).take (o + 1) = l.take o ++ [v] := by
      rw [List.take_set, List.take_add_one, List.set_append_right _ _ (by rw [List.length_take]; omega)]
      rw [show o - (l.take o).length = 0 by rw [List.length_take]; omega, List.getElem?_eq_getElem (by omega)]
      rfl
    have h2 : (l.set o v).drop (o + 1 + r.length) = l.drop (o + (v :: r).length) := by
      rw [List.drop_set_of_lt (by omega)]
      congr 1
      simp; omega
    rw [h1, h2]
    simp
theorem flat_put {sz : Nat} : ∀ {rows : List (List Value)} {i : Nat} {r : List Value}, (∀ x ∈ rows, x.length = sz) → r.length = sz → i < rows.length → rows.flatten.take (i * sz) ++ (r ++ rows.flatten.drop (i * sz + sz)) = (rows.set i r).flatten
  | [], i, r, _, _, h => by simp at h
  | x :: rows, 0, r, h, hr, _ => by
    have hx : x.length = sz := h x (by simp)
    simp only [Nat.zero_mul, List.take_zero, List.nil_append, Nat.zero_add, List.flatten_cons, List.set_cons_zero]
    rw [List.drop_append_of_le_length (by omega), ← hx, List.drop_length, List.nil_append]
  | x :: rows, i + 1, r, h, hr, hi => by
    have hx : x.length = sz := h x (by simp)
    have ih := flat_put (rows := rows) (i := i) (r := r) (fun y hy => h y (List.mem_cons_of_mem _ hy)) hr (by simpa using hi)
    rw [List.set_cons_succ, List.flatten_cons, List.flatten_cons, ← ih]
    have e1 : (i + 1) * sz = x.length + i * sz := by rw [Nat.succ_mul]; omega
    rw [e1, List.take_length_add_append, show x.length + i * sz + sz = x.length + (i * sz + sz) by omega, List.drop_length_add_append, List.append_assoc]
section
variable {C : Cx} {ρ : Fr} {H : Hp} {d : Option Nat} {ty : TypeId} {pos : String} {af : Array Edge} {K : Value → Hp → Prop}
theorem e_storeRowR {t g n cap i sz : Nat} {x y : Operand} {cur : Array Value} {rows : List (List Value)} {r : List Value} {T : TypeId} {f : Obj → Hp} {gd : Option (Nat × Bool)} (h : ∀ cur', SlO T sz (.slice (some ⟨g, 0, none⟩) n cap) n (rows.set i r).flatten [(g, .cells cur' T (0, 0))] → K undef (f (.cells cur' T (0, 0))))
    (hx : ev ρ x = .pointer (some ⟨g, 0 + i * sz, none⟩)) (hy : ev ρ y = .agg r.toArray) (hs : Go.Vl.sz C.P t = some r.length) (ho : ones r = true)
    (hS : SlO T sz (.slice (some ⟨g, 0, none⟩) n cap) n rows.flatten [(g, .cells cur T (0, 0))]) (hl : r.length = sz) (hrl : ∀ x ∈ rows, x.length = sz) (hrn : rows.length = n) (hi : i < n) (hz : Zp H g (.cells cur T (0, 0)) f) : Ex C ⟨d, .store t x y, ty, pos, af, gd⟩ K ρ H := by
  obtain ⟨hlen, hw⟩ := hS
  rcases hw with ⟨a, ha, _⟩ | ⟨g', cap', cur', hv, hB, hn, hc, hcs, ht⟩
  · cases ha
    omega
  · cases hv
    cases hB
    have hin : i * sz + sz ≤ n * sz := by
      have := Nat.mul_le_mul_right sz (show i + 1 ≤ n by omega)
      rw [Nat.succ_mul] at this
      exact this
    have hcap : n * sz ≤ cap * sz := Nat.mul_le_mul_right _ hn
    have hz' : Zip H g (cellsO cur.toList T) f := by simpa using hz.zip
    refine ex_storeA hx hy hs ho hz' (by simp [Nat.ble_eq]; omega) rfl ?_
    have hp := putL_eq r cur.toList (0 + i * sz) (by simp; omega)
    have hfin : (putL cur.toList (0 + i * sz) r).take (n * sz) = (rows.set i r).flatten := by
      rw [← flat_put hrl hl (by omega), ← ht, hp, Nat.zero_add, hl]
      rw [List.take_append, List.take_take, List.length_take, List.take_append, hl]
      have e1 : min (i * sz) cur.toList.length = i * sz := by simp; omega
      rw [e1, Nat.min_eq_right (by omega : i * sz ≤ n * sz), List.take_of_length_le (show r.length ≤ _ by omega)]
      rw [List.take_take, Nat.min_eq_left (by omega : i * sz ≤ n * sz), List.drop_take]
      congr 3
      omega
    refine h (putL cur.toList (0 + i * sz) r).toArray ⟨?_, .inr ⟨g, cap, _, rfl, rfl, hn, hc, ?_, ?_⟩⟩
    · rw [← hfin, List.length_take, putL_length]; simp; omega
    · simp [putL_length]; exact hcs
    · simpa using hfin
end
end Go.Vl
