/-
  Steps of the proof: HL, HM, Y0.
-/
import Derived.Test.YtpegidbkplgplaaGreatQ22
import Derived.Test.YtpegidbkplgplaaGreatQ18
import Derived.Test.YtpegidbkplgplaaGreatQ21
namespace Go.Vl
open Go.Proofs Classical
set_option maxHeartbeats 4000000 in
set_option maxRecDepth 100000 in
theorem RfR.chn {r : RfR} {a : Ld} (h : r.ok a) {i : Nat} {x : RsR} (hx : r.ls[i]? = some x) : a.L[i]? = some x.c := by rw [← h.L, List.getElem?_map, hx]; rfl
set_option maxHeartbeats 4000000 in
set_option maxRecDepth 100000 in
theorem rsIn {v : Value} {ls : List RsR} {B : Hp} (h : SlO 97 58 v ls.length (ls.map RsR.cells).flatten B) : InSl B 58 (ls.map RsR.cells) v :=
  SlO.inB (by rw [List.length_map]; exact h) (fun r hr => by obtain ⟨x, _, rfl⟩ := List.mem_map.1 hr; exact ⟨rfl, rfl⟩)
attribute [local irreducible] eqW eqV wpC wpO wpD Ex Rd callsK RetP Drop valK
set_option maxHeartbeats 4000000 in
set_option maxRecDepth 100000 in
theorem rchosen (e : World) {a : Ld} {d : Nat} {r : RfR} {i : Nat} {x : RsR} {F : Hp} {K : Value → Hp → Prop} (hr : r.ok a) (hi : r.ls[i]? = some x) {c : Bool} (hc : x.c.ch a.n = c) (hK : K (.bool c) (r.hp a d ++ F)) :
    callsK Tryz.prog e 38 #[pv d, .int .i64 (i : Int)] (r.hp a d ++ F) K := by
  subst hc
  have n1 := hr.a.n1
  have n5 := hr.a.n5
  have hxm := List.mem_of_getElem? hi
  have hxn := hr.n x hxm
  have hvn := hr.vl x hxm
  have hin := rsIn hr.ss
  have hil := (List.getElem?_eq_some_iff.1 hi).1
  have hml : (r.ls.map RsR.cells).length = r.ls.length := List.length_map _
  clear hr
  obtain ⟨g, cv, lc, Cb, sv, ls, Sb, M⟩ := r
  simp only at hi hin hil hml hxm ⊢
  obtain ⟨l1, l2, rfl⟩ : ∃ l1 l2, ls = l1 ++ x :: l2 := List.append_of_mem hxm
  have hsp : rsH (l1 ++ x :: l2) = rsH l1 ++ (vbH x.v x.n x.g ++ rsH l2) := by rw [rsH_app]; rfl
  show callsK _ _ _ _ ((([(d, cellsO (rfC a.b a.fr a.n g cv a.ready a.next sv) 69)] ++ vbH a.p a.n g) ++ ((Cb ++ Sb) ++ (rsH (l1 ++ x :: l2) ++ M))) ++ F) K
  have hK : K (.bool (x.c.ch a.n)) ((([(d, cellsO (rfC a.b a.fr a.n g cv a.ready a.next sv) 69)] ++ vbH a.p a.n g) ++ ((Cb ++ Sb) ++ (rsH (l1 ++ x :: l2) ++ M))) ++ F) := hK
  rw [hsp] at hK ⊢
  obtain ⟨xs, xe, xv, xn, xg⟩ := x
  simp only at hxn hvn
  subst hxn
  have hti := vts_in xv n5 xg
  have hch : Ol.ch a.n ⟨xs, xe.c, xv⟩ = decide (maj a.n ≤ cnt5 xv) := rfl
  simp only [hch] at hK
  clear hch
  refine calls_body (N := 20) (args := [pv d, .int .i64 (i : Int)]) Tryz.func38 rfl rfl rfl (by simp) ?_
  repeat' (first | (show wpO _ _ _ _ _ _ _; first | refine wpO_nil ?_ | (show wpO _ _ _ (⟨_, .binOp _ _ _ _ _, _, _, _, _⟩ :: _) _ _ _; first | refine s_tt ?_ | refine s_ff ?_ | refine s_rdp ?_ | ((first | refine s_cmp (fun _ => ?_) (fun _ => ?_) | refine s_cb (fun _ => ?_) (fun _ => ?_)) <;> (first | (exfalso; omega) | contradiction | skip))) | (show wpO _ _ _ (⟨_, .indexAddr _ _ _, _, _, _, _⟩ :: _) _ _ _; first | refine s_rdp ?_ | refine s_idx (fun _ _ _ _ _ _ _ => ?_)) | refine s_rdp ?_ | refine s_rdm ?_ | refine s_exq ?_ | refine s_exm ?_) | (show Ex _ _ _ _ _; first | (show Ex _ ⟨_, .call ⟨.value (.func _), _, _⟩, _, _, _, _⟩ _ _ _; refine e_call ?_; first | (apply p_pcs; apply rtally5 _ hti n5 hvn; (try case hS => assumption); (case hpcs => (repeat (first | exact Pcs.blk (by infer_instance) | exact Pcs.nil | (apply Pcs.cons; infer_instance) | apply Pcs.app)))) | (apply rmaj8 _ n1 n5))) | (show wpC _ _ _ _ _ _; first | refine wpC_seq ?_ | refine wpC_region ?_ | refine wpC_ret ?_ | refine wpC_skip ?_ | refine wpC_label ?_ | (apply wpC_drawX (id := 1) ([]) [0, 1, 2, 3, 4, 5, 6, 7, 9, 10, 11, 12, 8, 13, 14, 15] rfl (by kernel_rfl); (case hpk => (repeat (first | exact Pcs.blk (by infer_instance) | exact Pcs.nil | (apply Pcs.cons; infer_instance) | apply Pcs.app))))) | (show Then _ _ _ _ _ _ _; first | refine then_normal ?_ | refine then_ret ?_) | (show wpD _ _ _ _ _ _ _ _; first | refine wpD_nil ?_ | refine d_rdp ?_ | refine d_rdm ?_ | refine d_tt ?_ | refine d_ff ?_ | ((first | refine d_cmp (fun _ => ?_) (fun _ => ?_) | refine d_cb (fun _ => ?_) (fun _ => ?_)) <;> (first | (exfalso; omega) | contradiction | skip)) | refine d_idx (fun _ _ _ _ _ _ _ => ?_) | refine d_exs ?_ | refine d_exn ?_) | (show (_ ∨ Subs _ _) ∧ _; first | refine d_sub ?_ | refine d_cov ?_) | (show RetP _ _ _ _ _ _ _ _; first | refine r_1 ?_) | assumption | intro _)
  all_goals first
    | (exfalso; omega)
    | (rw [decide_eq_true (by omega)] at hK; exact q_drop hK)
    | (rw [decide_eq_false (by omega)] at hK; exact q_drop hK)
    | trace_state
set_option maxHeartbeats 4000000 in
set_option maxRecDepth 100000 in
theorem rwaiting (e : World) {a : Ld} {d : Nat} {r : RfR} {F : Hp} {K : Value → Hp → Prop} (hr : r.ok a) (hl : a.L.length * 528 ≤ 140737488355328)
    (hK : ∀ v Bs ls, ls.map SlR.c = a.waits → (∀ s ∈ ls, s.ok) → SlO 73 59 v ls.length (ls.map SlR.cells).flatten Bs → K v ((Bs ++ acH ls) ++ (r.hp a d ++ F))) :
    callsK Tryz.prog e 18 #[pv d] (r.hp a d ++ F) K := by
  have hin := rsIn hr.ss
  have hlen : r.ls.length = a.L.length := by rw [← hr.L, List.length_map]
  have hml : (r.ls.map RsR.cells).length = r.ls.length := List.length_map _
  have hat := fun i x hx => RfR.chn hr (i := i) (x := x) hx
  have hli := hr.li
  refine calls_body (N := 44) (args := [pv d]) Tryz.func18 rfl rfl rfl (by simp) ?_
  repeat' ((fail_if_success (show wpC _ (.loop _) _ _ _ _)); first | (show wpO _ _ _ _ _ _ _; first | refine wpO_nil ?_ | (show wpO _ _ _ (⟨_, .binOp _ _ _ _ _, _, _, _, _⟩ :: _) _ _ _; first | refine s_tt ?_ | refine s_ff ?_ | refine s_rdp ?_ | ((first | refine s_cmp (fun _ => ?_) (fun _ => ?_) | refine s_cb (fun _ => ?_) (fun _ => ?_)) <;> (first | (exfalso; omega) | contradiction | skip))) | (show wpO _ _ _ (⟨_, .indexAddr _ _ _, _, _, _, _⟩ :: _) _ _ _; first | refine s_rdp ?_ | refine s_idx (fun _ _ _ _ _ _ _ => ?_)) | refine s_rdp ?_ | refine s_rdm ?_ | refine s_exq ?_ | refine s_exm ?_) | (show Ex _ _ _ _ _; first | (show Ex _ ⟨_, .buildSlice _ _ _, _, _, _, _⟩ _ _ _; first | (refine e_buildSlice ?_; intro _) | (refine e_buildNil ?_; intro _ _ _)) | (show Ex _ ⟨_, .call ⟨.builtin .append, _, _⟩, _, _, _, _⟩ _ _ _; (first | refine e_append ?_ | refine e_appendIn ?_); intro _ _ _)) | (show wpC _ _ _ _ _ _; first | refine wpC_seq ?_ | refine wpC_region ?_ | refine c_true ?_ | refine c_false ?_ | (refine c_b (fun _ => ?_) (fun _ => ?_) <;> (first | (exfalso; omega) | contradiction | skip)) | refine wpC_block ?_ | refine wpC_ret ?_ | refine wpC_skip ?_ | refine wpC_exit ?_ | refine wpC_label ?_ | (apply wpC_drawX (id := 6) ([]) [0, 1, 2, 3, 4, 5, 6, 7, 8, 9, 10, 11, 12, 13, 14, 15, 16, 17, 18, 19, 20, 21, 22, 23, 24, 25] rfl (by kernel_rfl); (case hpk => (repeat (first | exact Pcs.blk (by infer_instance) | exact Pcs.nil | (apply Pcs.cons; infer_instance) | apply Pcs.app))))) | (show Then _ _ _ _ _ _ _; first | refine then_normal ?_ | refine then_ret ?_ | refine then_exit ?_) | (show InBlock _ _ _ _ _ _; first | refine inBlock_normal ?_ | refine inBlock_ret ?_ | refine inBlock_same ?_ | refine b_other ?_) | (show LoopPost _ _ _ _ _ _; first | refine loop_ret ?_ | refine loop_exit ?_) | (show wpD _ _ _ _ _ _ _ _; first | refine wpD_nil ?_ | refine d_rdp ?_ | refine d_rdm ?_ | refine d_tt ?_ | refine d_ff ?_ | ((first | refine d_cmp (fun _ => ?_) (fun _ => ?_) | refine d_cb (fun _ => ?_) (fun _ => ?_)) <;> (first | (exfalso; omega) | contradiction | skip)) | refine d_idx (fun _ _ _ _ _ _ _ => ?_) | refine d_exs ?_ | refine d_exn ?_) | (show (_ ∨ Subs _ _) ∧ _; first | refine d_sub ?_ | refine d_cov ?_) | (show RetP _ _ _ _ _ _ _ _; first | refine r_1 ?_))
  refine wpC_loopA (κ := LiS) [3, 4, 5, 6, 7, 8, 9, 10, 11, 12, 13, 14, 15, 16, 17, 18, 19, 20, 21, 22, 23, 24, 25, 26, 27, 28, 29, 30, 31, 32, 33, 34, 35, 36, 37, 38, 39, 40, 41, 42] (fun s => [(3, s.v), (4, .int .i64 (s.i : Int))]) (fun s => (s.Bs ++ acH s.ls) ++ (r.hp a d ++ F))
    (fun s => s.i ≤ a.L.length ∧ s.ls.map SlR.c = waitsN a s.i ∧ (∀ x ∈ s.ls, x.ok) ∧ SlO 73 59 s.v s.ls.length (s.ls.map SlR.cells).flatten s.Bs) (fun s => a.L.length - s.i) ⟨0, .slice none 0 0, [], []⟩ ⟨Nat.zero_le _, rfl, (fun x hx => by cases hx), SlO.nil 73 59⟩ ⟨rfl, rfl, trivial⟩ q_drp ?_
  rintro ⟨i, v, Bs, ls⟩ ρx ⟨hi, hls, hok, hv⟩
  simp only at hi hls hok hv ⊢
  have hlsl : ls.length ≤ i := by
    have := congrArg List.length hls
    rw [List.length_map] at this
    rw [this]
    exact waitsN_len a i
  cases hx : r.ls[i]? with
  | none =>
    have hge : r.ls.length ≤ i := List.getElem?_eq_none_iff.1 hx
    rw [waitsN_all (by omega)] at hls
    repeat' (first | (show wpO _ _ _ _ _ _ _; first | refine wpO_nil ?_ | (show wpO _ _ _ (⟨_, .binOp _ _ _ _ _, _, _, _, _⟩ :: _) _ _ _; first | refine s_tt ?_ | refine s_ff ?_ | refine s_rdp ?_ | ((first | refine s_cmp (fun _ => ?_) (fun _ => ?_) | refine s_cb (fun _ => ?_) (fun _ => ?_)) <;> (first | (exfalso; omega) | contradiction | skip))) | (show wpO _ _ _ (⟨_, .indexAddr _ _ _, _, _, _, _⟩ :: _) _ _ _; first | refine s_rdp ?_ | refine s_idx (fun _ _ _ _ _ _ _ => ?_)) | refine s_rdp ?_ | refine s_rdm ?_ | refine s_exq ?_ | refine s_exm ?_) | (show Ex _ _ _ _ _; first | (show Ex _ ⟨_, .buildSlice _ _ _, _, _, _, _⟩ _ _ _; first | (refine e_buildSlice ?_; intro _) | (refine e_buildNil ?_; intro _ _ _)) | (show Ex _ ⟨_, .call ⟨.builtin .append, _, _⟩, _, _, _, _⟩ _ _ _; (first | refine e_append ?_ | refine e_appendIn ?_); intro _ _ _)) | (show wpC _ _ _ _ _ _; first | refine wpC_seq ?_ | refine wpC_region ?_ | refine c_true ?_ | refine c_false ?_ | (refine c_b (fun _ => ?_) (fun _ => ?_) <;> (first | (exfalso; omega) | contradiction | skip)) | refine wpC_block ?_ | refine wpC_ret ?_ | refine wpC_skip ?_ | refine wpC_exit ?_ | refine wpC_label ?_ | (apply wpC_drawX (id := 6) ([]) [0, 1, 2, 3, 4, 5, 6, 7, 8, 9, 10, 11, 12, 13, 14, 15, 16, 17, 18, 19, 20, 21, 22, 23, 24, 25] rfl (by kernel_rfl); (case hpk => (repeat (first | exact Pcs.blk (by infer_instance) | exact Pcs.nil | (apply Pcs.cons; infer_instance) | apply Pcs.app))))) | (show Then _ _ _ _ _ _ _; first | refine then_normal ?_ | refine then_ret ?_ | refine then_exit ?_) | (show InBlock _ _ _ _ _ _; first | refine inBlock_normal ?_ | refine inBlock_ret ?_ | refine inBlock_same ?_ | refine b_other ?_) | (show LoopPost _ _ _ _ _ _; first | refine loop_ret ?_ | refine loop_exit ?_) | (show wpD _ _ _ _ _ _ _ _; first | refine wpD_nil ?_ | refine d_rdp ?_ | refine d_rdm ?_ | refine d_tt ?_ | refine d_ff ?_ | ((first | refine d_cmp (fun _ => ?_) (fun _ => ?_) | refine d_cb (fun _ => ?_) (fun _ => ?_)) <;> (first | (exfalso; omega) | contradiction | skip)) | refine d_idx (fun _ _ _ _ _ _ _ => ?_) | refine d_exs ?_ | refine d_exn ?_) | (show (_ ∨ Subs _ _) ∧ _; first | refine d_sub ?_ | refine d_cov ?_) | (show RetP _ _ _ _ _ _ _ _; first | refine r_1 ?_))
    all_goals first | (exfalso; omega) | exact q_drop (hK v Bs ls hls hok hv) | trace_state
  | some x =>
    have hlt := (List.getElem?_eq_some_iff.1 hx).1
    have hxm := List.mem_of_getElem? hx
    obtain ⟨hei, hes⟩ := hli x hxm
    have hax := hat i x hx
    have htk : waitsN a (i + 1) = waitsN a i ++ (if x.c.ch a.n = true then [] else [⟨x.slot, a.b, x.en.c⟩]) := by
      unfold waitsN
      rw [List.take_add_one, hax, List.filter_append, List.map_append]
      congr 1
      cases hc : x.c.ch a.n <;> simp [hc]
    clear hK hat hli
    cases hc : x.c.ch a.n with
    | true =>
      repeat' (first | (show wpO _ _ _ _ _ _ _; first | refine wpO_nil ?_ | (show wpO _ _ _ (⟨_, .binOp _ _ _ _ _, _, _, _, _⟩ :: _) _ _ _; first | refine s_tt ?_ | refine s_ff ?_ | refine s_rdp ?_ | ((first | refine s_cmp (fun _ => ?_) (fun _ => ?_) | refine s_cb (fun _ => ?_) (fun _ => ?_)) <;> (first | (exfalso; omega) | contradiction | skip))) | (show wpO _ _ _ (⟨_, .indexAddr _ _ _, _, _, _, _⟩ :: _) _ _ _; first | refine s_rdp ?_ | refine s_idx (fun _ _ _ _ _ _ _ => ?_)) | refine s_rdp ?_ | refine s_rdm ?_ | refine s_exq ?_ | refine s_exm ?_) | (show Ex _ _ _ _ _; first | (show Ex _ ⟨_, .call ⟨.value (.func _), _, _⟩, _, _, _, _⟩ _ _ _; refine e_call ?_; first | (apply p_pcs; apply rchosen _ hr hx hc; (try case hS => assumption); (case hpcs => (repeat (first | exact Pcs.blk (by infer_instance) | exact Pcs.nil | (apply Pcs.cons; infer_instance) | apply Pcs.app))))) | (show Ex _ ⟨_, .buildSlice _ _ _, _, _, _, _⟩ _ _ _; first | (refine e_buildSlice ?_; intro _) | (refine e_buildNil ?_; intro _ _ _)) | (show Ex _ ⟨_, .call ⟨.builtin .append, _, _⟩, _, _, _, _⟩ _ _ _; (first | refine e_append ?_ | refine e_appendIn ?_); intro _ _ _)) | (show wpC _ _ _ _ _ _; first | refine wpC_seq ?_ | refine wpC_region ?_ | refine c_true ?_ | refine c_false ?_ | (refine c_b (fun _ => ?_) (fun _ => ?_) <;> (first | (exfalso; omega) | contradiction | skip)) | refine wpC_block ?_ | refine wpC_ret ?_ | refine wpC_skip ?_ | refine wpC_exit ?_ | refine wpC_label ?_ | (apply wpC_drawX (id := 6) ([]) [0, 1, 2, 3, 4, 5, 6, 7, 8, 9, 10, 11, 12, 13, 14, 15, 16, 17, 18, 19, 20, 21, 22, 23, 24, 25] rfl (by kernel_rfl); (case hpk => (repeat (first | exact Pcs.blk (by infer_instance) | exact Pcs.nil | (apply Pcs.cons; infer_instance) | apply Pcs.app))))) | (show Then _ _ _ _ _ _ _; first | refine then_normal ?_ | refine then_ret ?_ | refine then_exit ?_) | (show InBlock _ _ _ _ _ _; first | refine inBlock_normal ?_ | refine inBlock_ret ?_ | refine inBlock_same ?_ | refine b_other ?_) | (show LoopPost _ _ _ _ _ _; first | refine loop_ret ?_ | refine loop_exit ?_) | (show wpD _ _ _ _ _ _ _ _; first | refine wpD_nil ?_ | refine d_rdp ?_ | refine d_rdm ?_ | refine d_tt ?_ | refine d_ff ?_ | ((first | refine d_cmp (fun _ => ?_) (fun _ => ?_) | refine d_cb (fun _ => ?_) (fun _ => ?_)) <;> (first | (exfalso; omega) | contradiction | skip)) | refine d_idx (fun _ _ _ _ _ _ _ => ?_) | refine d_exs ?_ | refine d_exn ?_) | (show (_ ∨ Subs _ _) ∧ _; first | refine d_sub ?_ | refine d_cov ?_) | (show RetP _ _ _ _ _ _ _ _; first | refine r_1 ?_) | assumption | intro _)
      all_goals first
        | (exfalso; omega)
        | exact lp_end ⟨i + 1, v, Bs, ls⟩ (by simp only; omega) ⟨by simp only; omega, by simp only; rw [htk, if_pos hc, List.append_nil]; exact hls, hok, hv⟩
        | trace_state
    | false =>
      repeat' (first | (show wpO _ _ _ _ _ _ _; first | refine wpO_nil ?_ | (show wpO _ _ _ (⟨_, .binOp _ _ _ _ _, _, _, _, _⟩ :: _) _ _ _; first | refine s_tt ?_ | refine s_ff ?_ | refine s_rdp ?_ | ((first | refine s_cmp (fun _ => ?_) (fun _ => ?_) | refine s_cb (fun _ => ?_) (fun _ => ?_)) <;> (first | (exfalso; omega) | contradiction | skip))) | (show wpO _ _ _ (⟨_, .indexAddr _ _ _, _, _, _, _⟩ :: _) _ _ _; first | refine s_rdp ?_ | refine s_idx (fun _ _ _ _ _ _ _ => ?_)) | refine s_rdp ?_ | refine s_rdm ?_ | refine s_exq ?_ | refine s_exm ?_) | (show Ex _ _ _ _ _; first | (show Ex _ ⟨_, .call ⟨.value (.func _), _, _⟩, _, _, _, _⟩ _ _ _; refine e_call ?_; first | (apply p_pcs; (first | apply rchosen _ hr hx hc | apply rclone_spec _ (x := x.en) hei hes); (try case hS => assumption); (case hpcs => (repeat (first | exact Pcs.blk (by infer_instance) | exact Pcs.nil | (apply Pcs.cons; infer_instance) | apply Pcs.app))))) | (show Ex _ ⟨_, .buildSlice _ _ _, _, _, _, _⟩ _ _ _; first | (refine e_buildSlice ?_; intro _) | (refine e_buildNil ?_; intro _ _ _)) | (show Ex _ ⟨_, .call ⟨.builtin .append, _, _⟩, _, _, _, _⟩ _ _ _; (first | refine e_append ?_ | refine e_appendIn ?_); intro _ _ _)) | (show wpC _ _ _ _ _ _; first | refine wpC_seq ?_ | refine wpC_region ?_ | refine c_true ?_ | refine c_false ?_ | (refine c_b (fun _ => ?_) (fun _ => ?_) <;> (first | (exfalso; omega) | contradiction | skip)) | refine wpC_block ?_ | refine wpC_ret ?_ | refine wpC_skip ?_ | refine wpC_exit ?_ | refine wpC_label ?_ | (apply wpC_drawX (id := 6) (Bs) [0, 1, 2, 3, 4, 5, 6, 7, 8, 9, 10, 11, 12, 13, 14, 15, 16, 17, 18, 19, 20, 21, 22, 23, 24, 25] rfl (by kernel_rfl); (case hpk => (repeat (first | exact Pcs.blk (by infer_instance) | exact Pcs.nil | (apply Pcs.cons; infer_instance) | apply Pcs.app))))) | (show Then _ _ _ _ _ _ _; first | refine then_normal ?_ | refine then_ret ?_ | refine then_exit ?_) | (show InBlock _ _ _ _ _ _; first | refine inBlock_normal ?_ | refine inBlock_ret ?_ | refine inBlock_same ?_ | refine b_other ?_) | (show LoopPost _ _ _ _ _ _; first | refine loop_ret ?_ | refine loop_exit ?_) | (show wpD _ _ _ _ _ _ _ _; first | refine wpD_nil ?_ | refine d_rdp ?_ | refine d_rdm ?_ | refine d_tt ?_ | refine d_ff ?_ | ((first | refine d_cmp (fun _ => ?_) (fun _ => ?_) | refine d_cb (fun _ => ?_) (fun _ => ?_)) <;> (first | (exfalso; omega) | contradiction | skip)) | refine d_idx (fun _ _ _ _ _ _ _ => ?_) | refine d_exs ?_ | refine d_exn ?_) | (show (_ ∨ Subs _ _) ∧ _; first | refine d_sub ?_ | refine d_cov ?_) | (show RetP _ _ _ _ _ _ _ _; first | refine r_1 ?_) | assumption | intro _)
      all_goals first | (exfalso; omega) | skip
      rename_i y hyc Bo Bd hO bx v' Bs' hv'
      refine lp_end ⟨i + 1, v', Bs', ls ++ [⟨x.slot, a.b, y, Bo, Bd⟩]⟩ (by simp only; omega) ⟨by simp only; omega, ?_, ?_, hv'.cast (by simp) (by simp)⟩ (h6 := by simp only [acH_app, acH_cons, show acH [] = [] from rfl, List.append_nil]; exact q_drp)
      · show List.map SlR.c _ = _
        rw [htk, List.map_append, hls, if_neg (by rw [hc]; decide)]
        congr 1
        show [(⟨x.slot, a.b, y.c⟩ : Sl)] = [⟨x.slot, a.b, x.en.c⟩]
        rw [hyc]
      · intro z hz
        rcases List.mem_append.1 hz with hz | hz
        · exact hok z hz
        · obtain rfl := List.mem_singleton.1 hz
          exact hO
set_option maxHeartbeats 4000000 in
set_option maxRecDepth 100000 in
theorem sameList_spec (e : World) {xs ys : List SlR} {v u : Value} {P F : Hp} {K : Value → Hp → Prop} (hv : InSl P 59 (xs.map SlR.cells) v) (hu : InSl P 59 (ys.map SlR.cells) u) (hc : xs.map SlR.c = ys.map SlR.c) (hx : ∀ s ∈ xs, EnIn P s.en ∧ EnSz s.en.c) (hy : ∀ s ∈ ys, EnIn P s.en) (hl : xs.length ≤ 9223372036854775806) (hK : K (.bool true) (P ++ F)) :
    callsK Tryz.prog e 16 #[v, u] (P ++ F) K := by
  have hxl : (xs.map SlR.cells).length = xs.length := List.length_map _
  have hyl : (ys.map SlR.cells).length = ys.length := List.length_map _
  have hxy : ys.length = xs.length := by have := congrArg List.length hc; rw [List.length_map, List.length_map] at this; exact this.symm
  refine calls_body (N := 27) (args := [v, u]) Tryz.func16 rfl rfl rfl (by simp) ?_
  repeat' ((fail_if_success (show wpC _ (.loop _) _ _ _ _)); first | (show wpO _ _ _ _ _ _ _; first | refine wpO_nil ?_ | (show wpO _ _ _ (⟨_, .binOp _ _ _ _ _, _, _, _, _⟩ :: _) _ _ _; first | refine s_tt ?_ | refine s_ff ?_ | refine s_rdp ?_ | ((first | refine s_cmp (fun _ => ?_) (fun _ => ?_) | refine s_cb (fun _ => ?_) (fun _ => ?_)) <;> (first | (exfalso; omega) | contradiction | skip))) | (show wpO _ _ _ (⟨_, .indexAddr _ _ _, _, _, _, _⟩ :: _) _ _ _; first | refine s_rdp ?_ | refine s_idx (fun _ _ _ _ _ _ _ => ?_)) | refine s_rdp ?_ | refine s_rdm ?_ | refine s_exq ?_ | refine s_exm ?_) | (show wpC _ _ _ _ _ _; first | refine wpC_seq ?_ | refine wpC_region ?_ | refine c_true ?_ | refine c_false ?_ | (refine c_b (fun _ => ?_) (fun _ => ?_) <;> (first | (exfalso; omega) | contradiction | skip)) | refine wpC_block ?_ | refine wpC_ret ?_ | refine wpC_skip ?_ | refine wpC_exit ?_ | refine wpC_label ?_ | (apply wpC_drawX (id := 6) ([]) [0, 1, 2, 3, 4, 5, 6, 7, 8, 9] rfl (by kernel_rfl); (case hpk => (repeat (first | exact Pcs.blk (by infer_instance) | exact Pcs.nil | (apply Pcs.cons; infer_instance) | apply Pcs.app))))) | (show Then _ _ _ _ _ _ _; first | refine then_normal ?_ | refine then_ret ?_ | refine then_exit ?_) | (show InBlock _ _ _ _ _ _; first | refine inBlock_normal ?_ | refine inBlock_ret ?_ | refine inBlock_same ?_ | refine b_other ?_) | (show LoopPost _ _ _ _ _ _; first | refine loop_ret ?_ | refine loop_exit ?_) | (show wpD _ _ _ _ _ _ _ _; first | refine wpD_nil ?_ | refine d_rdp ?_ | refine d_rdm ?_ | refine d_tt ?_ | refine d_ff ?_ | ((first | refine d_cmp (fun _ => ?_) (fun _ => ?_) | refine d_cb (fun _ => ?_) (fun _ => ?_)) <;> (first | (exfalso; omega) | contradiction | skip)) | refine d_idx (fun _ _ _ _ _ _ _ => ?_) | refine d_exs ?_ | refine d_exn ?_) | (show (_ ∨ Subs _ _) ∧ _; first | refine d_sub ?_ | refine d_cov ?_) | (show RetP _ _ _ _ _ _ _ _; first | refine r_1 ?_))
  all_goals first | (exfalso; omega) | skip
  refine wpC_loopA (κ := Nat) [4, 5, 11, 12, 13, 14, 15, 16, 17, 18, 19, 20, 21, 22, 23, 24, 25, 26] (fun i => [(5, .int .i64 (i : Int))]) (fun _ => P ++ F) (fun i => i ≤ xs.length) (fun i => xs.length - i) 0 (Nat.zero_le _) ⟨rfl, trivial⟩ q_drp ?_
  rintro i ρx hi
  cases hr : xs[i]? with
  | none =>
    have hge : xs.length ≤ i := List.getElem?_eq_none_iff.1 hr
    repeat' (first | (show wpO _ _ _ _ _ _ _; first | refine wpO_nil ?_ | (show wpO _ _ _ (⟨_, .binOp _ _ _ _ _, _, _, _, _⟩ :: _) _ _ _; first | refine s_tt ?_ | refine s_ff ?_ | refine s_rdp ?_ | ((first | refine s_cmp (fun _ => ?_) (fun _ => ?_) | refine s_cb (fun _ => ?_) (fun _ => ?_)) <;> (first | (exfalso; omega) | contradiction | skip))) | (show wpO _ _ _ (⟨_, .indexAddr _ _ _, _, _, _, _⟩ :: _) _ _ _; first | refine s_rdp ?_ | refine s_idx (fun _ _ _ _ _ _ _ => ?_)) | refine s_rdp ?_ | refine s_rdm ?_ | refine s_exq ?_ | refine s_exm ?_) | (show wpC _ _ _ _ _ _; first | refine wpC_seq ?_ | refine wpC_region ?_ | refine c_true ?_ | refine c_false ?_ | (refine c_b (fun _ => ?_) (fun _ => ?_) <;> (first | (exfalso; omega) | contradiction | skip)) | refine wpC_block ?_ | refine wpC_ret ?_ | refine wpC_skip ?_ | refine wpC_exit ?_ | refine wpC_label ?_ | (apply wpC_drawX (id := 6) ([]) [0, 1, 2, 3, 4, 5, 6, 7, 8, 9] rfl (by kernel_rfl); (case hpk => (repeat (first | exact Pcs.blk (by infer_instance) | exact Pcs.nil | (apply Pcs.cons; infer_instance) | apply Pcs.app))))) | (show Then _ _ _ _ _ _ _; first | refine then_normal ?_ | refine then_ret ?_ | refine then_exit ?_) | (show InBlock _ _ _ _ _ _; first | refine inBlock_normal ?_ | refine inBlock_ret ?_ | refine inBlock_same ?_ | refine b_other ?_) | (show LoopPost _ _ _ _ _ _; first | refine loop_ret ?_ | refine loop_exit ?_) | (show wpD _ _ _ _ _ _ _ _; first | refine wpD_nil ?_ | refine d_rdp ?_ | refine d_rdm ?_ | refine d_tt ?_ | refine d_ff ?_ | ((first | refine d_cmp (fun _ => ?_) (fun _ => ?_) | refine d_cb (fun _ => ?_) (fun _ => ?_)) <;> (first | (exfalso; omega) | contradiction | skip)) | refine d_idx (fun _ _ _ _ _ _ _ => ?_) | refine d_exs ?_ | refine d_exn ?_) | (show (_ ∨ Subs _ _) ∧ _; first | refine d_sub ?_ | refine d_cov ?_) | (show RetP _ _ _ _ _ _ _ _; first | refine r_1 ?_))
    all_goals first | (exfalso; omega) | exact q_drop hK | trace_state
  | some x =>
    have hlt := (List.getElem?_eq_some_iff.1 hr).1
    obtain ⟨y, hy2⟩ : ∃ y, ys[i]? = some y := ⟨ys[i]'(by omega), by rw [List.getElem?_eq_getElem]⟩
    obtain ⟨hxi, hxz⟩ := hx x (List.mem_of_getElem? hr)
    have hyi := hy y (List.mem_of_getElem? hy2)
    have hcc : y.c = x.c := by
      have h1 : (xs.map SlR.c)[i]? = some x.c := by rw [List.getElem?_map, hr]; rfl
      rw [hc, List.getElem?_map, hy2] at h1
      exact Option.some.inj h1
    repeat' (first | (show wpO _ _ _ _ _ _ _; first | refine wpO_nil ?_ | (show wpO _ _ _ (⟨_, .binOp _ _ _ _ _, _, _, _, _⟩ :: _) _ _ _; first | refine s_tt ?_ | refine s_ff ?_ | refine s_rdp ?_ | ((first | refine s_cmp (fun _ => ?_) (fun _ => ?_) | refine s_cb (fun _ => ?_) (fun _ => ?_)) <;> (first | (exfalso; omega) | contradiction | skip))) | (show wpO _ _ _ (⟨_, .indexAddr _ _ _, _, _, _, _⟩ :: _) _ _ _; first | refine s_rdp ?_ | refine s_idx (fun _ _ _ _ _ _ _ => ?_)) | refine s_rdp ?_ | refine s_rdm ?_ | refine s_exq ?_ | refine s_exm ?_) | (show Ex _ _ _ _ _; first | (show Ex _ ⟨_, .call ⟨.value (.func _), _, _⟩, _, _, _, _⟩ _ _ _; refine e_call ?_; first | (apply p_pcs; apply sameSlotted_spec _ (x := x) (y := y) hxi hyi hcc hxz; (try case hS => assumption); (case hpcs => (repeat (first | exact Pcs.blk (by infer_instance) | exact Pcs.nil | (apply Pcs.cons; infer_instance) | apply Pcs.app)))))) | (show wpC _ _ _ _ _ _; first | refine wpC_seq ?_ | refine wpC_region ?_ | refine c_true ?_ | refine c_false ?_ | (refine c_b (fun _ => ?_) (fun _ => ?_) <;> (first | (exfalso; omega) | contradiction | skip)) | refine wpC_block ?_ | refine wpC_ret ?_ | refine wpC_skip ?_ | refine wpC_exit ?_ | refine wpC_label ?_ | (apply wpC_drawX (id := 6) ([]) [0, 1, 2, 3, 4, 5, 6, 7, 8, 9] rfl (by kernel_rfl); (case hpk => (repeat (first | exact Pcs.blk (by infer_instance) | exact Pcs.nil | (apply Pcs.cons; infer_instance) | apply Pcs.app))))) | (show Then _ _ _ _ _ _ _; first | refine then_normal ?_ | refine then_ret ?_ | refine then_exit ?_) | (show InBlock _ _ _ _ _ _; first | refine inBlock_normal ?_ | refine inBlock_ret ?_ | refine inBlock_same ?_ | refine b_other ?_) | (show LoopPost _ _ _ _ _ _; first | refine loop_ret ?_ | refine loop_exit ?_) | (show wpD _ _ _ _ _ _ _ _; first | refine wpD_nil ?_ | refine d_rdp ?_ | refine d_rdm ?_ | refine d_tt ?_ | refine d_ff ?_ | ((first | refine d_cmp (fun _ => ?_) (fun _ => ?_) | refine d_cb (fun _ => ?_) (fun _ => ?_)) <;> (first | (exfalso; omega) | contradiction | skip)) | refine d_idx (fun _ _ _ _ _ _ _ => ?_) | refine d_exs ?_ | refine d_exn ?_) | (show (_ ∨ Subs _ _) ∧ _; first | refine d_sub ?_ | refine d_cov ?_) | (show RetP _ _ _ _ _ _ _ _; first | refine r_1 ?_) | assumption | intro _)
    all_goals first | (exfalso; omega) | exact lp_end (i + 1) (by omega) hlt | trace_state
end Go.Vl

namespace Go.Vl
open Go.Proofs Classical
set_option maxHeartbeats 4000000 in
set_option maxRecDepth 100000 in
theorem rf_put {r : RfR} {a : Ld} (h : r.ok a) (hr : a.ready = true) (hn : a.next ≤ 1099511627776) {y : EnR} {e : EnC} (hy : y.c = e) (hz : EnSz e) {g2 : Nat} {v : Value} {B Bo Bd M' : Hp} (hO : EnO y Bo Bd) (hM' : ∀ z ∈ Bo ++ Bd, z ∈ M') (hM2 : ∀ z ∈ r.M, z ∈ M')
    (hv : SlO 97 58 v (r.ls ++ [RsR.mk a.next y noV a.n g2]).length ((r.ls ++ [RsR.mk a.next y noV a.n g2]).map RsR.cells).flatten B) :
    RfR.ok ⟨r.g, r.cv, r.lc, r.Cb, v, r.ls ++ [⟨a.next, y, noV, a.n, g2⟩], B, M'⟩ { a with L := a.L ++ [⟨a.next, e, noV⟩], next := a.next + 1 } := by
  refine ⟨h.cs, hv, h.came, ?_, fun x hx => ?_, h.vp, fun x hx => ?_, fun s hs => ⟨(h.ci s hs).1.more hM2, (h.ci s hs).2⟩, fun x hx => ?_, ok_put h.a hr hn e⟩
  · show (r.ls ++ [_]).map RsR.c = a.L ++ [_]
    rw [List.map_append, h.L, ← hy]; rfl
  · rcases List.mem_append.1 hx with hx | hx
    · exact h.n x hx
    · rw [List.mem_singleton.1 hx]
  · rcases List.mem_append.1 hx with hx | hx
    · exact h.vl x hx
    · rw [List.mem_singleton.1 hx]; exact vn_no _
  · rcases List.mem_append.1 hx with hx | hx
    · exact ⟨(h.li x hx).1.more hM2, (h.li x hx).2⟩
    · rw [List.mem_singleton.1 hx]
      exact ⟨(EnO.inn hO).more hM', by rw [show y.c = e from hy]; exact hz⟩
set_option maxHeartbeats 4000000 in
set_option maxRecDepth 100000 in
theorem bld114 (y : EnR) (g n : Nat) (nx : Int) : bld Tryz.prog 97 [(0, .int .i64 nx), (1, .agg y.cells.toArray), (2, .slice (some ⟨g, 0, none⟩) n n)] = some (RsR.mk nx y noV n g).cells := by kernel_rfl
attribute [local irreducible] eqW eqV wpC wpO wpD Ex Rd callsK RetP Drop valK
set_option maxHeartbeats 4000000 in
set_option maxRecDepth 100000 in
theorem rput (e : World) {a : Ld} {d : Nat} {r : RfR} {x : EnR} {P F : Hp} {K : Value → Hp → Prop} (hr : r.ok a) (hx : EnIn P x) (hz : EnSz x.c) (hlen : a.L.length * 536 + 536 ≤ 140737488355328)
    (hK : ∀ (y : SlR) (r' : RfR), y.c = (a.put x.c).1.1 → y.ok → r'.ok (a.put x.c).2 → K (.tuple #[slV y, .int .i64 (a.put x.c).1.2]) ((r'.hp (a.put x.c).2 d ++ y.hp) ++ (P ++ F))) :
    callsK Tryz.prog e 23 #[pv d, .agg x.cells.toArray] (r.hp a d ++ (P ++ F)) K := by
  have hln := hz.len
  have n1 := hr.a.n1
  have n5 := hr.a.n5
  have hll : r.ls.length = a.L.length := by rw [← hr.L, List.length_map]
  have hss := hr.ss
  obtain ⟨b, fr, n, p, ready, came, L, next⟩ := a
  obtain ⟨g, cv, lc, Cb, sv, ls, Sb, M⟩ := r
  simp only at hll hss n1 n5 hlen
  show callsK _ _ _ _ ((([(d, cellsO (rfC b fr n g cv ready next sv) 69)] ++ vbH p n g) ++ ((Cb ++ Sb) ++ (rsH ls ++ M))) ++ (P ++ F)) K
  by_cases hm : mayE x.c
  · cases ready with
    | false =>
      have h := hK zeroSlr ⟨g, cv, lc, Cb, sv, ls, Sb, M⟩
      unfold Ld.put at h
      rw [if_neg (by simpa using hm), if_pos rfl] at h
      have h : K (.tuple #[slV zeroSlr, .int .i64 80]) (((([(d, cellsO (rfC b fr n g cv false next sv) 69)] ++ vbH p n g) ++ ((Cb ++ Sb) ++ (rsH ls ++ M))) ++ ([] ++ [])) ++ (P ++ F)) := h rfl zeroSlr_ok hr
      generalize rsH ls = X at *
      refine calls_body (N := 65) (args := [pv d, .agg x.cells.toArray]) Tryz.func23 rfl rfl rfl (by simp) ?_
      repeat' (first | refine r_C1 ?_ | (show wpO _ _ _ _ _ _ _; first | refine wpO_nil ?_ | (show wpO _ _ _ (⟨_, .binOp _ _ _ _ _, _, _, _, _⟩ :: _) _ _ _; first | refine s_tt ?_ | refine s_ff ?_ | refine s_rdp ?_ | ((first | refine s_cmp (fun _ => ?_) (fun _ => ?_) | refine s_cb (fun _ => ?_) (fun _ => ?_)) <;> (first | (exfalso; omega) | contradiction | skip))) | refine s_rdp ?_ | refine s_rdm ?_ | refine s_exq ?_ | refine s_exm ?_) | (show Ex _ _ _ _ _; first | (show Ex _ ⟨_, .call ⟨.value (.func _), _, _⟩, _, _, _, _⟩ _ _ _; refine e_call ?_; first | (apply p_pcs; apply rmayEntry _ hx hln; (try case hS => assumption); (case hpcs => (repeat (first | exact Pcs.blk (by infer_instance) | exact Pcs.nil | (apply Pcs.cons; infer_instance) | apply Pcs.app))))) | (show Ex _ ⟨_, .alloc _, _, _, _, _⟩ _ _ _; first | (refine e_allocA ?_; intro _) | (refine e_alloc1 ?_; intro _)) | (show Ex _ ⟨_, .box _ _, _, _, _, _⟩ _ _ _; first | (refine e_boxA ?_; intro _) | (refine e_box1 ?_; intro _)) | (show Ex _ ⟨_, .store _ _ _, _, _, _, _⟩ _ _ _; first | refine e_store1 ?_ | refine e_storeA ?_ | (refine e_storeO ?_; intro _ _)) | (show Ex _ ⟨_, .buildSlice _ _ _, _, _, _, _⟩ _ _ _; first | (refine e_buildSlice ?_; intro _) | (refine e_buildNil ?_; intro _ _ _)) | (show Ex _ ⟨_, .call ⟨.builtin .append, _, _⟩, _, _, _, _⟩ _ _ _; (first | refine e_append ?_ | refine e_appendIn ?_); intro _ _ _)) | (show wpC _ _ _ _ _ _; first | refine wpC_seq ?_ | refine wpC_region ?_ | refine c_true ?_ | refine c_false ?_ | (refine c_b (fun _ => ?_) (fun _ => ?_) <;> (first | (exfalso; omega) | contradiction | skip)) | refine wpC_block ?_ | refine wpC_ret ?_ | refine wpC_skip ?_ | refine wpC_label ?_ | (apply wpC_drawX (id := 9) ([]) [0, 1, 2, 3, 4, 5, 6, 7, 8, 9, 10, 11, 12, 13] rfl (by kernel_rfl); (case hpk => (repeat (first | exact Pcs.blk (by infer_instance) | exact Pcs.nil | (apply Pcs.cons; infer_instance) | apply Pcs.app))))) | (show Then _ _ _ _ _ _ _; first | refine then_normal ?_ | refine then_ret ?_) | (show InBlock _ _ _ _ _ _; first | refine inBlock_normal ?_ | refine inBlock_ret ?_ | refine inBlock_same ?_ | refine b_other ?_) | (show wpD _ _ _ _ _ _ _ _; first | refine wpD_nil ?_ | refine d_rdp ?_ | refine d_rdm ?_ | refine d_tt ?_ | refine d_ff ?_ | ((first | refine d_cmp (fun _ => ?_) (fun _ => ?_) | refine d_cb (fun _ => ?_) (fun _ => ?_)) <;> (first | (exfalso; omega) | contradiction | skip)) | refine d_exs ?_ | refine d_exn ?_) | (show (_ ∨ Subs _ _) ∧ _; first | refine d_sub ?_ | refine d_cov ?_) | (show RetP _ _ _ _ _ _ _ _; first | refine r_C1 ?_ | refine r_DC ?_) | assumption | intro _)
      all_goals first | (exfalso; contradiction) | exact q_drop h | trace_state
    | true =>
      by_cases hn : next ≤ 1099511627776
      · have hok := fun {y g2 v B Bo Bd M'} => rf_put (a := ⟨b, fr, n, p, true, came, L, next⟩) hr rfl hn (y := y) (e := x.c) (g2 := g2) (v := v) (B := B) (Bo := Bo) (Bd := Bd) (M' := M')
        have h := fun y r' => hK y r'
        unfold Ld.put at h
        rw [if_neg (by simpa using hm), if_neg (by simp), if_neg (by simp only; omega)] at h
        simp only at hok h
        have fin : ∀ (y1 y2 : EnR) (Bo1 Bd1 Bo2 Bd2 : Hp) (g2 : Nat) (v' : Value) (B' : Hp), y1.c = x.c → EnO y1 Bo1 Bd1 → y2.c = x.c → EnO y2 Bo2 Bd2 → SlO 97 58 v' (ls ++ [RsR.mk next y2 noV n g2]).length ((ls ++ [RsR.mk next y2 noV n g2]).map RsR.cells).flatten B' →
            K (.tuple #[slV ⟨next + 1 - 1, b, y1, Bo1, Bd1⟩, .int .i64 0]) (((([(d, cellsO (rfC b fr n g cv true (next + 1) v') 69)] ++ vbH p n g) ++ ((Cb ++ B') ++ ((rsH ls ++ [(g2, cellsO (List.replicate n [Value.bool false]).flatten 4)]) ++ ((Bo2 ++ Bd2) ++ M)))) ++ (Bo1 ++ Bd1)) ++ (P ++ F)) := by
          intro y1 y2 Bo1 Bd1 Bo2 Bd2 g2 v' B' hy1 hO1 hy2 hO2 hv
          have h9 := h ⟨next, b, y1, Bo1, Bd1⟩ ⟨g, cv, lc, Cb, v', ls ++ [⟨next, y2, noV, n, g2⟩], B', (Bo2 ++ Bd2) ++ M⟩ (by show Sl.mk _ _ _ = _; rw [hy1]) hO1 (hok hy2 hz hO2 (fun z hz => List.mem_append_left _ hz) (fun z hz => List.mem_append_right _ hz) hv)
          have hrs : rsH (ls ++ [RsR.mk next y2 noV n g2]) = rsH ls ++ [(g2, cellsO (List.replicate n [Value.bool false]).flatten 4)] := by rw [rsH_app, rep_vts]; rfl
          rw [show (RfR.mk g cv lc Cb v' (ls ++ [⟨next, y2, noV, n, g2⟩]) B' ((Bo2 ++ Bd2) ++ M)).hp ⟨b, fr, n, p, true, came, L ++ [⟨next, x.c, noV⟩], next + 1⟩ d = ([(d, cellsO (rfC b fr n g cv true (next + 1) v') 69)] ++ vbH p n g) ++ ((Cb ++ B') ++ (rsH (ls ++ [⟨next, y2, noV, n, g2⟩]) ++ ((Bo2 ++ Bd2) ++ M))) from rfl, hrs] at h9
          rw [show next + 1 - 1 = next by omega]
          exact h9
        have hx0 : fr ≤ next := hr.a.x0
        have hf0 : 0 ≤ fr := hr.a.f0
        clear h hok hr hK
        generalize rsH ls = X at *
        refine calls_body (N := 65) (args := [pv d, .agg x.cells.toArray]) Tryz.func23 rfl rfl rfl (by simp) ?_
        repeat' (first | (refine fork_mk ?_ ?_) | (show wpD _ _ _ _ (16 :: _) _ _ _; refine d_rdp ?_ (hr := by (apply rd_buildE; (repeat (first | exact EvP.nil | (apply EvP.cons; (conv => lhs; whnf)))); exact bld114 _ _ _ _; exact rfl; done))) | refine r_C1 ?_ | (show wpO _ _ _ _ _ _ _; first | refine wpO_nil ?_ | (show wpO _ _ _ (⟨_, .binOp _ _ _ _ _, _, _, _, _⟩ :: _) _ _ _; first | refine s_tt ?_ | refine s_ff ?_ | refine s_rdp ?_ | ((first | refine s_cmp (fun _ => ?_) (fun _ => ?_) | refine s_cb (fun _ => ?_) (fun _ => ?_)) <;> (first | (exfalso; omega) | contradiction | skip))) | refine s_rdp ?_ | refine s_rdm ?_ | refine s_exq ?_ | refine s_exm ?_) | (show Ex _ _ _ _ _; first | (refine e_mk99 (n := n) (fun _ => ?_) (by exact rfl) n5) | (refine e_append (bytes := 536) ?_ (hbytes := by omega); intro _ _ _) | (show Ex _ ⟨_, .call ⟨.value (.func _), _, _⟩, _, _, _, _⟩ _ _ _; refine e_call ?_; first | (apply p_pcs; (first | apply rmayEntry _ hx hln | apply rclone_spec _ hx hz); (try case hS => assumption); (case hpcs => (repeat (first | exact Pcs.blk (by infer_instance) | exact Pcs.nil | (apply Pcs.cons; infer_instance) | apply Pcs.app))))) | (show Ex _ ⟨_, .alloc _, _, _, _, _⟩ _ _ _; first | (refine e_allocA ?_; intro _) | (refine e_alloc1 ?_; intro _)) | (show Ex _ ⟨_, .box _ _, _, _, _, _⟩ _ _ _; first | (refine e_boxA ?_; intro _) | (refine e_box1 ?_; intro _)) | (show Ex _ ⟨_, .store _ _ _, _, _, _, _⟩ _ _ _; first | refine e_store1 ?_ | refine e_storeA ?_ | (refine e_storeO ?_; intro _ _)) | (show Ex _ ⟨_, .buildSlice _ _ _, _, _, _, _⟩ _ _ _; first | (refine e_buildSlice ?_; intro _) | (refine e_buildNil ?_; intro _ _ _)) | (show Ex _ ⟨_, .call ⟨.builtin .append, _, _⟩, _, _, _, _⟩ _ _ _; (first | refine e_append ?_ | refine e_appendIn ?_); intro _ _ _)) | (show wpC _ _ _ _ _ _; first | refine wpC_seq ?_ | refine wpC_region ?_ | refine c_true ?_ | refine c_false ?_ | (refine c_b (fun _ => ?_) (fun _ => ?_) <;> (first | (exfalso; omega) | contradiction | skip)) | refine wpC_block ?_ | refine wpC_ret ?_ | refine wpC_skip ?_ | refine wpC_label ?_ | (apply wpC_drawF (id := 7) [69, 51] [0, 1, 2, 3, 4, 5, 6, 7, 8, 9, 11, 12, 13, 14] 10 15 [15, 16, 17, 18, 19, 20, 21] [10, 16, 17, 18, 19, 20, 21] rfl (by kernel_rfl); infer_instance) | (apply wpC_drawK (id := 9) [69, 51] [0, 1, 2, 3, 4, 5, 6, 7, 8, 9, 10, 11, 12, 13] rfl (by kernel_rfl); infer_instance)) | (show Then _ _ _ _ _ _ _; first | refine then_normal ?_ | refine then_ret ?_) | (show InBlock _ _ _ _ _ _; first | refine inBlock_normal ?_ | refine inBlock_ret ?_ | refine inBlock_same ?_ | refine b_other ?_) | (show wpD _ _ _ _ _ _ _ _; first | refine wpD_nil ?_ | refine d_rdp ?_ | refine d_rdm ?_ | refine d_tt ?_ | refine d_ff ?_ | ((first | refine d_cmp (fun _ => ?_) (fun _ => ?_) | refine d_cb (fun _ => ?_) (fun _ => ?_)) <;> (first | (exfalso; omega) | contradiction | skip)) | refine d_exs ?_ | refine d_exn ?_) | (show (_ ∨ Subs _ _) ∧ _; first | refine d_sub ?_ | refine d_cov ?_) | (show RetP _ _ _ _ _ _ _ _; first | refine r_C1 ?_ | refine r_DC ?_) | assumption | intro _)
        all_goals first | (exfalso; contradiction) | (exfalso; omega) | skip
        · rename_i y2 hy2 Bo2 Bd2 hO2 g2 bx v' B' hv' y1 hy1 Bo1 Bd1 hO1
          have hv' : SlO 97 58 v' (ls ++ [RsR.mk next y2 noV n g2]).length ((ls ++ [RsR.mk next y2 noV n g2]).map RsR.cells).flatten B' := hv'.cast (by simp) (by simp)
          exact q_drop (fin y1 y2 Bo1 Bd1 Bo2 Bd2 g2 v' B' hy1 hO1 hy2 hO2 hv')
        · rename_i g2 y2 hy2 Bo2 Bd2 hO2 bx v' B' hv' y1 hy1 Bo1 Bd1 hO1
          have hv' : SlO 97 58 v' (ls ++ [RsR.mk next y2 noV n g2]).length ((ls ++ [RsR.mk next y2 noV n g2]).map RsR.cells).flatten B' := hv'.cast (by simp) (by simp)
          exact q_drop (fin y1 y2 Bo1 Bd1 Bo2 Bd2 g2 v' B' hy1 hO1 hy2 hO2 hv')
      · have h := hK zeroSlr ⟨g, cv, lc, Cb, sv, ls, Sb, M⟩
        unfold Ld.put at h
        rw [if_neg (by simpa using hm), if_neg (by simp), if_pos (by simp only; omega)] at h
        have h : K (.tuple #[slV zeroSlr, .int .i64 3]) (((([(d, cellsO (rfC b fr n g cv true next sv) 69)] ++ vbH p n g) ++ ((Cb ++ Sb) ++ (rsH ls ++ M))) ++ ([] ++ [])) ++ (P ++ F)) := h rfl zeroSlr_ok hr
        generalize rsH ls = X at *
        refine calls_body (N := 65) (args := [pv d, .agg x.cells.toArray]) Tryz.func23 rfl rfl rfl (by simp) ?_
        repeat' (first | refine r_C1 ?_ | (show wpO _ _ _ _ _ _ _; first | refine wpO_nil ?_ | (show wpO _ _ _ (⟨_, .binOp _ _ _ _ _, _, _, _, _⟩ :: _) _ _ _; first | refine s_tt ?_ | refine s_ff ?_ | refine s_rdp ?_ | ((first | refine s_cmp (fun _ => ?_) (fun _ => ?_) | refine s_cb (fun _ => ?_) (fun _ => ?_)) <;> (first | (exfalso; omega) | contradiction | skip))) | refine s_rdp ?_ | refine s_rdm ?_ | refine s_exq ?_ | refine s_exm ?_) | (show Ex _ _ _ _ _; first | (show Ex _ ⟨_, .call ⟨.value (.func _), _, _⟩, _, _, _, _⟩ _ _ _; refine e_call ?_; first | (apply p_pcs; apply rmayEntry _ hx hln; (try case hS => assumption); (case hpcs => (repeat (first | exact Pcs.blk (by infer_instance) | exact Pcs.nil | (apply Pcs.cons; infer_instance) | apply Pcs.app))))) | (show Ex _ ⟨_, .alloc _, _, _, _, _⟩ _ _ _; first | (refine e_allocA ?_; intro _) | (refine e_alloc1 ?_; intro _)) | (show Ex _ ⟨_, .box _ _, _, _, _, _⟩ _ _ _; first | (refine e_boxA ?_; intro _) | (refine e_box1 ?_; intro _)) | (show Ex _ ⟨_, .store _ _ _, _, _, _, _⟩ _ _ _; first | refine e_store1 ?_ | refine e_storeA ?_ | (refine e_storeO ?_; intro _ _)) | (show Ex _ ⟨_, .buildSlice _ _ _, _, _, _, _⟩ _ _ _; first | (refine e_buildSlice ?_; intro _) | (refine e_buildNil ?_; intro _ _ _)) | (show Ex _ ⟨_, .call ⟨.builtin .append, _, _⟩, _, _, _, _⟩ _ _ _; (first | refine e_append ?_ | refine e_appendIn ?_); intro _ _ _)) | (show wpC _ _ _ _ _ _; first | refine wpC_seq ?_ | refine wpC_region ?_ | refine c_true ?_ | refine c_false ?_ | (refine c_b (fun _ => ?_) (fun _ => ?_) <;> (first | (exfalso; omega) | contradiction | skip)) | refine wpC_block ?_ | refine wpC_ret ?_ | refine wpC_skip ?_ | refine wpC_label ?_ | (apply wpC_drawX (id := 9) ([]) [0, 1, 2, 3, 4, 5, 6, 7, 8, 9, 10, 11, 12, 13] rfl (by kernel_rfl); (case hpk => (repeat (first | exact Pcs.blk (by infer_instance) | exact Pcs.nil | (apply Pcs.cons; infer_instance) | apply Pcs.app))))) | (show Then _ _ _ _ _ _ _; first | refine then_normal ?_ | refine then_ret ?_) | (show InBlock _ _ _ _ _ _; first | refine inBlock_normal ?_ | refine inBlock_ret ?_ | refine inBlock_same ?_ | refine b_other ?_) | (show wpD _ _ _ _ _ _ _ _; first | refine wpD_nil ?_ | refine d_rdp ?_ | refine d_rdm ?_ | refine d_tt ?_ | refine d_ff ?_ | ((first | refine d_cmp (fun _ => ?_) (fun _ => ?_) | refine d_cb (fun _ => ?_) (fun _ => ?_)) <;> (first | (exfalso; omega) | contradiction | skip)) | refine d_exs ?_ | refine d_exn ?_) | (show (_ ∨ Subs _ _) ∧ _; first | refine d_sub ?_ | refine d_cov ?_) | (show RetP _ _ _ _ _ _ _ _; first | refine r_C1 ?_ | refine r_DC ?_) | assumption | intro _)
        all_goals first | (exfalso; contradiction) | (exfalso; omega) | exact q_drop h | trace_state
  · have h := hK zeroSlr ⟨g, cv, lc, Cb, sv, ls, Sb, M⟩
    unfold Ld.put at h
    rw [if_pos hm] at h
    have h : K (.tuple #[slV zeroSlr, .int .i64 40]) (((([(d, cellsO (rfC b fr n g cv ready next sv) 69)] ++ vbH p n g) ++ ((Cb ++ Sb) ++ (rsH ls ++ M))) ++ ([] ++ [])) ++ (P ++ F)) := h rfl zeroSlr_ok hr
    generalize rsH ls = X at *
    refine calls_body (N := 65) (args := [pv d, .agg x.cells.toArray]) Tryz.func23 rfl rfl rfl (by simp) ?_
    repeat' (first | refine r_C1 ?_ | (show wpO _ _ _ _ _ _ _; first | refine wpO_nil ?_ | (show wpO _ _ _ (⟨_, .binOp _ _ _ _ _, _, _, _, _⟩ :: _) _ _ _; first | refine s_tt ?_ | refine s_ff ?_ | refine s_rdp ?_ | ((first | refine s_cmp (fun _ => ?_) (fun _ => ?_) | refine s_cb (fun _ => ?_) (fun _ => ?_)) <;> (first | (exfalso; omega) | contradiction | skip))) | refine s_rdp ?_ | refine s_rdm ?_ | refine s_exq ?_ | refine s_exm ?_) | (show Ex _ _ _ _ _; first | (show Ex _ ⟨_, .call ⟨.value (.func _), _, _⟩, _, _, _, _⟩ _ _ _; refine e_call ?_; first | (apply p_pcs; apply rmayEntry _ hx hln; (try case hS => assumption); (case hpcs => (repeat (first | exact Pcs.blk (by infer_instance) | exact Pcs.nil | (apply Pcs.cons; infer_instance) | apply Pcs.app))))) | (show Ex _ ⟨_, .alloc _, _, _, _, _⟩ _ _ _; first | (refine e_allocA ?_; intro _) | (refine e_alloc1 ?_; intro _)) | (show Ex _ ⟨_, .box _ _, _, _, _, _⟩ _ _ _; first | (refine e_boxA ?_; intro _) | (refine e_box1 ?_; intro _)) | (show Ex _ ⟨_, .store _ _ _, _, _, _, _⟩ _ _ _; first | refine e_store1 ?_ | refine e_storeA ?_ | (refine e_storeO ?_; intro _ _)) | (show Ex _ ⟨_, .buildSlice _ _ _, _, _, _, _⟩ _ _ _; first | (refine e_buildSlice ?_; intro _) | (refine e_buildNil ?_; intro _ _ _)) | (show Ex _ ⟨_, .call ⟨.builtin .append, _, _⟩, _, _, _, _⟩ _ _ _; (first | refine e_append ?_ | refine e_appendIn ?_); intro _ _ _)) | (show wpC _ _ _ _ _ _; first | refine wpC_seq ?_ | refine wpC_region ?_ | refine c_true ?_ | refine c_false ?_ | (refine c_b (fun _ => ?_) (fun _ => ?_) <;> (first | (exfalso; omega) | contradiction | skip)) | refine wpC_block ?_ | refine wpC_ret ?_ | refine wpC_skip ?_ | refine wpC_label ?_ | (apply wpC_drawX (id := 9) ([]) [0, 1, 2, 3, 4, 5, 6, 7, 8, 9, 10, 11, 12, 13] rfl (by kernel_rfl); (case hpk => (repeat (first | exact Pcs.blk (by infer_instance) | exact Pcs.nil | (apply Pcs.cons; infer_instance) | apply Pcs.app))))) | (show Then _ _ _ _ _ _ _; first | refine then_normal ?_ | refine then_ret ?_) | (show InBlock _ _ _ _ _ _; first | refine inBlock_normal ?_ | refine inBlock_ret ?_ | refine inBlock_same ?_ | refine b_other ?_) | (show wpD _ _ _ _ _ _ _ _; first | refine wpD_nil ?_ | refine d_rdp ?_ | refine d_rdm ?_ | refine d_tt ?_ | refine d_ff ?_ | ((first | refine d_cmp (fun _ => ?_) (fun _ => ?_) | refine d_cb (fun _ => ?_) (fun _ => ?_)) <;> (first | (exfalso; omega) | contradiction | skip)) | refine d_exs ?_ | refine d_exn ?_) | (show (_ ∨ Subs _ _) ∧ _; first | refine d_sub ?_ | refine d_cov ?_) | (show RetP _ _ _ _ _ _ _ _; first | refine r_C1 ?_ | refine r_DC ?_) | assumption | intro _)
    all_goals first | (exfalso; contradiction) | exact q_drop h | trace_state
end Go.Vl

namespace Go.Vl
open Go.Proofs Classical
set_option maxHeartbeats 4000000 in
set_option maxRecDepth 100000 in
theorem srt_uniq {L : List Ol} (h : L.Pairwise fun x y => x.slot < y.slot) {x y : Ol} (hx : x ∈ L) (hy : y ∈ L) (hs : x.slot = y.slot) : x = y := by
  obtain ⟨i, hi⟩ := List.mem_iff_getElem?.1 hx
  obtain ⟨j, hj⟩ := List.mem_iff_getElem?.1 hy
  obtain ⟨hi1, hi2⟩ := List.getElem?_eq_some_iff.1 hi
  obtain ⟨hj1, hj2⟩ := List.getElem?_eq_some_iff.1 hj
  have hp := List.pairwise_iff_getElem.1 h
  by_cases h1 : i < j
  · have := hp i j hi1 hj1 h1; rw [hi2, hj2] at this; omega
  · by_cases h2 : j < i
    · have := hp j i hj1 hi1 h2; rw [hi2, hj2] at this; omega
    · obtain rfl : i = j := by omega
      rw [← hi2, ← hj2]
set_option maxHeartbeats 4000000 in
set_option maxRecDepth 100000 in
theorem setO_mem {L : List Ol} {s : Int} {k : Nat} {x : Ol} (h : x ∈ setO L s k) : ∃ y ∈ L, y.slot = x.slot ∧ y.en = x.en ∧ (x.v = y.v ∨ (y.slot = s ∧ x.v = setv y.v k)) := by
  obtain ⟨y, hy, rfl⟩ := List.mem_map.1 h
  refine ⟨y, hy, ?_⟩
  split
  · rename_i hs; exact ⟨rfl, rfl, .inr ⟨hs, rfl⟩⟩
  · exact ⟨rfl, rfl, .inl rfl⟩
set_option maxHeartbeats 4000000 in
set_option maxRecDepth 100000 in
theorem setO_srt {L : List Ol} {s : Int} {k : Nat} (h : L.Pairwise fun x y => x.slot < y.slot) : (setO L s k).Pairwise fun x y => x.slot < y.slot := by
  unfold setO
  rw [List.pairwise_map]
  refine h.imp fun {x y} hxy => ?_
  have e : ∀ z : Ol, (if z.slot = s then { z with v := setv z.v k } else z).slot = z.slot := fun z => by split <;> rfl
  rw [e, e]; exact hxy
set_option maxHeartbeats 4000000 in
set_option maxRecDepth 100000 in
theorem ok_setO {a : Ld} (h : a.ok) (s : Int) (k : Nat) : Ld.ok { a with L := setO a.L s k } := by
  refine ⟨h.n1, h.n5, h.f0, h.f1, h.x0, h.x1, h.key, h.nod, setO_srt h.srt, fun x hx => ?_, fun hr => ?_⟩
  · obtain ⟨y, hy, h1, _⟩ := setO_mem hx
    rw [← h1]; exact h.sl y hy
  · have := h.idle hr
    exact ⟨by show setO a.L s k = []; rw [this.1]; rfl, this.2⟩
set_option maxHeartbeats 4000000 in
set_option maxRecDepth 100000 in
theorem findO_some {L : List Ol} {s : Int} {x : Ol} (h : findO L s = some x) : x ∈ L ∧ x.slot = s :=
  ⟨List.mem_of_find?_eq_some h, of_decide_eq_true (by have := List.find?_some h; simpa using this)⟩
set_option maxHeartbeats 4000000 in
set_option maxRecDepth 100000 in
theorem findO_none {L : List Ol} {s : Int} (h : findO L s = none) : ∀ x ∈ L, x.slot ≠ s := fun x hx he => by
  have := List.find?_eq_none.1 h x hx
  simp [he] at this
structure LoSplit (lo : List Opn) (s : Int) (l1 : List Opn) (x : Opn) (l2 : List Opn) : Prop where
  eq : lo = l1 ++ x :: l2
  hs : x.slot = s
  h1 : ∀ y ∈ l1, y.slot ≠ s
  h2 : ∀ y ∈ l2, y.slot ≠ s
set_option maxHeartbeats 4000000 in
set_option maxRecDepth 100000 in
theorem lo_split {r : LdR} {a : Ld} (hr : r.ok a) {s : Int} {o : Nat} (hg : aget (r.lo.map fun x => (x.slot, x.o)) s = some o) : ∃ l1 x l2, LoSplit r.lo s l1 x l2 ∧ x.o = o := by
  obtain ⟨x, hx, he⟩ := List.mem_map.1 (aget_some_mem hg)
  have hs : x.slot = s := congrArg Prod.fst he
  have ho : x.o = o := congrArg Prod.snd he
  obtain ⟨l1, l2, e⟩ := List.append_of_mem hx
  have hk := lo_keys hr
  rw [e, List.map_append, List.map_cons] at hk
  have hp := List.pairwise_append.1 hk
  refine ⟨l1, x, l2, ⟨e, hs, fun y hy => ?_, fun y hy => ?_⟩, ho⟩
  · have := hp.2.2 y.slot (List.mem_map.2 ⟨y, hy, rfl⟩) x.slot (by simp)
    omega
  · have := (List.pairwise_cons.1 hp.2.1).1 y.slot (List.mem_map.2 ⟨y, hy, rfl⟩)
    omega
set_option maxHeartbeats 4000000 in
set_option maxRecDepth 100000 in
theorem LoSplit.find {r : LdR} {a : Ld} (hr : r.ok a) {s : Int} {l1 l2 : List Opn} {x : Opn} (h : LoSplit r.lo s l1 x l2) : findO a.L s = some x.c := by
  have hm : x.c ∈ a.L := by rw [← hr.L, h.eq]; simp
  cases hf : findO a.L s with
  | none => exact absurd h.hs (findO_none hf x.c hm)
  | some y =>
    obtain ⟨g1, g2⟩ := findO_some hf
    rw [srt_uniq hr.a.srt g1 hm (by rw [g2]; exact h.hs.symm)]
set_option maxHeartbeats 4000000 in
set_option maxRecDepth 100000 in
theorem lo_nofind {r : LdR} {a : Ld} (hr : r.ok a) {s : Int} (hg : aget (r.lo.map fun x => (x.slot, x.o)) s = none) : findO a.L s = none := by
  cases hf : findO a.L s with
  | none => rfl
  | some y =>
    obtain ⟨g1, g2⟩ := findO_some hf
    rw [← hr.L] at g1
    obtain ⟨x, hx, rfl⟩ := List.mem_map.1 g1
    rw [aget_none] at hg
    exact absurd g2 (hg (x.slot, x.o) (List.mem_map.2 ⟨x, hx, rfl⟩))
set_option maxHeartbeats 4000000 in
set_option maxRecDepth 100000 in
theorem LoSplit.set {r : LdR} {a : Ld} (hr : r.ok a) {s : Int} {l1 l2 : List Opn} {x : Opn} (h : LoSplit r.lo s l1 x l2) {k : Nat} {ch : Bool} (hc : ch = decide (maj a.n ≤ cnt5 (setv x.v k))) :
    LdR.ok ⟨r.m1, r.m2, r.bes, r.bclk, r.ses, r.sclk, r.lb, l1 ++ ⟨x.slot, x.o, x.en, setv x.v k, ch⟩ :: l2, r.M⟩ { a with L := setO a.L s k } := by
  have hmem : ∀ y ∈ l1 ++ l2, y ∈ r.lo := fun y hy => by
    rw [h.eq]
    rcases List.mem_append.1 hy with hy | hy
    · exact List.mem_append_left _ hy
    · exact List.mem_append_right _ (List.mem_cons_of_mem _ hy)
  have hx : x ∈ r.lo := by rw [h.eq]; simp
  have hin : ∀ y ∈ l1 ++ ⟨x.slot, x.o, x.en, setv x.v k, ch⟩ :: l2, y = ⟨x.slot, x.o, x.en, setv x.v k, ch⟩ ∨ y ∈ r.lo := fun y hy => by
    rcases List.mem_append.1 hy with hy | hy
    · exact .inr (hmem y (List.mem_append_left _ hy))
    · rcases List.mem_cons.1 hy with hy | hy
      · exact .inl hy
      · exact .inr (hmem y (List.mem_append_right _ hy))
  refine ⟨hr.best, ?_, hr.came, ?_, fun y hy => ?_, hr.bi, fun y hy => ?_, ok_setO hr.a s k⟩
  · have := hr.open_
    rw [h.eq] at this
    simpa using this
  · show (l1 ++ _ :: l2).map Opn.c = setO a.L s k
    rw [← hr.L, h.eq]
    unfold setO
    rw [List.map_map, List.map_append, List.map_append, List.map_cons, List.map_cons]
    have e : ∀ l : List Opn, (∀ y ∈ l, y.slot ≠ s) → l.map ((fun z : Ol => if z.slot = s then { z with v := setv z.v k } else z) ∘ Opn.c) = l.map Opn.c := fun l hl => List.map_congr_left fun y hy => by
      show (if y.slot = s then _ else y.c) = y.c
      rw [if_neg (hl y hy)]
    rw [e l1 h.h1, e l2 h.h2]
    show _ = _ ++ (if x.slot = s then _ else _) :: _
    rw [if_pos h.hs]
  · rcases hin y hy with rfl | hy
    · exact hc
    · exact hr.ch y hy
  · rcases hin y hy with rfl | hy
    · exact hr.li x hx
    · exact hr.li y hy
noncomputable def Ld.chosenE (a : Ld) (s : Int) : Option EnC := (findO a.L s).bind fun x => if x.ch a.n = true then some x.en else none
set_option maxHeartbeats 4000000 in
set_option maxRecDepth 100000 in
theorem few_begin {a : Ld} (ha : a.ok) (hnx : a.next = a.fr) : (beginA a).next ≤ a.fr + 4097 := by
  have hl := isLast_lastS a.fr a.came
  show a.next + (a.more : Int) ≤ _
  unfold Ld.more
  rcases hl.at_ with g | ⟨p, hp, g⟩
  · omega
  · have := ha.key p hp; omega
set_option maxHeartbeats 4000000 in
set_option maxRecDepth 100000 in
theorem few_len {a : Ld} (ha : a.ok) {m : Nat} (h : a.next ≤ a.fr + (m : Int)) : a.L.length ≤ m := by
  have h1 : (a.L.map Ol.slot).Nodup := by
    have := ha.srt
    rw [List.Nodup, List.pairwise_map]
    exact this.imp fun g => Int.ne_of_lt g
  have := nod_len m (a.L.map Ol.slot) a.fr h1 fun s hs => by
    obtain ⟨x, hx, rfl⟩ := List.mem_map.1 hs
    have h2 := ha.sl x hx
    omega
  rwa [List.length_map] at this
set_option maxHeartbeats 4000000 in
set_option maxRecDepth 100000 in
theorem put_len (a : Ld) (e : EnC) : (a.put e).2.L.length ≤ a.L.length + 1 := by
  unfold Ld.put
  split
  · exact Nat.le_succ _
  · split
    · exact Nat.le_succ _
    · split
      · exact Nat.le_succ _
      · simp
attribute [local irreducible] eqW eqV wpC wpO wpD Ex Rd callsK RetP Drop valK
set_option maxHeartbeats 4000000 in
set_option maxRecDepth 100000 in
theorem pmajN (e : World) {n : Nat} {F : Hp} {K : Value → Hp → Prop} (h1 : 1 ≤ n) (h5 : n ≤ 5) (hK : K (.int .i64 ((maj n : Nat) : Int)) F) : callsK Tryz.prog e 7 #[.int .i64 (n : Int)] F K :=
  pmaj e (fun _ _ => by rw [Int.toNat_natCast]; exact hK) fun h => absurd (show (1 : Int) ≤ n ∧ (n : Int) ≤ 5 by omega) h
set_option maxHeartbeats 4000000 in
set_option maxRecDepth 100000 in
theorem pputC (e : World) {a : Ld} {d : Nat} {r : LdR} {x : EnR} {c : EnC} {P F : Hp} {K : Value → Hp → Prop} (hr : r.ok a) (hx : EnIn P x) (hz : EnSz x.c) (hc : x.c = c)
    (hK : ∀ (y : SlR) (r' : LdR), y.c = (a.put c).1.1 → y.ok → r'.ok (a.put c).2 → K (.tuple #[slV y, .int .i64 (a.put c).1.2]) (((r'.hp (a.put c).2 d ++ y.hp) ++ P) ++ F)) :
    callsK Tryz.prog e 20 #[pv d, .agg x.cells.toArray] ((r.hp a d ++ P) ++ F) K := by
  subst hc
  rw [List.append_assoc]
  exact pput e hr hx hz fun y r' h1 h2 h3 => by
    rw [← List.append_assoc]
    exact hK y r' h1 h2 h3
set_option maxHeartbeats 4000000 in
set_option maxRecDepth 100000 in
theorem rputC (e : World) {a : Ld} {d : Nat} {r : RfR} {x : EnR} {P F : Hp} {K : Value → Hp → Prop} (hr : r.ok a) (hx : EnIn P x) (hz : EnSz x.c) (hlen : a.L.length * 536 + 536 ≤ 140737488355328)
    (hK : ∀ (y : SlR) (r' : RfR), y.c = (a.put x.c).1.1 → y.ok → r'.ok (a.put x.c).2 → K (.tuple #[slV y, .int .i64 (a.put x.c).1.2]) (((r'.hp (a.put x.c).2 d ++ y.hp) ++ P) ++ F)) :
    callsK Tryz.prog e 23 #[pv d, .agg x.cells.toArray] ((r.hp a d ++ P) ++ F) K := by
  rw [List.append_assoc]
  exact rput e hr hx hz hlen fun y r' h1 h2 h3 => by
    rw [← List.append_assoc]
    exact hK y r' h1 h2 h3
set_option maxHeartbeats 4000000 in
set_option maxRecDepth 100000 in
theorem pwaitingC (e : World) {a : Ld} {d : Nat} {r : LdR} {F : Hp} {K : Value → Hp → Prop} (hr : r.ok a) (hl : a.L.length * 528 ≤ 140737488355328)
    (hK : ∀ v Bs ls, ls.map SlR.c = a.waits → (∀ s ∈ ls, s.ok ∧ EnSz s.en.c) → SlO 73 59 v ls.length (ls.map SlR.cells).flatten Bs → ls.length ≤ a.L.length → K v ((Bs ++ acH ls) ++ (r.hp a d ++ F))) :
    callsK Tryz.prog e 17 #[pv d] (r.hp a d ++ F) K :=
  pwaiting e hr hl fun v Bs ls h1 h2 h3 => hK v Bs ls h1 (fun s hs => ⟨h2 s hs, by
    have h4 : s.c ∈ a.waits := by rw [← h1]; exact List.mem_map.2 ⟨s, hs, rfl⟩
    obtain ⟨x, hx, h5⟩ := List.mem_map.1 h4
    have hx := (List.mem_filter.1 hx).1
    rw [← hr.L] at hx
    obtain ⟨z, hz, rfl⟩ := List.mem_map.1 hx
    rw [← show z.en.c = s.en.c from congrArg Sl.en h5]
    exact (hr.li z hz).2⟩) h3 (by
    have h6 := congrArg List.length h1
    rw [List.length_map] at h6
    rw [h6]
    unfold Ld.waits
    rw [List.length_map]
    exact List.length_filter_le _ _)
set_option maxHeartbeats 4000000 in
set_option maxRecDepth 100000 in
theorem pnewN (e : World) {b : Bal} {fr n : Int} {F : Hp} {K : Value → Hp → Prop} (h : ¬ newOK b fr n) (h1 : K (.tuple #[.pointer none, .int .i64 1]) F) : callsK Tryz.prog e 4 #[.agg b.cells.toArray, .int .i64 fr, .int .i64 n] F K :=
  pnew e (fun _ => h1) fun g => absurd g h
set_option maxHeartbeats 4000000 in
set_option maxRecDepth 100000 in
theorem rnewN (e : World) {b : Bal} {fr n : Int} {F : Hp} {K : Value → Hp → Prop} (h : ¬ newOK b fr n) (h1 : K (.tuple #[.pointer none, .int .i64 1]) F) : callsK Tryz.prog e 5 #[.agg b.cells.toArray, .int .i64 fr, .int .i64 n] F K :=
  rnew e (fun _ => h1) fun g => absurd g h
set_option maxHeartbeats 4000000 in
set_option maxRecDepth 100000 in
theorem rnewE (e : World) {b : Bal} {fr : Int} {n : Nat} {F : Hp} {K : Value → Hp → Prop} (hok : newOK b fr (n : Int)) (h0 : ∀ (d : Nat) (r : RfR), r.ok (newA b fr n) → K (.tuple #[pv d, .int .i64 0]) (r.hp (newA b fr n) d ++ F)) :
    callsK Tryz.prog e 5 #[.agg b.cells.toArray, .int .i64 fr, .int .i64 (n : Int)] F K :=
  rnew e (fun h => absurd hok h) fun _ d r hr => by
    rw [Int.toNat_natCast] at hr ⊢
    exact h0 d r hr
set_option maxHeartbeats 4000000 in
set_option maxRecDepth 100000 in
theorem sameWait (e : World) {W : List Sl} {ls ms : List SlR} {v u : Value} {B1 B2 F : Hp} {K : Value → Hp → Prop} (hv : SlO 73 59 v ls.length (ls.map SlR.cells).flatten B1) (hu : SlO 73 59 u ms.length (ms.map SlR.cells).flatten B2) (h1 : ls.map SlR.c = W) (h2 : ms.map SlR.c = W) (o1 : ∀ s ∈ ls, s.ok ∧ EnSz s.en.c) (o2 : ∀ s ∈ ms, s.ok) (hl : ls.length ≤ 9223372036854775806)
    (hK : K (.bool true) (((B1 ++ acH ls) ++ (B2 ++ acH ms)) ++ F)) : callsK Tryz.prog e 16 #[v, u] (((B1 ++ acH ls) ++ (B2 ++ acH ms)) ++ F) K :=
  sameList_spec e ((slInn hv).more fun y hy => List.mem_append_left _ (List.mem_append_left _ hy)) ((slInn hu).more fun y hy => List.mem_append_right _ (List.mem_append_left _ hy)) (by rw [h1, h2])
    (fun s hs => ⟨(acH_in hs (o1 s hs).1).more fun y hy => List.mem_append_left _ (List.mem_append_right _ hy), (o1 s hs).2⟩) (fun s hs => (acH_in hs (o2 s hs)).more fun y hy => List.mem_append_right _ (List.mem_append_right _ hy)) hl hK
end Go.Vl
