/-
  Steps of the proof: HL, HM, Vn, JM.
-/
import Derived.Test.YtpegidbkplgplaaO24
import Derived.Test.YtpegidbkplgplaaO19
import Derived.Test.YtpegidbkplgplaaO07
import Derived.Test.YtpegidbkplgplaaO21
namespace Go.Vl
open Go.Proofs Classical
set_option maxHeartbeats 4000000 in
set_option maxRecDepth 100000 in
theorem RfR.chn {r : RfR} {a : Ld} (h : r.ok a) {i : Nat} {x : RsR} (hx : r.ls[i]? = some x) : a.L[i]? = some x.c := by rw [← h.L, List.getElem?_map, hx]; rfl
set_option maxHeartbeats 4000000 in
set_option maxRecDepth 100000 in
theorem rsIn {v : Value} {ls : List RsR} {B : Hp} (h : SlO 114 58 v ls.length (ls.map RsR.cells).flatten B) : InSl B 58 (ls.map RsR.cells) v :=
  SlO.inB (by rw [List.length_map]; exact h) (fun r hr => by obtain ⟨x, _, rfl⟩ := List.mem_map.1 hr; exact ⟨rfl, rfl⟩)
attribute [local irreducible] eqW eqV wpC wpO wpD Ex Rd callsK RetP Drop valK
set_option maxHeartbeats 4000000 in
set_option maxRecDepth 100000 in
theorem rchosen (e : World) {a : Ld} {d : Nat} {r : RfR} {i : Nat} {x : RsR} {F : Hp} {K : Value → Hp → Prop} (hr : r.ok a) (hi : r.ls[i]? = some x) {c : Bool} (hc : x.c.ch a.n = c) (hK : K (.bool c) (r.hp a d ++ F)) :
    callsK Try.prog e 48 #[pv d, .int .i64 (i : Int)] (r.hp a d ++ F) K := by
  subst hc
  have n1 := hr.a.n1
  have n5 := hr.a.n5
  have hxm := List.mem_of_getElem? hi
  have hxn := hr.n x hxm
  have hvn := hr.vl x hxm
  have hin := rsIn hr.ss
  have hil := (List.getElem?_eq_some_iff.1 hi).1
  have hml : (r.ls.map RsR.cells).length = r.ls.length := List.length_map _
  clear hr
  obtain ⟨g, cv, lc, Cb, sv, ls, Sb, M⟩ := r
  simp only at hi hin hil hml hxm ⊢
  obtain ⟨l1, l2, rfl⟩ : ∃ l1 l2, ls = l1 ++ x :: l2 := List.append_of_mem hxm
  have hsp : rsH (l1 ++ x :: l2) = rsH l1 ++ (vbH x.v x.n x.g ++ rsH l2) := by rw [rsH_app]; rfl
  show callsK _ _ _ _ ((([(d, cellsO (rfC a.b a.fr a.n g cv a.ready a.next sv) 102)] ++ vbH a.p a.n g) ++ ((Cb ++ Sb) ++ (rsH (l1 ++ x :: l2) ++ M))) ++ F) K
  have hK : K (.bool (x.c.ch a.n)) ((([(d, cellsO (rfC a.b a.fr a.n g cv a.ready a.next sv) 102)] ++ vbH a.p a.n g) ++ ((Cb ++ Sb) ++ (rsH (l1 ++ x :: l2) ++ M))) ++ F) := hK
  rw [hsp] at hK ⊢
  obtain ⟨xs, xe, xv, xn, xg⟩ := x
  simp only at hxn hvn
  subst hxn
  have hti := vts_in xv n5 xg
  have hch : Ol.ch a.n ⟨xs, xe.c, xv⟩ = decide (maj a.n ≤ cnt5 xv) := rfl
  simp only [hch] at hK
  clear hch
  refine calls_body (N := 20) (args := [pv d, .int .i64 (i : Int)]) Try.func48 rfl rfl rfl (by simp) ?_
  repeat' (first | (show wpO _ _ _ _ _ _ _; first | refine wpO_nil ?_ | (show wpO _ _ _ (⟨_, .binOp _ _ _ _ _, _, _, _, _⟩ :: _) _ _ _; first | refine s_tt ?_ | refine s_ff ?_ | refine s_rdp ?_ | (refine s_cmp (fun _ => ?_) (fun _ => ?_) <;> (first | (exfalso; omega) | contradiction | skip)) | (refine s_cb (fun _ => ?_) (fun _ => ?_) <;> (first | (exfalso; omega) | contradiction | skip))) | (show wpO _ _ _ (⟨_, .indexAddr _ _ _, _, _, _, _⟩ :: _) _ _ _; first | refine s_rdp ?_ | refine s_idx (fun _ _ _ _ _ _ _ => ?_)) | refine s_rdp ?_ | refine s_rdm ?_ | refine s_exq ?_ | refine s_exm ?_) | (show Ex _ _ _ _ _; first | (show Ex _ ⟨_, .call ⟨.value (.func _), _, _⟩, _, _, _, _⟩ _ _ _; refine e_call ?_; first | (apply p_pcs; apply rtally5 _ hti n5 hvn; (try case hS => assumption); (case hpcs => (repeat (first | exact Pcs.blk (by infer_instance) | exact Pcs.nil | (apply Pcs.cons; infer_instance) | apply Pcs.app)))) | (apply rmaj8 _ n1 n5))) | (show wpC _ _ _ _ _ _; first | refine wpC_seq ?_ | refine wpC_region ?_ | refine wpC_ret ?_ | refine wpC_skip ?_ | refine wpC_label ?_ | (apply wpC_drawX (id := 1) ([]) [0, 1, 2, 3, 4, 5, 6, 7, 9, 10, 11, 12, 8, 13, 14, 15] rfl (by kernel_rfl); (case hpk => (repeat (first | exact Pcs.blk (by infer_instance) | exact Pcs.nil | (apply Pcs.cons; infer_instance) | apply Pcs.app))))) | (show Then _ _ _ _ _ _ _; first | refine then_normal ?_ | refine then_ret ?_) | (show wpD _ _ _ _ _ _ _ _; first | refine wpD_nil ?_ | refine d_rdp ?_ | refine d_rdm ?_ | refine d_tt ?_ | refine d_ff ?_ | (refine d_cmp (fun _ => ?_) (fun _ => ?_) <;> (first | (exfalso; omega) | contradiction | skip)) | (refine d_cb (fun _ => ?_) (fun _ => ?_) <;> (first | (exfalso; omega) | contradiction | skip)) | refine d_idx (fun _ _ _ _ _ _ _ => ?_) | refine d_exs ?_ | refine d_exn ?_) | (show (_ ∨ Subs _ _) ∧ _; first | refine d_sub ?_ | refine d_cov ?_) | (show RetP _ _ _ _ _ _ _ _; first | refine r_1 ?_) | assumption | intro _)
  all_goals first
    | (exfalso; omega)
    | (rw [decide_eq_true (by omega)] at hK; exact q_drop hK)
    | (rw [decide_eq_false (by omega)] at hK; exact q_drop hK)
    | trace_state
set_option maxHeartbeats 4000000 in
set_option maxRecDepth 100000 in
theorem rwaiting (e : World) {a : Ld} {d : Nat} {r : RfR} {F : Hp} {K : Value → Hp → Prop} (hr : r.ok a) (hl : a.L.length * 528 ≤ 140737488355328)
    (hK : ∀ v Bs ls, ls.map SlR.c = a.waits → (∀ s ∈ ls, s.ok) → SlO 51 59 v ls.length (ls.map SlR.cells).flatten Bs → K v ((Bs ++ acH ls) ++ (r.hp a d ++ F))) :
    callsK Try.prog e 17 #[pv d] (r.hp a d ++ F) K := by
  have hin := rsIn hr.ss
  have hlen : r.ls.length = a.L.length := by rw [← hr.L, List.length_map]
  have hml : (r.ls.map RsR.cells).length = r.ls.length := List.length_map _
  have hat := fun i x hx => RfR.chn hr (i := i) (x := x) hx
  have hli := hr.li
  refine calls_body (N := 44) (args := [pv d]) Try.func17 rfl rfl rfl (by simp) ?_
  repeat' ((fail_if_success (show wpC _ (.loop _) _ _ _ _)); first | (show wpO _ _ _ _ _ _ _; first | refine wpO_nil ?_ | (show wpO _ _ _ (⟨_, .binOp _ _ _ _ _, _, _, _, _⟩ :: _) _ _ _; first | refine s_tt ?_ | refine s_ff ?_ | refine s_rdp ?_ | (refine s_cmp (fun _ => ?_) (fun _ => ?_) <;> (first | (exfalso; omega) | contradiction | skip)) | (refine s_cb (fun _ => ?_) (fun _ => ?_) <;> (first | (exfalso; omega) | contradiction | skip))) | (show wpO _ _ _ (⟨_, .indexAddr _ _ _, _, _, _, _⟩ :: _) _ _ _; first | refine s_rdp ?_ | refine s_idx (fun _ _ _ _ _ _ _ => ?_)) | refine s_rdp ?_ | refine s_rdm ?_ | refine s_exq ?_ | refine s_exm ?_) | (show Ex _ _ _ _ _; first | (show Ex _ ⟨_, .buildSlice _ _ _, _, _, _, _⟩ _ _ _; first | (refine e_buildSlice ?_; intro _) | (refine e_buildNil ?_; intro _ _ _)) | (show Ex _ ⟨_, .call ⟨.builtin .append, _, _⟩, _, _, _, _⟩ _ _ _; (first | refine e_append ?_ | refine e_appendIn ?_); intro _ _ _)) | (show wpC _ _ _ _ _ _; first | refine wpC_seq ?_ | refine wpC_region ?_ | refine c_true ?_ | refine c_false ?_ | (refine c_b (fun _ => ?_) (fun _ => ?_) <;> (first | (exfalso; omega) | contradiction | skip)) | refine wpC_block ?_ | refine wpC_ret ?_ | refine wpC_skip ?_ | refine wpC_exit ?_ | refine wpC_label ?_ | (apply wpC_drawX (id := 6) ([]) [0, 1, 2, 3, 4, 5, 6, 7, 8, 9, 10, 11, 12, 13, 14, 15, 16, 17, 18, 19, 20, 21, 22, 23, 24, 25] rfl (by kernel_rfl); (case hpk => (repeat (first | exact Pcs.blk (by infer_instance) | exact Pcs.nil | (apply Pcs.cons; infer_instance) | apply Pcs.app))))) | (show Then _ _ _ _ _ _ _; first | refine then_normal ?_ | refine then_ret ?_ | refine then_exit ?_) | (show InBlock _ _ _ _ _ _; first | refine inBlock_normal ?_ | refine inBlock_ret ?_ | refine inBlock_same ?_ | refine b_other ?_) | (show LoopPost _ _ _ _ _ _; first | refine loop_ret ?_ | refine loop_exit ?_) | (show wpD _ _ _ _ _ _ _ _; first | refine wpD_nil ?_ | refine d_rdp ?_ | refine d_rdm ?_ | refine d_tt ?_ | refine d_ff ?_ | (refine d_cmp (fun _ => ?_) (fun _ => ?_) <;> (first | (exfalso; omega) | contradiction | skip)) | (refine d_cb (fun _ => ?_) (fun _ => ?_) <;> (first | (exfalso; omega) | contradiction | skip)) | refine d_idx (fun _ _ _ _ _ _ _ => ?_) | refine d_exs ?_ | refine d_exn ?_) | (show (_ ∨ Subs _ _) ∧ _; first | refine d_sub ?_ | refine d_cov ?_) | (show RetP _ _ _ _ _ _ _ _; first | refine r_1 ?_))
  refine wpC_loopA (κ := LiS) [3, 4, 5, 6, 7, 8, 9, 10, 11, 12, 13, 14, 15, 16, 17, 18, 19, 20, 21, 22, 23, 24, 25, 26, 27, 28, 29, 30, 31, 32, 33, 34, 35, 36, 37, 38, 39, 40, 41, 42] (fun s => [(3, s.v), (4, .int .i64 (s.i : Int))]) (fun s => (s.Bs ++ acH s.ls) ++ (r.hp a d ++ F))
    (fun s => s.i ≤ a.L.length ∧ s.ls.map SlR.c = waitsN a s.i ∧ (∀ x ∈ s.ls, x.ok) ∧ SlO 51 59 s.v s.ls.length (s.ls.map SlR.cells).flatten s.Bs) (fun s => a.L.length - s.i) ⟨0, .slice none 0 0, [], []⟩ ⟨Nat.zero_le _, rfl, (fun x hx => by cases hx), SlO.nil 51 59⟩ ⟨rfl, rfl, trivial⟩ q_drp ?_
  rintro ⟨i, v, Bs, ls⟩ ρx ⟨hi, hls, hok, hv⟩
  simp only at hi hls hok hv ⊢
  have hlsl : ls.length ≤ i := by
    have := congrArg List.length hls
    rw [List.length_map] at this
    rw [this]
    exact waitsN_len a i
  cases hx : r.ls[i]? with
  | none =>
    have hge : r.ls.length ≤ i := List.getElem?_eq_none_iff.1 hx
    rw [waitsN_all (by omega)] at hls
    repeat' (first | (show wpO _ _ _ _ _ _ _; first | refine wpO_nil ?_ | (show wpO _ _ _ (⟨_, .binOp _ _ _ _ _, _, _, _, _⟩ :: _) _ _ _; first | refine s_tt ?_ | refine s_ff ?_ | refine s_rdp ?_ | (refine s_cmp (fun _ => ?_) (fun _ => ?_) <;> (first | (exfalso; omega) | contradiction | skip)) | (refine s_cb (fun _ => ?_) (fun _ => ?_) <;> (first | (exfalso; omega) | contradiction | skip))) | (show wpO _ _ _ (⟨_, .indexAddr _ _ _, _, _, _, _⟩ :: _) _ _ _; first | refine s_rdp ?_ | refine s_idx (fun _ _ _ _ _ _ _ => ?_)) | refine s_rdp ?_ | refine s_rdm ?_ | refine s_exq ?_ | refine s_exm ?_) | (show Ex _ _ _ _ _; first | (show Ex _ ⟨_, .buildSlice _ _ _, _, _, _, _⟩ _ _ _; first | (refine e_buildSlice ?_; intro _) | (refine e_buildNil ?_; intro _ _ _)) | (show Ex _ ⟨_, .call ⟨.builtin .append, _, _⟩, _, _, _, _⟩ _ _ _; (first | refine e_append ?_ | refine e_appendIn ?_); intro _ _ _)) | (show wpC _ _ _ _ _ _; first | refine wpC_seq ?_ | refine wpC_region ?_ | refine c_true ?_ | refine c_false ?_ | (refine c_b (fun _ => ?_) (fun _ => ?_) <;> (first | (exfalso; omega) | contradiction | skip)) | refine wpC_block ?_ | refine wpC_ret ?_ | refine wpC_skip ?_ | refine wpC_exit ?_ | refine wpC_label ?_ | (apply wpC_drawX (id := 6) ([]) [0, 1, 2, 3, 4, 5, 6, 7, 8, 9, 10, 11, 12, 13, 14, 15, 16, 17, 18, 19, 20, 21, 22, 23, 24, 25] rfl (by kernel_rfl); (case hpk => (repeat (first | exact Pcs.blk (by infer_instance) | exact Pcs.nil | (apply Pcs.cons; infer_instance) | apply Pcs.app))))) | (show Then _ _ _ _ _ _ _; first | refine then_normal ?_ | refine then_ret ?_ | refine then_exit ?_) | (show InBlock _ _ _ _ _ _; first | refine inBlock_normal ?_ | refine inBlock_ret ?_ | refine inBlock_same ?_ | refine b_other ?_) | (show LoopPost _ _ _ _ _ _; first | refine loop_ret ?_ | refine loop_exit ?_) | (show wpD _ _ _ _ _ _ _ _; first | refine wpD_nil ?_ | refine d_rdp ?_ | refine d_rdm ?_ | refine d_tt ?_ | refine d_ff ?_ | (refine d_cmp (fun _ => ?_) (fun _ => ?_) <;> (first | (exfalso; omega) | contradiction | skip)) | (refine d_cb (fun _ => ?_) (fun _ => ?_) <;> (first | (exfalso; omega) | contradiction | skip)) | refine d_idx (fun _ _ _ _ _ _ _ => ?_) | refine d_exs ?_ | refine d_exn ?_) | (show (_ ∨ Subs _ _) ∧ _; first | refine d_sub ?_ | refine d_cov ?_) | (show RetP _ _ _ _ _ _ _ _; first | refine r_1 ?_))
    all_goals first | (exfalso; omega) | exact q_drop (hK v Bs ls hls hok hv) | trace_state
  | some x =>
    have hlt := (List.getElem?_eq_some_iff.1 hx).1
    have hxm := List.mem_of_getElem? hx
    obtain ⟨hei, hes⟩ := hli x hxm
    have hax := hat i x hx
    have htk : waitsN a (i + 1) = waitsN a i ++ (if x.c.ch a.n = true then [] else [⟨x.slot, a.b, x.en.c⟩]) := by
      unfold waitsN
      rw [List.take_add_one, hax, List.filter_append, List.map_append]
      congr 1
      cases hc : x.c.ch a.n <;> simp [hc]
    clear hK hat hli
    cases hc : x.c.ch a.n with
    | true =>
      repeat' (first | (show wpO _ _ _ _ _ _ _; first | refine wpO_nil ?_ | (show wpO _ _ _ (⟨_, .binOp _ _ _ _ _, _, _, _, _⟩ :: _) _ _ _; first | refine s_tt ?_ | refine s_ff ?_ | refine s_rdp ?_ | (refine s_cmp (fun _ => ?_) (fun _ => ?_) <;> (first | (exfalso; omega) | contradiction | skip)) | (refine s_cb (fun _ => ?_) (fun _ => ?_) <;> (first | (exfalso; omega) | contradiction | skip))) | (show wpO _ _ _ (⟨_, .indexAddr _ _ _, _, _, _, _⟩ :: _) _ _ _; first | refine s_rdp ?_ | refine s_idx (fun _ _ _ _ _ _ _ => ?_)) | refine s_rdp ?_ | refine s_rdm ?_ | refine s_exq ?_ | refine s_exm ?_) | (show Ex _ _ _ _ _; first | (show Ex _ ⟨_, .call ⟨.value (.func _), _, _⟩, _, _, _, _⟩ _ _ _; refine e_call ?_; first | (apply p_pcs; apply rchosen _ hr hx hc; (try case hS => assumption); (case hpcs => (repeat (first | exact Pcs.blk (by infer_instance) | exact Pcs.nil | (apply Pcs.cons; infer_instance) | apply Pcs.app))))) | (show Ex _ ⟨_, .buildSlice _ _ _, _, _, _, _⟩ _ _ _; first | (refine e_buildSlice ?_; intro _) | (refine e_buildNil ?_; intro _ _ _)) | (show Ex _ ⟨_, .call ⟨.builtin .append, _, _⟩, _, _, _, _⟩ _ _ _; (first | refine e_append ?_ | refine e_appendIn ?_); intro _ _ _)) | (show wpC _ _ _ _ _ _; first | refine wpC_seq ?_ | refine wpC_region ?_ | refine c_true ?_ | refine c_false ?_ | (refine c_b (fun _ => ?_) (fun _ => ?_) <;> (first | (exfalso; omega) | contradiction | skip)) | refine wpC_block ?_ | refine wpC_ret ?_ | refine wpC_skip ?_ | refine wpC_exit ?_ | refine wpC_label ?_ | (apply wpC_drawX (id := 6) ([]) [0, 1, 2, 3, 4, 5, 6, 7, 8, 9, 10, 11, 12, 13, 14, 15, 16, 17, 18, 19, 20, 21, 22, 23, 24, 25] rfl (by kernel_rfl); (case hpk => (repeat (first | exact Pcs.blk (by infer_instance) | exact Pcs.nil | (apply Pcs.cons; infer_instance) | apply Pcs.app))))) | (show Then _ _ _ _ _ _ _; first | refine then_normal ?_ | refine then_ret ?_ | refine then_exit ?_) | (show InBlock _ _ _ _ _ _; first | refine inBlock_normal ?_ | refine inBlock_ret ?_ | refine inBlock_same ?_ | refine b_other ?_) | (show LoopPost _ _ _ _ _ _; first | refine loop_ret ?_ | refine loop_exit ?_) | (show wpD _ _ _ _ _ _ _ _; first | refine wpD_nil ?_ | refine d_rdp ?_ | refine d_rdm ?_ | refine d_tt ?_ | refine d_ff ?_ | (refine d_cmp (fun _ => ?_) (fun _ => ?_) <;> (first | (exfalso; omega) | contradiction | skip)) | (refine d_cb (fun _ => ?_) (fun _ => ?_) <;> (first | (exfalso; omega) | contradiction | skip)) | refine d_idx (fun _ _ _ _ _ _ _ => ?_) | refine d_exs ?_ | refine d_exn ?_) | (show (_ ∨ Subs _ _) ∧ _; first | refine d_sub ?_ | refine d_cov ?_) | (show RetP _ _ _ _ _ _ _ _; first | refine r_1 ?_) | assumption | intro _)
      all_goals first
        | (exfalso; omega)
        | exact lp_end ⟨i + 1, v, Bs, ls⟩ (by simp only; omega) ⟨by simp only; omega, by simp only; rw [htk, if_pos hc, List.append_nil]; exact hls, hok, hv⟩
        | trace_state
    | false =>
      repeat' (first | (show wpO _ _ _ _ _ _ _; first | refine wpO_nil ?_ | (show wpO _ _ _ (⟨_, .binOp _ _ _ _ _, _, _, _, _⟩ :: _) _ _ _; first | refine s_tt ?_ | refine s_ff ?_ | refine s_rdp ?_ | (refine s_cmp (fun _ => ?_) (fun _ => ?_) <;> (first | (exfalso; omega) | contradiction | skip)) | (refine s_cb (fun _ => ?_) (fun _ => ?_) <;> (first | (exfalso; omega) | contradiction | skip))) | (show wpO _ _ _ (⟨_, .indexAddr _ _ _, _, _, _, _⟩ :: _) _ _ _; first | refine s_rdp ?_ | refine s_idx (fun _ _ _ _ _ _ _ => ?_)) | refine s_rdp ?_ | refine s_rdm ?_ | refine s_exq ?_ | refine s_exm ?_) | (show Ex _ _ _ _ _; first | (show Ex _ ⟨_, .call ⟨.value (.func _), _, _⟩, _, _, _, _⟩ _ _ _; refine e_call ?_; first | (apply p_pcs; apply rchosen _ hr hx hc; (try case hS => assumption); (case hpcs => (repeat (first | exact Pcs.blk (by infer_instance) | exact Pcs.nil | (apply Pcs.cons; infer_instance) | apply Pcs.app)))) | (apply p_pcs; apply rclone_spec _ (x := x.en) hei hes; (try case hS => assumption); (case hpcs => (repeat (first | exact Pcs.blk (by infer_instance) | exact Pcs.nil | (apply Pcs.cons; infer_instance) | apply Pcs.app))))) | (show Ex _ ⟨_, .buildSlice _ _ _, _, _, _, _⟩ _ _ _; first | (refine e_buildSlice ?_; intro _) | (refine e_buildNil ?_; intro _ _ _)) | (show Ex _ ⟨_, .call ⟨.builtin .append, _, _⟩, _, _, _, _⟩ _ _ _; (first | refine e_append ?_ | refine e_appendIn ?_); intro _ _ _)) | (show wpC _ _ _ _ _ _; first | refine wpC_seq ?_ | refine wpC_region ?_ | refine c_true ?_ | refine c_false ?_ | (refine c_b (fun _ => ?_) (fun _ => ?_) <;> (first | (exfalso; omega) | contradiction | skip)) | refine wpC_block ?_ | refine wpC_ret ?_ | refine wpC_skip ?_ | refine wpC_exit ?_ | refine wpC_label ?_ | (apply wpC_drawX (id := 6) (Bs) [0, 1, 2, 3, 4, 5, 6, 7, 8, 9, 10, 11, 12, 13, 14, 15, 16, 17, 18, 19, 20, 21, 22, 23, 24, 25] rfl (by kernel_rfl); (case hpk => (repeat (first | exact Pcs.blk (by infer_instance) | exact Pcs.nil | (apply Pcs.cons; infer_instance) | apply Pcs.app))))) | (show Then _ _ _ _ _ _ _; first | refine then_normal ?_ | refine then_ret ?_ | refine then_exit ?_) | (show InBlock _ _ _ _ _ _; first | refine inBlock_normal ?_ | refine inBlock_ret ?_ | refine inBlock_same ?_ | refine b_other ?_) | (show LoopPost _ _ _ _ _ _; first | refine loop_ret ?_ | refine loop_exit ?_) | (show wpD _ _ _ _ _ _ _ _; first | refine wpD_nil ?_ | refine d_rdp ?_ | refine d_rdm ?_ | refine d_tt ?_ | refine d_ff ?_ | (refine d_cmp (fun _ => ?_) (fun _ => ?_) <;> (first | (exfalso; omega) | contradiction | skip)) | (refine d_cb (fun _ => ?_) (fun _ => ?_) <;> (first | (exfalso; omega) | contradiction | skip)) | refine d_idx (fun _ _ _ _ _ _ _ => ?_) | refine d_exs ?_ | refine d_exn ?_) | (show (_ ∨ Subs _ _) ∧ _; first | refine d_sub ?_ | refine d_cov ?_) | (show RetP _ _ _ _ _ _ _ _; first | refine r_1 ?_) | assumption | intro _)
      all_goals first | (exfalso; omega) | skip
      rename_i y hyc Bo Bd hO bx v' Bs' hv'
      refine lp_end ⟨i + 1, v', Bs', ls ++ [⟨x.slot, a.b, y, Bo, Bd⟩]⟩ (by simp only; omega) ⟨by simp only; omega, ?_, ?_, hv'.cast (by simp) (by simp)⟩ (h6 := by simp only [acH_app, acH_cons, show acH [] = [] from rfl, List.append_nil]; exact q_drp)
      · show List.map SlR.c _ = _
        rw [htk, List.map_append, hls, if_neg (by rw [hc]; decide)]
        congr 1
        show [(⟨x.slot, a.b, y.c⟩ : Sl)] = [⟨x.slot, a.b, x.en.c⟩]
        rw [hyc]
      · intro z hz
        rcases List.mem_append.1 hz with hz | hz
        · exact hok z hz
        · obtain rfl := List.mem_singleton.1 hz
          exact hO
set_option maxHeartbeats 4000000 in
set_option maxRecDepth 100000 in
theorem sameList_spec (e : World) {xs ys : List SlR} {v u : Value} {P F : Hp} {K : Value → Hp → Prop} (hv : InSl P 59 (xs.map SlR.cells) v) (hu : InSl P 59 (ys.map SlR.cells) u) (hc : xs.map SlR.c = ys.map SlR.c) (hx : ∀ s ∈ xs, EnIn P s.en ∧ EnSz s.en.c) (hy : ∀ s ∈ ys, EnIn P s.en) (hl : xs.length ≤ 9223372036854775806) (hK : K (.bool true) (P ++ F)) :
    callsK Try.prog e 16 #[v, u] (P ++ F) K := by
  have hxl : (xs.map SlR.cells).length = xs.length := List.length_map _
  have hyl : (ys.map SlR.cells).length = ys.length := List.length_map _
  have hxy : ys.length = xs.length := by have := congrArg List.length hc; rw [List.length_map, List.length_map] at this; exact this.symm
  refine calls_body (N := 27) (args := [v, u]) Try.func16 rfl rfl rfl (by simp) ?_
  repeat' ((fail_if_success (show wpC _ (.loop _) _ _ _ _)); first | (show wpO _ _ _ _ _ _ _; first | refine wpO_nil ?_ | (show wpO _ _ _ (⟨_, .binOp _ _ _ _ _, _, _, _, _⟩ :: _) _ _ _; first | refine s_tt ?_ | refine s_ff ?_ | refine s_rdp ?_ | (refine s_cmp (fun _ => ?_) (fun _ => ?_) <;> (first | (exfalso; omega) | contradiction | skip)) | (refine s_cb (fun _ => ?_) (fun _ => ?_) <;> (first | (exfalso; omega) | contradiction | skip))) | (show wpO _ _ _ (⟨_, .indexAddr _ _ _, _, _, _, _⟩ :: _) _ _ _; first | refine s_rdp ?_ | refine s_idx (fun _ _ _ _ _ _ _ => ?_)) | refine s_rdp ?_ | refine s_rdm ?_ | refine s_exq ?_ | refine s_exm ?_) | (show wpC _ _ _ _ _ _; first | refine wpC_seq ?_ | refine wpC_region ?_ | refine c_true ?_ | refine c_false ?_ | (refine c_b (fun _ => ?_) (fun _ => ?_) <;> (first | (exfalso; omega) | contradiction | skip)) | refine wpC_block ?_ | refine wpC_ret ?_ | refine wpC_skip ?_ | refine wpC_exit ?_ | refine wpC_label ?_ | (apply wpC_drawX (id := 6) ([]) [0, 1, 2, 3, 4, 5, 6, 7, 8, 9] rfl (by kernel_rfl); (case hpk => (repeat (first | exact Pcs.blk (by infer_instance) | exact Pcs.nil | (apply Pcs.cons; infer_instance) | apply Pcs.app))))) | (show Then _ _ _ _ _ _ _; first | refine then_normal ?_ | refine then_ret ?_ | refine then_exit ?_) | (show InBlock _ _ _ _ _ _; first | refine inBlock_normal ?_ | refine inBlock_ret ?_ | refine inBlock_same ?_ | refine b_other ?_) | (show LoopPost _ _ _ _ _ _; first | refine loop_ret ?_ | refine loop_exit ?_) | (show wpD _ _ _ _ _ _ _ _; first | refine wpD_nil ?_ | refine d_rdp ?_ | refine d_rdm ?_ | refine d_tt ?_ | refine d_ff ?_ | (refine d_cmp (fun _ => ?_) (fun _ => ?_) <;> (first | (exfalso; omega) | contradiction | skip)) | (refine d_cb (fun _ => ?_) (fun _ => ?_) <;> (first | (exfalso; omega) | contradiction | skip)) | refine d_idx (fun _ _ _ _ _ _ _ => ?_) | refine d_exs ?_ | refine d_exn ?_) | (show (_ ∨ Subs _ _) ∧ _; first | refine d_sub ?_ | refine d_cov ?_) | (show RetP _ _ _ _ _ _ _ _; first | refine r_1 ?_))
  all_goals first | (exfalso; omega) | skip
  refine wpC_loopA (κ := Nat) [4, 5, 11, 12, 13, 14, 15, 16, 17, 18, 19, 20, 21, 22, 23, 24, 25, 26] (fun i => [(5, .int .i64 (i : Int))]) (fun _ => P ++ F) (fun i => i ≤ xs.length) (fun i => xs.length - i) 0 (Nat.zero_le _) ⟨rfl, trivial⟩ q_drp ?_
  rintro i ρx hi
  cases hr : xs[i]? with
  | none =>
    have hge : xs.length ≤ i := List.getElem?_eq_none_iff.1 hr
    repeat' (first | (show wpO _ _ _ _ _ _ _; first | refine wpO_nil ?_ | (show wpO _ _ _ (⟨_, .binOp _ _ _ _ _, _, _, _, _⟩ :: _) _ _ _; first | refine s_tt ?_ | refine s_ff ?_ | refine s_rdp ?_ | (refine s_cmp (fun _ => ?_) (fun _ => ?_) <;> (first | (exfalso; omega) | contradiction | skip)) | (refine s_cb (fun _ => ?_) (fun _ => ?_) <;> (first | (exfalso; omega) | contradiction | skip))) | (show wpO _ _ _ (⟨_, .indexAddr _ _ _, _, _, _, _⟩ :: _) _ _ _; first | refine s_rdp ?_ | refine s_idx (fun _ _ _ _ _ _ _ => ?_)) | refine s_rdp ?_ | refine s_rdm ?_ | refine s_exq ?_ | refine s_exm ?_) | (show wpC _ _ _ _ _ _; first | refine wpC_seq ?_ | refine wpC_region ?_ | refine c_true ?_ | refine c_false ?_ | (refine c_b (fun _ => ?_) (fun _ => ?_) <;> (first | (exfalso; omega) | contradiction | skip)) | refine wpC_block ?_ | refine wpC_ret ?_ | refine wpC_skip ?_ | refine wpC_exit ?_ | refine wpC_label ?_ | (apply wpC_drawX (id := 6) ([]) [0, 1, 2, 3, 4, 5, 6, 7, 8, 9] rfl (by kernel_rfl); (case hpk => (repeat (first | exact Pcs.blk (by infer_instance) | exact Pcs.nil | (apply Pcs.cons; infer_instance) | apply Pcs.app))))) | (show Then _ _ _ _ _ _ _; first | refine then_normal ?_ | refine then_ret ?_ | refine then_exit ?_) | (show InBlock _ _ _ _ _ _; first | refine inBlock_normal ?_ | refine inBlock_ret ?_ | refine inBlock_same ?_ | refine b_other ?_) | (show LoopPost _ _ _ _ _ _; first | refine loop_ret ?_ | refine loop_exit ?_) | (show wpD _ _ _ _ _ _ _ _; first | refine wpD_nil ?_ | refine d_rdp ?_ | refine d_rdm ?_ | refine d_tt ?_ | refine d_ff ?_ | (refine d_cmp (fun _ => ?_) (fun _ => ?_) <;> (first | (exfalso; omega) | contradiction | skip)) | (refine d_cb (fun _ => ?_) (fun _ => ?_) <;> (first | (exfalso; omega) | contradiction | skip)) | refine d_idx (fun _ _ _ _ _ _ _ => ?_) | refine d_exs ?_ | refine d_exn ?_) | (show (_ ∨ Subs _ _) ∧ _; first | refine d_sub ?_ | refine d_cov ?_) | (show RetP _ _ _ _ _ _ _ _; first | refine r_1 ?_))
    all_goals first | (exfalso; omega) | exact q_drop hK | trace_state
  | some x =>
    have hlt := (List.getElem?_eq_some_iff.1 hr).1
    obtain ⟨y, hy2⟩ : ∃ y, ys[i]? = some y := ⟨ys[i]'(by omega), by rw [List.getElem?_eq_getElem]⟩
    obtain ⟨hxi, hxz⟩ := hx x (List.mem_of_getElem? hr)
    have hyi := hy y (List.mem_of_getElem? hy2)
    have hcc : y.c = x.c := by
      have h1 : (xs.map SlR.c)[i]? = some x.c := by rw [List.getElem?_map, hr]; rfl
      rw [hc, List.getElem?_map, hy2] at h1
      exact Option.some.inj h1
    repeat' (first | (show wpO _ _ _ _ _ _ _; first | refine wpO_nil ?_ | (show wpO _ _ _ (⟨_, .binOp _ _ _ _ _, _, _, _, _⟩ :: _) _ _ _; first | refine s_tt ?_ | refine s_ff ?_ | refine s_rdp ?_ | (refine s_cmp (fun _ => ?_) (fun _ => ?_) <;> (first | (exfalso; omega) | contradiction | skip)) | (refine s_cb (fun _ => ?_) (fun _ => ?_) <;> (first | (exfalso; omega) | contradiction | skip))) | (show wpO _ _ _ (⟨_, .indexAddr _ _ _, _, _, _, _⟩ :: _) _ _ _; first | refine s_rdp ?_ | refine s_idx (fun _ _ _ _ _ _ _ => ?_)) | refine s_rdp ?_ | refine s_rdm ?_ | refine s_exq ?_ | refine s_exm ?_) | (show Ex _ _ _ _ _; first | (show Ex _ ⟨_, .call ⟨.value (.func _), _, _⟩, _, _, _, _⟩ _ _ _; refine e_call ?_; first | (apply p_pcs; apply sameSlotted_spec _ (x := x) (y := y) hxi hyi hcc hxz; (try case hS => assumption); (case hpcs => (repeat (first | exact Pcs.blk (by infer_instance) | exact Pcs.nil | (apply Pcs.cons; infer_instance) | apply Pcs.app)))))) | (show wpC _ _ _ _ _ _; first | refine wpC_seq ?_ | refine wpC_region ?_ | refine c_true ?_ | refine c_false ?_ | (refine c_b (fun _ => ?_) (fun _ => ?_) <;> (first | (exfalso; omega) | contradiction | skip)) | refine wpC_block ?_ | refine wpC_ret ?_ | refine wpC_skip ?_ | refine wpC_exit ?_ | refine wpC_label ?_ | (apply wpC_drawX (id := 6) ([]) [0, 1, 2, 3, 4, 5, 6, 7, 8, 9] rfl (by kernel_rfl); (case hpk => (repeat (first | exact Pcs.blk (by infer_instance) | exact Pcs.nil | (apply Pcs.cons; infer_instance) | apply Pcs.app))))) | (show Then _ _ _ _ _ _ _; first | refine then_normal ?_ | refine then_ret ?_ | refine then_exit ?_) | (show InBlock _ _ _ _ _ _; first | refine inBlock_normal ?_ | refine inBlock_ret ?_ | refine inBlock_same ?_ | refine b_other ?_) | (show LoopPost _ _ _ _ _ _; first | refine loop_ret ?_ | refine loop_exit ?_) | (show wpD _ _ _ _ _ _ _ _; first | refine wpD_nil ?_ | refine d_rdp ?_ | refine d_rdm ?_ | refine d_tt ?_ | refine d_ff ?_ | (refine d_cmp (fun _ => ?_) (fun _ => ?_) <;> (first | (exfalso; omega) | contradiction | skip)) | (refine d_cb (fun _ => ?_) (fun _ => ?_) <;> (first | (exfalso; omega) | contradiction | skip)) | refine d_idx (fun _ _ _ _ _ _ _ => ?_) | refine d_exs ?_ | refine d_exn ?_) | (show (_ ∨ Subs _ _) ∧ _; first | refine d_sub ?_ | refine d_cov ?_) | (show RetP _ _ _ _ _ _ _ _; first | refine r_1 ?_) | assumption | intro _)
    all_goals first | (exfalso; omega) | exact lp_end (i + 1) (by omega) hlt | trace_state
end Go.Vl

namespace Go.Vl
open Go.Proofs Classical
set_option maxHeartbeats 4000000 in
set_option maxRecDepth 100000 in
theorem rf_put {r : RfR} {a : Ld} (h : r.ok a) (hr : a.ready = true) (hn : a.next ≤ 1099511627776) {y : EnR} {e : EnC} (hy : y.c = e) (hz : EnSz e) {g2 : Nat} {v : Value} {B Bo Bd M' : Hp} (hO : EnO y Bo Bd) (hM' : ∀ z ∈ Bo ++ Bd, z ∈ M') (hM2 : ∀ z ∈ r.M, z ∈ M')
    (hv : SlO 114 58 v (r.ls ++ [RsR.mk a.next y noV a.n g2]).length ((r.ls ++ [RsR.mk a.next y noV a.n g2]).map RsR.cells).flatten B) :
    RfR.ok ⟨r.g, r.cv, r.lc, r.Cb, v, r.ls ++ [⟨a.next, y, noV, a.n, g2⟩], B, M'⟩ { a with L := a.L ++ [⟨a.next, e, noV⟩], next := a.next + 1 } := by
  refine ⟨h.cs, hv, h.came, ?_, fun x hx => ?_, h.vp, fun x hx => ?_, fun s hs => ⟨(h.ci s hs).1.more hM2, (h.ci s hs).2⟩, fun x hx => ?_, ok_put h.a hr hn e⟩
  · show (r.ls ++ [_]).map RsR.c = a.L ++ [_]
    rw [List.map_append, h.L, ← hy]; rfl
  · rcases List.mem_append.1 hx with hx | hx
    · exact h.n x hx
    · rw [List.mem_singleton.1 hx]
  · rcases List.mem_append.1 hx with hx | hx
    · exact h.vl x hx
    · rw [List.mem_singleton.1 hx]; exact vn_no _
  · rcases List.mem_append.1 hx with hx | hx
    · exact ⟨(h.li x hx).1.more hM2, (h.li x hx).2⟩
    · rw [List.mem_singleton.1 hx]
      exact ⟨(EnO.inn hO).more hM', by rw [show y.c = e from hy]; exact hz⟩
set_option maxHeartbeats 4000000 in
set_option maxRecDepth 100000 in
theorem bld114 (y : EnR) (g n : Nat) (nx : Int) : bld Try.prog 114 [(0, .int .i64 nx), (1, .agg y.cells.toArray), (2, .slice (some ⟨g, 0, none⟩) n n)] = some (RsR.mk nx y noV n g).cells := by kernel_rfl
attribute [local irreducible] eqW eqV wpC wpO wpD Ex Rd callsK RetP Drop valK
set_option maxHeartbeats 4000000 in
set_option maxRecDepth 100000 in
theorem rput (e : World) {a : Ld} {d : Nat} {r : RfR} {x : EnR} {P F : Hp} {K : Value → Hp → Prop} (hr : r.ok a) (hx : EnIn P x) (hz : EnSz x.c) (hlen : a.L.length * 536 + 536 ≤ 140737488355328)
    (hK : ∀ (y : SlR) (r' : RfR), y.c = (a.put x.c).1.1 → y.ok → r'.ok (a.put x.c).2 → K (.tuple #[slV y, .int .i64 (a.put x.c).1.2]) ((r'.hp (a.put x.c).2 d ++ y.hp) ++ (P ++ F))) :
    callsK Try.prog e 14 #[pv d, .agg x.cells.toArray] (r.hp a d ++ (P ++ F)) K := by
  have hln := hz.len
  have n1 := hr.a.n1
  have n5 := hr.a.n5
  have hll : r.ls.length = a.L.length := by rw [← hr.L, List.length_map]
  have hss := hr.ss
  obtain ⟨b, fr, n, p, ready, came, L, next⟩ := a
  obtain ⟨g, cv, lc, Cb, sv, ls, Sb, M⟩ := r
  simp only at hll hss n1 n5 hlen
  show callsK _ _ _ _ ((([(d, cellsO (rfC b fr n g cv ready next sv) 102)] ++ vbH p n g) ++ ((Cb ++ Sb) ++ (rsH ls ++ M))) ++ (P ++ F)) K
  by_cases hm : mayE x.c
  · cases ready with
    | false =>
      have h := hK zeroSlr ⟨g, cv, lc, Cb, sv, ls, Sb, M⟩
      unfold Ld.put at h
      rw [if_neg (by simpa using hm), if_pos rfl] at h
      have h : K (.tuple #[slV zeroSlr, .int .i64 80]) (((([(d, cellsO (rfC b fr n g cv false next sv) 102)] ++ vbH p n g) ++ ((Cb ++ Sb) ++ (rsH ls ++ M))) ++ ([] ++ [])) ++ (P ++ F)) := h rfl zeroSlr_ok hr
      generalize rsH ls = X at *
      refine calls_body (N := 65) (args := [pv d, .agg x.cells.toArray]) Try.func14 rfl rfl rfl (by simp) ?_
      repeat' (first | refine r_C1 ?_ | (show wpO _ _ _ _ _ _ _; first | refine wpO_nil ?_ | (show wpO _ _ _ (⟨_, .binOp _ _ _ _ _, _, _, _, _⟩ :: _) _ _ _; first | refine s_tt ?_ | refine s_ff ?_ | refine s_rdp ?_ | (refine s_cmp (fun _ => ?_) (fun _ => ?_) <;> (first | (exfalso; omega) | contradiction | skip)) | (refine s_cb (fun _ => ?_) (fun _ => ?_) <;> (first | (exfalso; omega) | contradiction | skip))) | refine s_rdp ?_ | refine s_rdm ?_ | refine s_exq ?_ | refine s_exm ?_) | (show Ex _ _ _ _ _; first | (show Ex _ ⟨_, .call ⟨.value (.func _), _, _⟩, _, _, _, _⟩ _ _ _; refine e_call ?_; first | (apply p_pcs; apply rmayEntry _ hx hln; (try case hS => assumption); (case hpcs => (repeat (first | exact Pcs.blk (by infer_instance) | exact Pcs.nil | (apply Pcs.cons; infer_instance) | apply Pcs.app))))) | (show Ex _ ⟨_, .alloc _, _, _, _, _⟩ _ _ _; first | (refine e_allocA ?_; intro _) | (refine e_alloc1 ?_; intro _)) | (show Ex _ ⟨_, .box _ _, _, _, _, _⟩ _ _ _; first | (refine e_boxA ?_; intro _) | (refine e_box1 ?_; intro _)) | (show Ex _ ⟨_, .store _ _ _, _, _, _, _⟩ _ _ _; first | refine e_store1 ?_ | refine e_storeA ?_ | (refine e_storeO ?_; intro _ _)) | (show Ex _ ⟨_, .buildSlice _ _ _, _, _, _, _⟩ _ _ _; first | (refine e_buildSlice ?_; intro _) | (refine e_buildNil ?_; intro _ _ _)) | (show Ex _ ⟨_, .call ⟨.builtin .append, _, _⟩, _, _, _, _⟩ _ _ _; (first | refine e_append ?_ | refine e_appendIn ?_); intro _ _ _)) | (show wpC _ _ _ _ _ _; first | refine wpC_seq ?_ | refine wpC_region ?_ | refine c_true ?_ | refine c_false ?_ | (refine c_b (fun _ => ?_) (fun _ => ?_) <;> (first | (exfalso; omega) | contradiction | skip)) | refine wpC_block ?_ | refine wpC_ret ?_ | refine wpC_skip ?_ | refine wpC_label ?_ | (apply wpC_drawX (id := 9) ([]) [0, 1, 2, 3, 4, 5, 6, 7, 8, 9, 10, 11, 12, 13] rfl (by kernel_rfl); (case hpk => (repeat (first | exact Pcs.blk (by infer_instance) | exact Pcs.nil | (apply Pcs.cons; infer_instance) | apply Pcs.app))))) | (show Then _ _ _ _ _ _ _; first | refine then_normal ?_ | refine then_ret ?_) | (show InBlock _ _ _ _ _ _; first | refine inBlock_normal ?_ | refine inBlock_ret ?_ | refine inBlock_same ?_ | refine b_other ?_) | (show wpD _ _ _ _ _ _ _ _; first | refine wpD_nil ?_ | refine d_rdp ?_ | refine d_rdm ?_ | refine d_tt ?_ | refine d_ff ?_ | (refine d_cmp (fun _ => ?_) (fun _ => ?_) <;> (first | (exfalso; omega) | contradiction | skip)) | (refine d_cb (fun _ => ?_) (fun _ => ?_) <;> (first | (exfalso; omega) | contradiction | skip)) | refine d_exs ?_ | refine d_exn ?_) | (show (_ ∨ Subs _ _) ∧ _; first | refine d_sub ?_ | refine d_cov ?_) | (show RetP _ _ _ _ _ _ _ _; first | refine r_C1 ?_ | refine r_DC ?_) | assumption | intro _)
      all_goals first | (exfalso; contradiction) | exact q_drop h | trace_state
    | true =>
      by_cases hn : next ≤ 1099511627776
      · have hok := fun {y g2 v B Bo Bd M'} => rf_put (a := ⟨b, fr, n, p, true, came, L, next⟩) hr rfl hn (y := y) (e := x.c) (g2 := g2) (v := v) (B := B) (Bo := Bo) (Bd := Bd) (M' := M')
        have h := fun y r' => hK y r'
        unfold Ld.put at h
        rw [if_neg (by simpa using hm), if_neg (by simp), if_neg (by simp only; omega)] at h
        simp only at hok h
        have fin : ∀ (y1 y2 : EnR) (Bo1 Bd1 Bo2 Bd2 : Hp) (g2 : Nat) (v' : Value) (B' : Hp), y1.c = x.c → EnO y1 Bo1 Bd1 → y2.c = x.c → EnO y2 Bo2 Bd2 → SlO 114 58 v' (ls ++ [RsR.mk next y2 noV n g2]).length ((ls ++ [RsR.mk next y2 noV n g2]).map RsR.cells).flatten B' →
            K (.tuple #[slV ⟨next + 1 - 1, b, y1, Bo1, Bd1⟩, .int .i64 0]) (((([(d, cellsO (rfC b fr n g cv true (next + 1) v') 102)] ++ vbH p n g) ++ ((Cb ++ B') ++ ((rsH ls ++ [(g2, cellsO (List.replicate n [Value.bool false]).flatten 4)]) ++ ((Bo2 ++ Bd2) ++ M)))) ++ (Bo1 ++ Bd1)) ++ (P ++ F)) := by
          intro y1 y2 Bo1 Bd1 Bo2 Bd2 g2 v' B' hy1 hO1 hy2 hO2 hv
          have h9 := h ⟨next, b, y1, Bo1, Bd1⟩ ⟨g, cv, lc, Cb, v', ls ++ [⟨next, y2, noV, n, g2⟩], B', (Bo2 ++ Bd2) ++ M⟩ (by show Sl.mk _ _ _ = _; rw [hy1]) hO1 (hok hy2 hz hO2 (fun z hz => List.mem_append_left _ hz) (fun z hz => List.mem_append_right _ hz) hv)
          have hrs : rsH (ls ++ [RsR.mk next y2 noV n g2]) = rsH ls ++ [(g2, cellsO (List.replicate n [Value.bool false]).flatten 4)] := by rw [rsH_app, rep_vts]; rfl
          rw [show (RfR.mk g cv lc Cb v' (ls ++ [⟨next, y2, noV, n, g2⟩]) B' ((Bo2 ++ Bd2) ++ M)).hp ⟨b, fr, n, p, true, came, L ++ [⟨next, x.c, noV⟩], next + 1⟩ d = ([(d, cellsO (rfC b fr n g cv true (next + 1) v') 102)] ++ vbH p n g) ++ ((Cb ++ B') ++ (rsH (ls ++ [⟨next, y2, noV, n, g2⟩]) ++ ((Bo2 ++ Bd2) ++ M))) from rfl, hrs] at h9
          rw [show next + 1 - 1 = next by omega]
          exact h9
        have hx0 : fr ≤ next := hr.a.x0
        have hf0 : 0 ≤ fr := hr.a.f0
        clear h hok hr hK
        generalize rsH ls = X at *
        refine calls_body (N := 65) (args := [pv d, .agg x.cells.toArray]) Try.func14 rfl rfl rfl (by simp) ?_
        repeat' (first | (refine fork_mk ?_ ?_) | (show wpD _ _ _ _ (16 :: _) _ _ _; refine d_rdp ?_ (hr := by (apply rd_buildE; (repeat (first | exact EvP.nil | (apply EvP.cons; (conv => lhs; whnf)))); exact bld114 _ _ _ _; exact rfl; done))) | refine r_C1 ?_ | (show wpO _ _ _ _ _ _ _; first | refine wpO_nil ?_ | (show wpO _ _ _ (⟨_, .binOp _ _ _ _ _, _, _, _, _⟩ :: _) _ _ _; first | refine s_tt ?_ | refine s_ff ?_ | refine s_rdp ?_ | (refine s_cmp (fun _ => ?_) (fun _ => ?_) <;> (first | (exfalso; omega) | contradiction | skip)) | (refine s_cb (fun _ => ?_) (fun _ => ?_) <;> (first | (exfalso; omega) | contradiction | skip))) | refine s_rdp ?_ | refine s_rdm ?_ | refine s_exq ?_ | refine s_exm ?_) | (show Ex _ _ _ _ _; first | (refine e_mk99 (n := n) (fun _ => ?_) (by exact rfl) n5) | (refine e_append (bytes := 536) ?_ (hbytes := by omega); intro _ _ _) | (show Ex _ ⟨_, .call ⟨.value (.func _), _, _⟩, _, _, _, _⟩ _ _ _; refine e_call ?_; first | (apply p_pcs; apply rmayEntry _ hx hln; (try case hS => assumption); (case hpcs => (repeat (first | exact Pcs.blk (by infer_instance) | exact Pcs.nil | (apply Pcs.cons; infer_instance) | apply Pcs.app)))) | (apply p_pcs; apply rclone_spec _ hx hz; (try case hS => assumption); (case hpcs => (repeat (first | exact Pcs.blk (by infer_instance) | exact Pcs.nil | (apply Pcs.cons; infer_instance) | apply Pcs.app))))) | (show Ex _ ⟨_, .alloc _, _, _, _, _⟩ _ _ _; first | (refine e_allocA ?_; intro _) | (refine e_alloc1 ?_; intro _)) | (show Ex _ ⟨_, .box _ _, _, _, _, _⟩ _ _ _; first | (refine e_boxA ?_; intro _) | (refine e_box1 ?_; intro _)) | (show Ex _ ⟨_, .store _ _ _, _, _, _, _⟩ _ _ _; first | refine e_store1 ?_ | refine e_storeA ?_ | (refine e_storeO ?_; intro _ _)) | (show Ex _ ⟨_, .buildSlice _ _ _, _, _, _, _⟩ _ _ _; first | (refine e_buildSlice ?_; intro _) | (refine e_buildNil ?_; intro _ _ _)) | (show Ex _ ⟨_, .call ⟨.builtin .append, _, _⟩, _, _, _, _⟩ _ _ _; (first | refine e_append ?_ | refine e_appendIn ?_); intro _ _ _)) | (show wpC _ _ _ _ _ _; first | refine wpC_seq ?_ | refine wpC_region ?_ | refine c_true ?_ | refine c_false ?_ | (refine c_b (fun _ => ?_) (fun _ => ?_) <;> (first | (exfalso; omega) | contradiction | skip)) | refine wpC_block ?_ | refine wpC_ret ?_ | refine wpC_skip ?_ | refine wpC_label ?_ | (apply wpC_drawF (id := 7) [102, 41] [0, 1, 2, 3, 4, 5, 6, 7, 8, 9, 11, 12, 13, 14] 10 15 [15, 16, 17, 18, 19, 20, 21] [10, 16, 17, 18, 19, 20, 21] rfl (by kernel_rfl); infer_instance) | (apply wpC_drawK (id := 9) [102, 41] [0, 1, 2, 3, 4, 5, 6, 7, 8, 9, 10, 11, 12, 13] rfl (by kernel_rfl); infer_instance)) | (show Then _ _ _ _ _ _ _; first | refine then_normal ?_ | refine then_ret ?_) | (show InBlock _ _ _ _ _ _; first | refine inBlock_normal ?_ | refine inBlock_ret ?_ | refine inBlock_same ?_ | refine b_other ?_) | (show wpD _ _ _ _ _ _ _ _; first | refine wpD_nil ?_ | refine d_rdp ?_ | refine d_rdm ?_ | refine d_tt ?_ | refine d_ff ?_ | (refine d_cmp (fun _ => ?_) (fun _ => ?_) <;> (first | (exfalso; omega) | contradiction | skip)) | (refine d_cb (fun _ => ?_) (fun _ => ?_) <;> (first | (exfalso; omega) | contradiction | skip)) | refine d_exs ?_ | refine d_exn ?_) | (show (_ ∨ Subs _ _) ∧ _; first | refine d_sub ?_ | refine d_cov ?_) | (show RetP _ _ _ _ _ _ _ _; first | refine r_C1 ?_ | refine r_DC ?_) | assumption | intro _)
        all_goals first | (exfalso; contradiction) | (exfalso; omega) | skip
        · rename_i y2 hy2 Bo2 Bd2 hO2 g2 bx v' B' hv' y1 hy1 Bo1 Bd1 hO1
          have hv' : SlO 114 58 v' (ls ++ [RsR.mk next y2 noV n g2]).length ((ls ++ [RsR.mk next y2 noV n g2]).map RsR.cells).flatten B' := hv'.cast (by simp) (by simp)
          exact q_drop (fin y1 y2 Bo1 Bd1 Bo2 Bd2 g2 v' B' hy1 hO1 hy2 hO2 hv')
        · rename_i g2 y2 hy2 Bo2 Bd2 hO2 bx v' B' hv' y1 hy1 Bo1 Bd1 hO1
          have hv' : SlO 114 58 v' (ls ++ [RsR.mk next y2 noV n g2]).length ((ls ++ [RsR.mk next y2 noV n g2]).map RsR.cells).flatten B' := hv'.cast (by simp) (by simp)
          exact q_drop (fin y1 y2 Bo1 Bd1 Bo2 Bd2 g2 v' B' hy1 hO1 hy2 hO2 hv')
      · have h := hK zeroSlr ⟨g, cv, lc, Cb, sv, ls, Sb, M⟩
        unfold Ld.put at h
        rw [if_neg (by simpa using hm), if_neg (by simp), if_pos (by simp only; omega)] at h
        have h : K (.tuple #[slV zeroSlr, .int .i64 3]) (((([(d, cellsO (rfC b fr n g cv true next sv) 102)] ++ vbH p n g) ++ ((Cb ++ Sb) ++ (rsH ls ++ M))) ++ ([] ++ [])) ++ (P ++ F)) := h rfl zeroSlr_ok hr
        generalize rsH ls = X at *
        refine calls_body (N := 65) (args := [pv d, .agg x.cells.toArray]) Try.func14 rfl rfl rfl (by simp) ?_
        repeat' (first | refine r_C1 ?_ | (show wpO _ _ _ _ _ _ _; first | refine wpO_nil ?_ | (show wpO _ _ _ (⟨_, .binOp _ _ _ _ _, _, _, _, _⟩ :: _) _ _ _; first | refine s_tt ?_ | refine s_ff ?_ | refine s_rdp ?_ | (refine s_cmp (fun _ => ?_) (fun _ => ?_) <;> (first | (exfalso; omega) | contradiction | skip)) | (refine s_cb (fun _ => ?_) (fun _ => ?_) <;> (first | (exfalso; omega) | contradiction | skip))) | refine s_rdp ?_ | refine s_rdm ?_ | refine s_exq ?_ | refine s_exm ?_) | (show Ex _ _ _ _ _; first | (show Ex _ ⟨_, .call ⟨.value (.func _), _, _⟩, _, _, _, _⟩ _ _ _; refine e_call ?_; first | (apply p_pcs; apply rmayEntry _ hx hln; (try case hS => assumption); (case hpcs => (repeat (first | exact Pcs.blk (by infer_instance) | exact Pcs.nil | (apply Pcs.cons; infer_instance) | apply Pcs.app))))) | (show Ex _ ⟨_, .alloc _, _, _, _, _⟩ _ _ _; first | (refine e_allocA ?_; intro _) | (refine e_alloc1 ?_; intro _)) | (show Ex _ ⟨_, .box _ _, _, _, _, _⟩ _ _ _; first | (refine e_boxA ?_; intro _) | (refine e_box1 ?_; intro _)) | (show Ex _ ⟨_, .store _ _ _, _, _, _, _⟩ _ _ _; first | refine e_store1 ?_ | refine e_storeA ?_ | (refine e_storeO ?_; intro _ _)) | (show Ex _ ⟨_, .buildSlice _ _ _, _, _, _, _⟩ _ _ _; first | (refine e_buildSlice ?_; intro _) | (refine e_buildNil ?_; intro _ _ _)) | (show Ex _ ⟨_, .call ⟨.builtin .append, _, _⟩, _, _, _, _⟩ _ _ _; (first | refine e_append ?_ | refine e_appendIn ?_); intro _ _ _)) | (show wpC _ _ _ _ _ _; first | refine wpC_seq ?_ | refine wpC_region ?_ | refine c_true ?_ | refine c_false ?_ | (refine c_b (fun _ => ?_) (fun _ => ?_) <;> (first | (exfalso; omega) | contradiction | skip)) | refine wpC_block ?_ | refine wpC_ret ?_ | refine wpC_skip ?_ | refine wpC_label ?_ | (apply wpC_drawX (id := 9) ([]) [0, 1, 2, 3, 4, 5, 6, 7, 8, 9, 10, 11, 12, 13] rfl (by kernel_rfl); (case hpk => (repeat (first | exact Pcs.blk (by infer_instance) | exact Pcs.nil | (apply Pcs.cons; infer_instance) | apply Pcs.app))))) | (show Then _ _ _ _ _ _ _; first | refine then_normal ?_ | refine then_ret ?_) | (show InBlock _ _ _ _ _ _; first | refine inBlock_normal ?_ | refine inBlock_ret ?_ | refine inBlock_same ?_ | refine b_other ?_) | (show wpD _ _ _ _ _ _ _ _; first | refine wpD_nil ?_ | refine d_rdp ?_ | refine d_rdm ?_ | refine d_tt ?_ | refine d_ff ?_ | (refine d_cmp (fun _ => ?_) (fun _ => ?_) <;> (first | (exfalso; omega) | contradiction | skip)) | (refine d_cb (fun _ => ?_) (fun _ => ?_) <;> (first | (exfalso; omega) | contradiction | skip)) | refine d_exs ?_ | refine d_exn ?_) | (show (_ ∨ Subs _ _) ∧ _; first | refine d_sub ?_ | refine d_cov ?_) | (show RetP _ _ _ _ _ _ _ _; first | refine r_C1 ?_ | refine r_DC ?_) | assumption | intro _)
        all_goals first | (exfalso; contradiction) | (exfalso; omega) | exact q_drop h | trace_state
  · have h := hK zeroSlr ⟨g, cv, lc, Cb, sv, ls, Sb, M⟩
    unfold Ld.put at h
    rw [if_pos hm] at h
    have h : K (.tuple #[slV zeroSlr, .int .i64 40]) (((([(d, cellsO (rfC b fr n g cv ready next sv) 102)] ++ vbH p n g) ++ ((Cb ++ Sb) ++ (rsH ls ++ M))) ++ ([] ++ [])) ++ (P ++ F)) := h rfl zeroSlr_ok hr
    generalize rsH ls = X at *
    refine calls_body (N := 65) (args := [pv d, .agg x.cells.toArray]) Try.func14 rfl rfl rfl (by simp) ?_
    repeat' (first | refine r_C1 ?_ | (show wpO _ _ _ _ _ _ _; first | refine wpO_nil ?_ | (show wpO _ _ _ (⟨_, .binOp _ _ _ _ _, _, _, _, _⟩ :: _) _ _ _; first | refine s_tt ?_ | refine s_ff ?_ | refine s_rdp ?_ | (refine s_cmp (fun _ => ?_) (fun _ => ?_) <;> (first | (exfalso; omega) | contradiction | skip)) | (refine s_cb (fun _ => ?_) (fun _ => ?_) <;> (first | (exfalso; omega) | contradiction | skip))) | refine s_rdp ?_ | refine s_rdm ?_ | refine s_exq ?_ | refine s_exm ?_) | (show Ex _ _ _ _ _; first | (show Ex _ ⟨_, .call ⟨.value (.func _), _, _⟩, _, _, _, _⟩ _ _ _; refine e_call ?_; first | (apply p_pcs; apply rmayEntry _ hx hln; (try case hS => assumption); (case hpcs => (repeat (first | exact Pcs.blk (by infer_instance) | exact Pcs.nil | (apply Pcs.cons; infer_instance) | apply Pcs.app))))) | (show Ex _ ⟨_, .alloc _, _, _, _, _⟩ _ _ _; first | (refine e_allocA ?_; intro _) | (refine e_alloc1 ?_; intro _)) | (show Ex _ ⟨_, .box _ _, _, _, _, _⟩ _ _ _; first | (refine e_boxA ?_; intro _) | (refine e_box1 ?_; intro _)) | (show Ex _ ⟨_, .store _ _ _, _, _, _, _⟩ _ _ _; first | refine e_store1 ?_ | refine e_storeA ?_ | (refine e_storeO ?_; intro _ _)) | (show Ex _ ⟨_, .buildSlice _ _ _, _, _, _, _⟩ _ _ _; first | (refine e_buildSlice ?_; intro _) | (refine e_buildNil ?_; intro _ _ _)) | (show Ex _ ⟨_, .call ⟨.builtin .append, _, _⟩, _, _, _, _⟩ _ _ _; (first | refine e_append ?_ | refine e_appendIn ?_); intro _ _ _)) | (show wpC _ _ _ _ _ _; first | refine wpC_seq ?_ | refine wpC_region ?_ | refine c_true ?_ | refine c_false ?_ | (refine c_b (fun _ => ?_) (fun _ => ?_) <;> (first | (exfalso; omega) | contradiction | skip)) | refine wpC_block ?_ | refine wpC_ret ?_ | refine wpC_skip ?_ | refine wpC_label ?_ | (apply wpC_drawX (id := 9) ([]) [0, 1, 2, 3, 4, 5, 6, 7, 8, 9, 10, 11, 12, 13] rfl (by kernel_rfl); (case hpk => (repeat (first | exact Pcs.blk (by infer_instance) | exact Pcs.nil | (apply Pcs.cons; infer_instance) | apply Pcs.app))))) | (show Then _ _ _ _ _ _ _; first | refine then_normal ?_ | refine then_ret ?_) | (show InBlock _ _ _ _ _ _; first | refine inBlock_normal ?_ | refine inBlock_ret ?_ | refine inBlock_same ?_ | refine b_other ?_) | (show wpD _ _ _ _ _ _ _ _; first | refine wpD_nil ?_ | refine d_rdp ?_ | refine d_rdm ?_ | refine d_tt ?_ | refine d_ff ?_ | (refine d_cmp (fun _ => ?_) (fun _ => ?_) <;> (first | (exfalso; omega) | contradiction | skip)) | (refine d_cb (fun _ => ?_) (fun _ => ?_) <;> (first | (exfalso; omega) | contradiction | skip)) | refine d_exs ?_ | refine d_exn ?_) | (show (_ ∨ Subs _ _) ∧ _; first | refine d_sub ?_ | refine d_cov ?_) | (show RetP _ _ _ _ _ _ _ _; first | refine r_C1 ?_ | refine r_DC ?_) | assumption | intro _)
    all_goals first | (exfalso; contradiction) | exact q_drop h | trace_state
end Go.Vl

namespace Go.Vl
theorem flat_putL {n : Nat} : ∀ {vs : List Value} {rows : List (List Value)} {i j : Nat} {r : List Value}, j + vs.length ≤ n → (∀ r ∈ rows, r.length = n) → rows[i]? = some r → putL rows.flatten (i * n + j) vs = (rows.set i (putL r j vs)).flatten
  | [], rows, i, j, r, _, _, hi => by
    show rows.flatten = (rows.set i r).flatten
    obtain ⟨h1, rfl⟩ := List.getElem?_eq_some_iff.1 hi
    rw [List.set_getElem_self]
  | v :: vs, rows, i, j, r, hj, hl, hi => by
    have hj : j + (vs.length + 1) ≤ n := hj
    have hlt := (List.getElem?_eq_some_iff.1 hi).1
    show putL (rows.flatten.set (i * n + j) v) (i * n + j + 1) vs = (rows.set i (putL (r.set j v) (j + 1) vs)).flatten
    rw [flat_set (by omega) hl hi, Nat.add_assoc, flat_putL (vs := vs) (rows := rows.set i (r.set j v)) (i := i) (j := j + 1) (r := r.set j v) (by omega) (set_lens hl (by rw [List.length_set]; exact hl r (List.mem_of_getElem? hi))) (List.getElem?_set_self hlt), List.set_set]
section
variable {C : Cx} {ρ : Fr} {H : Hp} {d : Option Nat} {ty : TypeId} {pos : String} {af : Array Edge} {K : Value → Hp → Prop}
theorem e_storeFA {t g n cap i j sz : Nat} {x y : Operand} {vs : List Value} {cur : Array Value} {rows : List (List Value)} {r : List Value} {T : TypeId} {f : Obj → Hp} {gd : Option (Nat × Bool)} (h : ∀ cur', SlO T sz (.slice (some ⟨g, 0, none⟩) n cap) n (rows.set i (putL r j vs)).flatten [(g, .cells cur' T (0, 0))] → K undef (f (.cells cur' T (0, 0))))
    (hx : ev ρ x = .pointer (some ⟨g, 0 + i * sz + j, none⟩)) (hy : ev ρ y = .agg vs.toArray) (hs : Go.Vl.sz C.P t = some vs.length) (ho : ones vs = true)
    (hS : SlO T sz (.slice (some ⟨g, 0, none⟩) n cap) n rows.flatten [(g, .cells cur T (0, 0))]) (hri : rows[i]? = some r) (hl : ∀ r ∈ rows, r.length = sz) (hj : j + vs.length ≤ sz) (h0 : 0 < sz) (hz : Zp H g (.cells cur T (0, 0)) f) : Ex C ⟨d, .store t x y, ty, pos, af, gd⟩ K ρ H := by
  have hilt := (List.getElem?_eq_some_iff.1 hri).1
  have hfl := flat_len hl
  rcases hS with ⟨hlen, ⟨a, ha, hn, _⟩ | ⟨g', cap', cur', hv, hB, hn, hc, hcs, ht⟩⟩
  · subst hn
    rw [hfl] at hlen
    have h1 : rows.length = 0 := by
      rcases Nat.eq_zero_or_pos rows.length with h0' | h0'
      · exact h0'
      · have := Nat.mul_pos h0' h0; omega
    omega
  · simp only [Value.slice.injEq, Option.some.injEq, Addr.mk.injEq, and_true, true_and] at hv
    obtain ⟨rfl, rfl⟩ := hv
    simp only [List.cons.injEq, Prod.mk.injEq, Obj.cells.injEq, and_true, true_and] at hB
    subst hB
    have hz' : Zip H g (cellsO cur.toList T) f := by simpa [cellsO] using hz.zip
    have hp : i * sz + (j + vs.length) ≤ n * sz := by
      have h1 : (i + 1) * sz ≤ rows.length * sz := Nat.mul_le_mul_right _ hilt
      rw [Nat.succ_mul] at h1
      omega
    have hcap : n * sz ≤ cap * sz := Nat.mul_le_mul_right _ hn
    have hcl : cur.toList.length = cur.size := Array.length_toList
    refine ex_storeA hx hy hs ho hz' (by simp [Nat.ble_eq]; omega) rfl ?_
    refine h (putL cur.toList (0 + i * sz + j) vs).toArray ⟨?_, .inr ⟨g, cap, _, rfl, rfl, hn, hc, ?_, ?_⟩⟩
    · rw [← flat_putL hj hl hri, putL_length]; exact hlen
    · rw [List.size_toArray, putL_length, hcl]; exact hcs
    · rw [← flat_putL hj hl hri, ← ht, List.toList_toArray, Nat.zero_add]
      have key : ∀ (vs l : List Value) (o m : Nat), (putL l o vs).take m = putL (l.take m) o vs := by
        intro vs
        induction vs with
        | nil => intro l o m; rfl
        | cons v vs ih =>
          intro l o m
          show (putL (l.set o v) (o + 1) vs).take m = putL ((l.take m).set o v) (o + 1) vs
          rw [ih, List.take_set]
      exact key vs _ _ _
theorem e_storeW {t g n cap i j sz : Nat} {x y : Operand} {u : Value} {cur : Array Value} {xs : List Value} {T : TypeId} {f : Obj → Hp} {gd : Option (Nat × Bool)} (h : ∀ cur' xs', SlO T sz (.slice (some ⟨g, 0, none⟩) n cap) n xs' [(g, .cells cur' T (0, 0))] → K undef (f (.cells cur' T (0, 0))))
    (hx : ev ρ x = .pointer (some ⟨g, 0 + i * sz + j, none⟩)) (hy : ev ρ y = u) (hs : Go.Vl.sz C.P t = some 1) (ho : u.oneCell' = true)
    (hS : SlO T sz (.slice (some ⟨g, 0, none⟩) n cap) n xs [(g, .cells cur T (0, 0))]) (hi : i < n) (hj : j < sz) (hz : Zp H g (.cells cur T (0, 0)) f) : Ex C ⟨d, .store t x y, ty, pos, af, gd⟩ K ρ H := by
  rcases hS with ⟨hlen, ⟨a, ha, hn, _⟩ | ⟨g', cap', cur', hv, hB, hn, hc, hcs, ht⟩⟩
  · omega
  · simp only [Value.slice.injEq, Option.some.injEq, Addr.mk.injEq, and_true, true_and] at hv
    obtain ⟨rfl, rfl⟩ := hv
    simp only [List.cons.injEq, Prod.mk.injEq, Obj.cells.injEq, and_true, true_and] at hB
    subst hB
    have hz' : Zip H g (cellsO cur.toList T) f := by simpa [cellsO] using hz.zip
    have hp : i * sz + sz ≤ n * sz := by
      have h1 : (i + 1) * sz ≤ n * sz := Nat.mul_le_mul_right _ hi
      rwa [Nat.succ_mul] at h1
    have hcap : n * sz ≤ cap * sz := Nat.mul_le_mul_right _ hn
    have hcl : cur.toList.length = cur.size := Array.length_toList
    refine ex_store1 hx hy hs ho hz' (by simp [Nat.ble_eq]; omega) rfl ?_
    refine h (cur.toList.set (0 + i * sz + j) u).toArray ((cur.toList.set (0 + i * sz + j) u).take (n * sz)) ⟨?_, .inr ⟨g, cap, _, rfl, rfl, hn, hc, ?_, ?_⟩⟩
    · rw [List.length_take, List.length_set]; omega
    · rw [List.size_toArray, List.length_set, hcl]; exact hcs
    · simp
end
end Go.Vl

namespace Go.Vl
open Go.Proofs Classical
structure StR where
  b : Bal
  fr : Int
  n : Int
abbrev StR.cells (s : StR) : List Value := [.int .i64 s.b.r, .int .i64 s.b.p, .int .i64 s.fr, .int .i64 s.n]
set_option maxHeartbeats 4000000 in
set_option maxRecDepth 100000 in
theorem info51 : ∃ i, Try.prog.info? 51 = some i ∧ i.zero = some (.agg zeroSlr.cells.toArray) ∧ i.size = 59 ∧ i.bytes = 528 := by
  have h1 : (Try.prog.info? 51).bind (fun i => i.zero) = some (.agg zeroSlr.cells.toArray) := by kernel_rfl
  have h2 : (Try.prog.info? 51).map (fun i => (i.size, i.bytes)) = some (59, 528) := by kernel_rfl
  cases h : Try.prog.info? 51 with
  | none => rw [h] at h2; cases h2
  | some i =>
    rw [h] at h1 h2
    simp only [Option.map_some, Option.some.injEq, Prod.mk.injEq] at h2
    exact ⟨i, rfl, h1, h2.1, h2.2⟩
section
variable {N : Nat} {rr : Option Nat} {e : World} {ρ : Fr} {H : Hp} {d : Option Nat} {ty : TypeId} {pos : String} {af : Array Edge} {g : Option (Nat × Bool)} {K : Value → Hp → Prop}
set_option maxHeartbeats 4000000 in
set_option maxRecDepth 100000 in
theorem e_mk51 {x : Operand} {n : Nat} (h : ∀ b, K (.slice (some ⟨b, 0, none⟩) n n) ((b, cellsO (List.replicate n zeroSlr.cells).flatten 51) :: H)) (hx : ev ρ x = .int .i64 (n : Int)) (hn : n * 528 ≤ 140737488355328) : Ex ⟨Try.prog, N, rr, e⟩ ⟨d, .makeSlice 26 x x, ty, pos, af, g⟩ K ρ H := by
  obtain ⟨i, h1, h2, h3, h4⟩ := info51
  exact e_makeSlice (el := 51) h hx (by kernel_rfl) h1 h2 h3 (by decide) (by rw [h4]; omega) (by omega)
end
set_option maxHeartbeats 4000000 in
set_option maxRecDepth 100000 in
theorem rep_SlO {n : Nat} (hn : n * 528 ≤ 140737488355328) (b : Nat) : SlO 51 59 (.slice (some ⟨b, 0, none⟩) n n) n (List.replicate n zeroSlr.cells).flatten [(b, cellsO (List.replicate n zeroSlr.cells).flatten 51)] := by
  have hl : ((List.replicate n zeroSlr.cells).flatten).length = n * 59 := by rw [flat_len (n := 59) (fun r hr => by rw [(List.mem_replicate.1 hr).2]; rfl), List.length_replicate]
  refine ⟨hl, .inr ⟨b, n, _, rfl, rfl, Nat.le_refl _, by unfold maxLen; omega, ?_, ?_⟩⟩
  · rw [List.size_toArray, hl]; exact Nat.le_refl _
  · rw [List.toList_toArray, List.take_of_length_le (by rw [hl]; exact Nat.le_refl _)]
set_option maxHeartbeats 4000000 in
set_option maxRecDepth 100000 in
theorem slr_put (s : Int) (b : Bal) (e y : EnR) (Bo Bd : Hp) : putL (SlR.mk s b e [] []).cells 3 y.cells = (SlR.mk s b y Bo Bd).cells := by kernel_rfl
/-! a leader's entries stay few -/
def Few (a : Ld) : Prop := a.next ≤ a.fr + 4097
set_option maxHeartbeats 4000000 in
set_option maxRecDepth 100000 in
theorem few_begin {a : Ld} (ha : a.ok) (hnx : a.next = a.fr) : (beginA a).next ≤ a.fr + 4097 := by
  have hl := isLast_lastS a.fr a.came
  show a.next + (a.more : Int) ≤ _
  unfold Ld.more
  rcases hl.at_ with g | ⟨p, hp, g⟩
  · omega
  · have := ha.key p hp; omega
set_option maxHeartbeats 4000000 in
set_option maxRecDepth 100000 in
theorem few_promise {a : Ld} (ha : a.ok) (h : Few a) (k : Int) (l : List Sl) : Few (a.promise k l).2 ∧ (a.promise k l).2.fr = a.fr := by
  unfold Ld.promise
  split
  · exact ⟨h, rfl⟩
  · split
    · exact ⟨h, rfl⟩
    · rename_i h1 hw
      have hw : a.wrong l = 0 := Classical.not_not.1 hw
      split
      · exact ⟨h, rfl⟩
      · split
        · exact ⟨h, rfl⟩
        · rename_i hrd
          have hrd : a.ready = false := by simpa using hrd
          split
          · exact ⟨few_begin (a := { a with p := setv a.p k.toNat, came := l.foldl best1 a.came }) (ok_came ha _ hw) (ha.idle hrd).2, rfl⟩
          · exact ⟨h, rfl⟩
set_option maxHeartbeats 4000000 in
set_option maxRecDepth 100000 in
theorem few_len {a : Ld} (ha : a.ok) {m : Nat} (h : a.next ≤ a.fr + (m : Int)) : a.L.length ≤ m := by
  have h1 : (a.L.map Ol.slot).Nodup := by
    have := ha.srt
    rw [List.Nodup, List.pairwise_map]
    exact this.imp fun g => Int.ne_of_lt g
  have := nod_len m (a.L.map Ol.slot) a.fr h1 fun s hs => by
    obtain ⟨x, hx, rfl⟩ := List.mem_map.1 hs
    have h2 := ha.sl x hx
    omega
  rwa [List.length_map] at this
set_option maxHeartbeats 4000000 in
set_option maxRecDepth 100000 in
theorem put_len (a : Ld) (e : EnC) : (a.put e).2.L.length ≤ a.L.length + 1 := by
  unfold Ld.put
  split
  · exact Nat.le_succ _
  · split
    · exact Nat.le_succ _
    · split
      · exact Nat.le_succ _
      · simp
attribute [local irreducible] eqW eqV wpC wpO wpD Ex Rd callsK RetP Drop valK
set_option maxHeartbeats 4000000 in
set_option maxRecDepth 100000 in
theorem ppromiseC (e : World) {a : Ld} {d : Nat} {r : LdR} {ls : List SlR} {cs : List Sl} {v : Value} {k : Int} {I F : Hp} {K : Value → Hp → Prop} (hr : r.ok a) (hL : LsIn I ls v) (hc : ls.map SlR.c = cs)
    (hK : ∀ r' : LdR, r'.ok (a.promise k cs).2 → K (.tuple #[.bool (a.promise k cs).1.1, .int .i64 (a.promise k cs).1.2]) ((r'.hp (a.promise k cs).2 d ++ I) ++ F)) :
    callsK Try.prog e 11 #[pv d, .int .i64 k, v] ((r.hp a d ++ I) ++ F) K := by
  subst hc
  exact ppromise e hr hL hK
set_option maxHeartbeats 4000000 in
set_option maxRecDepth 100000 in
theorem pputC (e : World) {a : Ld} {d : Nat} {r : LdR} {x : EnR} {c : EnC} {P F : Hp} {K : Value → Hp → Prop} (hr : r.ok a) (hx : EnIn P x) (hz : EnSz x.c) (hc : x.c = c)
    (hK : ∀ (y : SlR) (r' : LdR), y.c = (a.put c).1.1 → y.ok → r'.ok (a.put c).2 → K (.tuple #[slV y, .int .i64 (a.put c).1.2]) (((r'.hp (a.put c).2 d ++ y.hp) ++ P) ++ F)) :
    callsK Try.prog e 13 #[pv d, .agg x.cells.toArray] ((r.hp a d ++ P) ++ F) K := by
  subst hc
  rw [List.append_assoc]
  exact pput e hr hx hz fun y r' h1 h2 h3 => by
    rw [← List.append_assoc]
    exact hK y r' h1 h2 h3
set_option maxHeartbeats 4000000 in
set_option maxRecDepth 100000 in
theorem rputC (e : World) {a : Ld} {d : Nat} {r : RfR} {x : EnR} {P F : Hp} {K : Value → Hp → Prop} (hr : r.ok a) (hx : EnIn P x) (hz : EnSz x.c) (hlen : a.L.length * 536 + 536 ≤ 140737488355328)
    (hK : ∀ (y : SlR) (r' : RfR), y.c = (a.put x.c).1.1 → y.ok → r'.ok (a.put x.c).2 → K (.tuple #[slV y, .int .i64 (a.put x.c).1.2]) (((r'.hp (a.put x.c).2 d ++ y.hp) ++ P) ++ F)) :
    callsK Try.prog e 14 #[pv d, .agg x.cells.toArray] ((r.hp a d ++ P) ++ F) K := by
  rw [List.append_assoc]
  exact rput e hr hx hz hlen fun y r' h1 h2 h3 => by
    rw [← List.append_assoc]
    exact hK y r' h1 h2 h3
set_option maxHeartbeats 4000000 in
set_option maxRecDepth 100000 in
theorem pwaitingC (e : World) {a : Ld} {d : Nat} {r : LdR} {F : Hp} {K : Value → Hp → Prop} (hr : r.ok a) (hl : a.L.length * 528 ≤ 140737488355328)
    (hK : ∀ v Bs ls, ls.map SlR.c = a.waits → (∀ s ∈ ls, s.ok ∧ EnSz s.en.c) → SlO 51 59 v ls.length (ls.map SlR.cells).flatten Bs → ls.length ≤ a.L.length → K v ((Bs ++ acH ls) ++ (r.hp a d ++ F))) :
    callsK Try.prog e 15 #[pv d] (r.hp a d ++ F) K :=
  pwaiting e hr hl fun v Bs ls h1 h2 h3 => hK v Bs ls h1 (fun s hs => ⟨h2 s hs, by
    have h4 : s.c ∈ a.waits := by rw [← h1]; exact List.mem_map.2 ⟨s, hs, rfl⟩
    obtain ⟨x, hx, h5⟩ := List.mem_map.1 h4
    have hx := (List.mem_filter.1 hx).1
    rw [← hr.L] at hx
    obtain ⟨z, hz, rfl⟩ := List.mem_map.1 hx
    rw [← show z.en.c = s.en.c from congrArg Sl.en h5]
    exact (hr.li z hz).2⟩) h3 (by
    have h6 := congrArg List.length h1
    rw [List.length_map] at h6
    rw [h6]
    unfold Ld.waits
    rw [List.length_map]
    exact List.length_filter_le _ _)
end Go.Vl
