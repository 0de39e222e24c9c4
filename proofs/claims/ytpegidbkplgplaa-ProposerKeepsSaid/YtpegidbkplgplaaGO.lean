/-
  The slots that wait.
-/
import Derived.Test.YtpegidbkplgplaaGN
import Derived.Test.YtpegidbkplgplaaTki
namespace Go.Vl
open Go.Proofs Classical
set_option maxHeartbeats 4000000 in
set_option maxRecDepth 100000 in
theorem ints_same {ks ws : List Int} (hp : ks.Perm ws) (hk : ks.Pairwise (· ≤ ·)) (hw : ws.Pairwise (· < ·)) : ks = ws := by
  refine List.Perm.eq_of_pairwise (le := fun a b : Int => a ≤ b) ?_ hk (hw.imp fun h => Int.le_of_lt h) hp
  intro a b _ _ h1 h2
  omega
structure LiS where
  i : Nat
  v : Value
  Bs : Hp
  ls : List SlR
def waitsN (a : Ld) (n : Nat) : List Sl := ((a.L.take n).filter fun x => !x.ch a.n).map fun x => ⟨x.slot, a.b, x.en⟩
set_option maxHeartbeats 4000000 in
set_option maxRecDepth 100000 in
theorem waitsN_all {a : Ld} {n : Nat} (h : a.L.length ≤ n) : waitsN a n = a.waits := by unfold waitsN Ld.waits; rw [List.take_of_length_le h]
set_option maxHeartbeats 4000000 in
set_option maxRecDepth 100000 in
theorem waitsN_len (a : Ld) (n : Nat) : (waitsN a n).length ≤ n := by
  unfold waitsN
  rw [List.length_map]
  exact Nat.le_trans (List.length_filter_le _ _) (by rw [List.length_take]; omega)
set_option maxHeartbeats 4000000 in
set_option maxRecDepth 100000 in
theorem lo_at {r : LdR} {a : Ld} (hr : r.ok a) {i : Nat} {x : Opn} (hx : r.lo[i]? = some x) : a.L[i]? = some x.c := by rw [← hr.L, List.getElem?_map, hx]; rfl
set_option maxHeartbeats 4000000 in
set_option maxRecDepth 100000 in
theorem lo_ch {r : LdR} {a : Ld} (hr : r.ok a) {x : Opn} (hx : x ∈ r.lo) : x.ch = x.c.ch a.n := hr.ch x hx
set_option maxHeartbeats 4000000 in
set_option maxRecDepth 100000 in
theorem lo_keys {r : LdR} {a : Ld} (hr : r.ok a) : (r.lo.map fun x => x.slot).Pairwise (· < ·) := by
  have := hr.a.srt
  rw [← hr.L, List.pairwise_map] at this
  exact List.pairwise_map.2 this
set_option maxHeartbeats 4000000 in
set_option maxRecDepth 100000 in
theorem lo_get {r : LdR} {a : Ld} (hr : r.ok a) {x : Opn} (hx : x ∈ r.lo) : aget (r.lo.map fun x => (x.slot, x.o)) x.slot = some x.o := by
  refine aget_of_mem ?_ (List.mem_map.2 ⟨x, hx, rfl⟩)
  have : (r.lo.map fun x => x.slot).Nodup := (lo_keys hr).imp (fun h => Int.ne_of_lt h)
  simpa [Function.comp_def] using this
attribute [local irreducible] eqW eqV wpC wpO wpD Ex Rd callsK RetP Drop valK
set_option maxHeartbeats 4000000 in
set_option maxRecDepth 100000 in
theorem pwaiting (e : World) {a : Ld} {d : Nat} {r : LdR} {F : Hp} {K : Value → Hp → Prop} (hr : r.ok a) (hl : a.L.length * 528 ≤ 140737488355328)
    (hK : ∀ v Bs ls, ls.map SlR.c = a.waits → (∀ s ∈ ls, s.ok) → SlO 51 59 v ls.length (ls.map SlR.cells).flatten Bs → K v ((Bs ++ acH ls) ++ (r.hp a d ++ F))) :
    callsK Try.prog e 15 #[pv d] (r.hp a d ++ F) K := by
  have hM := hr.open_
  have hlen : r.lo.length = a.L.length := by rw [← hr.L, List.length_map]
  have hll : (r.lo.map fun x => (x.slot, x.o)).length = a.L.length := by rw [List.length_map, hlen]
  refine calls_body (N := 47) (args := [pv d]) Try.func15 rfl rfl rfl (by simp) ?_
  repeat' ((fail_if_success (show wpC _ (.loop _) _ _ _ _)); first | (show wpO _ _ _ _ _ _ _; first | refine wpO_nil ?_ | (show wpO _ _ _ (⟨_, .binOp _ _ _ _ _, _, _, _, _⟩ :: _) _ _ _; first | refine s_tt ?_ | refine s_ff ?_ | refine s_rdp ?_ | (refine s_cmp (fun _ => ?_) (fun _ => ?_) <;> (first | (exfalso; omega) | contradiction | skip)) | (refine s_cb (fun _ => ?_) (fun _ => ?_) <;> (first | (exfalso; omega) | contradiction | skip))) | (show wpO _ _ _ (⟨_, .lookup _ _ _ _, _, _, _, _⟩ :: _) _ _ _; first | refine s_rdm ?_ | refine s_look (fun _ _ => ?_) (fun _ => ?_)) | (show wpO _ _ _ (⟨_, .indexAddr _ _ _, _, _, _, _⟩ :: _) _ _ _; first | refine s_rdp ?_ | refine s_idx (fun _ _ _ _ _ _ _ => ?_)) | refine s_rdp ?_ | refine s_rdm ?_ | refine s_exq ?_ | refine s_exm ?_) | (show Ex _ _ _ _ _; first | (show Ex _ ⟨_, .call ⟨.value (.func _), _, _⟩, _, _, _, _⟩ _ _ _; refine e_call ?_; first | (apply p_pcs; apply pnone _; (try case hS => assumption); (case hpcs => (repeat (first | exact Pcs.blk (by infer_instance) | exact Pcs.nil | (apply Pcs.cons; infer_instance) | apply Pcs.app)))) | (apply keys_spec _) | (apply p_pcs; apply sorted_spec _ hM (by omega); (try case hS => assumption); (case hpcs => (repeat (first | exact Pcs.blk (by infer_instance) | exact Pcs.nil | (apply Pcs.cons; infer_instance) | apply Pcs.app))))) | (show Ex _ ⟨_, .buildSlice _ _ _, _, _, _, _⟩ _ _ _; first | (refine e_buildSlice ?_; intro _) | (refine e_buildNil ?_; intro _ _ _)) | (show Ex _ ⟨_, .call ⟨.builtin .append, _, _⟩, _, _, _, _⟩ _ _ _; (first | refine e_append ?_ | refine e_appendIn ?_); intro _ _ _)) | (show wpC _ _ _ _ _ _; first | refine wpC_seq ?_ | refine wpC_region ?_ | refine c_true ?_ | refine c_false ?_ | (refine c_b (fun _ => ?_) (fun _ => ?_) <;> (first | (exfalso; omega) | contradiction | skip)) | refine wpC_block ?_ | refine wpC_ret ?_ | refine wpC_skip ?_ | refine wpC_exit ?_ | refine wpC_label ?_ | (apply wpC_drawX (id := 9) ([]) [0, 1, 2, 3, 4, 5, 6, 7, 8, 9, 10, 11, 12, 13, 14] rfl (by kernel_rfl); (case hpk => (repeat (first | exact Pcs.blk (by infer_instance) | exact Pcs.nil | (apply Pcs.cons; infer_instance) | apply Pcs.app))))) | (show Then _ _ _ _ _ _ _; first | refine then_normal ?_ | refine then_ret ?_ | refine then_exit ?_) | (show InBlock _ _ _ _ _ _; first | refine inBlock_normal ?_ | refine inBlock_ret ?_ | refine inBlock_same ?_ | refine b_other ?_) | (show LoopPost _ _ _ _ _ _; first | refine loop_ret ?_ | refine loop_exit ?_) | (show wpD _ _ _ _ _ _ _ _; first | refine wpD_nil ?_ | refine d_rdp ?_ | refine d_rdm ?_ | refine d_tt ?_ | refine d_ff ?_ | (refine d_cmp (fun _ => ?_) (fun _ => ?_) <;> (first | (exfalso; omega) | contradiction | skip)) | (refine d_cb (fun _ => ?_) (fun _ => ?_) <;> (first | (exfalso; omega) | contradiction | skip)) | refine d_look (fun _ _ => ?_) (fun _ => ?_) | refine d_idx (fun _ _ _ _ _ _ _ => ?_) | refine d_exs ?_ | refine d_exn ?_) | (show (_ ∨ Subs _ _) ∧ _; first | refine d_sub ?_ | refine d_cov ?_) | (show RetP _ _ _ _ _ _ _ _; first | refine r_1 ?_) | assumption | intro _)
  rename_i bb vk Bk ks hp hs hS
  have hks : ks = r.lo.map fun x => x.slot := by
    refine ints_same (hp.trans ?_) hs (lo_keys hr)
    simp [Function.comp_def]
  subst hks
  have hfl : ∀ l : List Int, (l.map fun k => [Value.int .i64 k]).flatten = l.map (Value.int .i64) := fun l => by
    induction l with
    | nil => rfl
    | cons a l ih => simp [ih]
  have hin : InSl Bk 1 ((r.lo.map fun x => x.slot).map fun k => [Value.int .i64 k]) vk := SlO.inB (e := 2) (by rw [List.length_map, hfl]; exact hS) (fun r hr => by obtain ⟨u, _, rfl⟩ := List.mem_map.1 hr; exact ⟨rfl, rfl⟩)
  have hlk : (r.lo.map fun x => x.slot).length = a.L.length := by rw [List.length_map, hlen]
  have hget := fun x hx => lo_get hr (x := x) hx
  have hcho := fun x hx => lo_ch hr (x := x) hx
  have hat := fun i x hx => lo_at hr (i := i) (x := x) hx
  have hli := hr.li
  clear hr hp hs
  obtain ⟨m1, m2, bes, bclk, ses, sclk, lb, lo, M⟩ := r
  simp only at hM hlen hll hin hlk hget hcho hat hli hS ⊢
  refine wpC_loopA (κ := LiS) [3, 5, 6, 16, 17, 18, 19, 20, 21, 22, 23, 24, 25, 26, 27, 28, 29, 30, 31, 32, 33, 34, 35, 36, 37, 38, 39, 40, 41, 42, 43, 44, 45] (fun s => [(3, s.v), (16, .int .i64 (s.i : Int))]) (fun s => ((s.Bs ++ acH s.ls) ++ (([(d, cellsO (ldC a m1 m2) 89), (m1, .map bes bclk), (m2, .map ses sclk)] ++ (opH lo ++ M)) ++ F)) ++ Bk)
    (fun s => s.i ≤ a.L.length ∧ s.ls.map SlR.c = waitsN a s.i ∧ (∀ x ∈ s.ls, x.ok) ∧ SlO 51 59 s.v s.ls.length (s.ls.map SlR.cells).flatten s.Bs) (fun s => a.L.length - s.i) ⟨0, .slice none 0 0, [], []⟩ ⟨Nat.zero_le _, rfl, (fun x hx => by cases hx), SlO.nil 51 59⟩ ⟨rfl, rfl, trivial⟩ q_drp ?_
  rintro ⟨i, v, Bs, ls⟩ ρx ⟨hi, hls, hok, hv⟩
  simp only at hi hls hok hv ⊢
  have hlsl : ls.length ≤ i := by
    have := congrArg List.length hls
    rw [List.length_map] at this
    rw [this]
    exact waitsN_len a i
  cases hx : lo[i]? with
  | none =>
    have hge : lo.length ≤ i := List.getElem?_eq_none_iff.1 hx
    rw [waitsN_all (by omega)] at hls
    repeat' (first | (show wpO _ _ _ _ _ _ _; first | refine wpO_nil ?_ | (show wpO _ _ _ (⟨_, .binOp _ _ _ _ _, _, _, _, _⟩ :: _) _ _ _; first | refine s_tt ?_ | refine s_ff ?_ | refine s_rdp ?_ | (refine s_cmp (fun _ => ?_) (fun _ => ?_) <;> (first | (exfalso; omega) | contradiction | skip)) | (refine s_cb (fun _ => ?_) (fun _ => ?_) <;> (first | (exfalso; omega) | contradiction | skip))) | (show wpO _ _ _ (⟨_, .lookup _ _ _ _, _, _, _, _⟩ :: _) _ _ _; first | refine s_rdm ?_ | refine s_look (fun _ _ => ?_) (fun _ => ?_)) | (show wpO _ _ _ (⟨_, .indexAddr _ _ _, _, _, _, _⟩ :: _) _ _ _; first | refine s_rdp ?_ | refine s_idx (fun _ _ _ _ _ _ _ => ?_)) | refine s_rdp ?_ | refine s_rdm ?_ | refine s_exq ?_ | refine s_exm ?_) | (show Ex _ _ _ _ _; first | (show Ex _ ⟨_, .buildSlice _ _ _, _, _, _, _⟩ _ _ _; first | (refine e_buildSlice ?_; intro _) | (refine e_buildNil ?_; intro _ _ _)) | (show Ex _ ⟨_, .call ⟨.builtin .append, _, _⟩, _, _, _, _⟩ _ _ _; (first | refine e_append ?_ | refine e_appendIn ?_); intro _ _ _)) | (show wpC _ _ _ _ _ _; first | refine wpC_seq ?_ | refine wpC_region ?_ | refine c_true ?_ | refine c_false ?_ | (refine c_b (fun _ => ?_) (fun _ => ?_) <;> (first | (exfalso; omega) | contradiction | skip)) | refine wpC_block ?_ | refine wpC_ret ?_ | refine wpC_skip ?_ | refine wpC_exit ?_ | refine wpC_label ?_ | (apply wpC_drawX (id := 9) ([]) [0, 1, 2, 3, 4, 5, 6, 7, 8, 9, 10, 11, 12, 13, 14] rfl (by kernel_rfl); (case hpk => (repeat (first | exact Pcs.blk (by infer_instance) | exact Pcs.nil | (apply Pcs.cons; infer_instance) | apply Pcs.app))))) | (show Then _ _ _ _ _ _ _; first | refine then_normal ?_ | refine then_ret ?_ | refine then_exit ?_) | (show InBlock _ _ _ _ _ _; first | refine inBlock_normal ?_ | refine inBlock_ret ?_ | refine inBlock_same ?_ | refine b_other ?_) | (show LoopPost _ _ _ _ _ _; first | refine loop_ret ?_ | refine loop_exit ?_) | (show wpD _ _ _ _ _ _ _ _; first | refine wpD_nil ?_ | refine d_rdp ?_ | refine d_rdm ?_ | refine d_tt ?_ | refine d_ff ?_ | (refine d_cmp (fun _ => ?_) (fun _ => ?_) <;> (first | (exfalso; omega) | contradiction | skip)) | (refine d_cb (fun _ => ?_) (fun _ => ?_) <;> (first | (exfalso; omega) | contradiction | skip)) | refine d_look (fun _ _ => ?_) (fun _ => ?_) | refine d_idx (fun _ _ _ _ _ _ _ => ?_) | refine d_exs ?_ | refine d_exn ?_) | (show (_ ∨ Subs _ _) ∧ _; first | refine d_sub ?_ | refine d_cov ?_) | (show RetP _ _ _ _ _ _ _ _; first | refine r_1 ?_))
    all_goals first | (exfalso; omega) | exact q_drop (hK v Bs ls hls hok hv) | trace_state
  | some x =>
    have hlt := (List.getElem?_eq_some_iff.1 hx).1
    have hxm := List.mem_of_getElem? hx
    have hgk : (lo.map fun x => x.slot)[i]? = some x.slot := by simp [hx]
    have hgx := hget x hxm
    have hcx := hcho x hxm
    obtain ⟨hei, hes⟩ := hli x hxm
    have hax := hat i x hx
    have htk : waitsN a (i + 1) = waitsN a i ++ (if x.ch = true then [] else [⟨x.slot, a.b, x.en.c⟩]) := by
      unfold waitsN
      rw [List.take_add_one, hax, List.filter_append, List.map_append]
      congr 1
      rw [hcx]
      cases hc : x.c.ch a.n <;> simp [hc]
    obtain ⟨l1, l2, rfl⟩ : ∃ l1 l2, lo = l1 ++ x :: l2 := List.append_of_mem hxm
    have hsp : opH (l1 ++ x :: l2) = opH l1 ++ ((x.o, cellsO x.cells 112) :: opH l2) := by rw [opH_app]; rfl
    rw [hsp]
    clear hK hget hcho hat hli hcx
    obtain ⟨xs, xo, xe, xv, xc⟩ := x
    simp only at hgk hgx hei hes htk
    cases xc with
    | true =>
      repeat' (first | (show wpO _ _ _ _ _ _ _; first | refine wpO_nil ?_ | (show wpO _ _ _ (⟨_, .binOp _ _ _ _ _, _, _, _, _⟩ :: _) _ _ _; first | refine s_tt ?_ | refine s_ff ?_ | refine s_rdp ?_ | (refine s_cmp (fun _ => ?_) (fun _ => ?_) <;> (first | (exfalso; omega) | contradiction | skip)) | (refine s_cb (fun _ => ?_) (fun _ => ?_) <;> (first | (exfalso; omega) | contradiction | skip))) | (show wpO _ _ _ (⟨_, .lookup _ _ _ _, _, _, _, _⟩ :: _) _ _ _; first | refine s_rdm ?_ | refine s_look (fun _ _ => ?_) (fun _ => ?_)) | (show wpO _ _ _ (⟨_, .indexAddr _ _ _, _, _, _, _⟩ :: _) _ _ _; first | refine s_rdp ?_ | refine s_idx (fun _ _ _ _ _ _ _ => ?_)) | refine s_rdp ?_ | refine s_rdm ?_ | refine s_exq ?_ | refine s_exm ?_) | (show Ex _ _ _ _ _; first | (show Ex _ ⟨_, .buildSlice _ _ _, _, _, _, _⟩ _ _ _; first | (refine e_buildSlice ?_; intro _) | (refine e_buildNil ?_; intro _ _ _)) | (show Ex _ ⟨_, .call ⟨.builtin .append, _, _⟩, _, _, _, _⟩ _ _ _; (first | refine e_append ?_ | refine e_appendIn ?_); intro _ _ _)) | (show wpC _ _ _ _ _ _; first | refine wpC_seq ?_ | refine wpC_region ?_ | refine c_true ?_ | refine c_false ?_ | (refine c_b (fun _ => ?_) (fun _ => ?_) <;> (first | (exfalso; omega) | contradiction | skip)) | refine wpC_block ?_ | refine wpC_ret ?_ | refine wpC_skip ?_ | refine wpC_exit ?_ | refine wpC_label ?_ | (apply wpC_drawX (id := 9) ([]) [0, 1, 2, 3, 4, 5, 6, 7, 8, 9, 10, 11, 12, 13, 14] rfl (by kernel_rfl); (case hpk => (repeat (first | exact Pcs.blk (by infer_instance) | exact Pcs.nil | (apply Pcs.cons; infer_instance) | apply Pcs.app))))) | (show Then _ _ _ _ _ _ _; first | refine then_normal ?_ | refine then_ret ?_ | refine then_exit ?_) | (show InBlock _ _ _ _ _ _; first | refine inBlock_normal ?_ | refine inBlock_ret ?_ | refine inBlock_same ?_ | refine b_other ?_) | (show LoopPost _ _ _ _ _ _; first | refine loop_ret ?_ | refine loop_exit ?_) | (show wpD _ _ _ _ _ _ _ _; first | refine wpD_nil ?_ | refine d_rdp ?_ | refine d_rdm ?_ | refine d_tt ?_ | refine d_ff ?_ | (refine d_cmp (fun _ => ?_) (fun _ => ?_) <;> (first | (exfalso; omega) | contradiction | skip)) | (refine d_cb (fun _ => ?_) (fun _ => ?_) <;> (first | (exfalso; omega) | contradiction | skip)) | refine d_look (fun _ _ => ?_) (fun _ => ?_) | refine d_idx (fun _ _ _ _ _ _ _ => ?_) | refine d_exs ?_ | refine d_exn ?_) | (show (_ ∨ Subs _ _) ∧ _; first | refine d_sub ?_ | refine d_cov ?_) | (show RetP _ _ _ _ _ _ _ _; first | refine r_1 ?_))
      all_goals first
        | (exfalso; omega)
        | exact lp_end ⟨i + 1, v, Bs, ls⟩ (by simp only; omega) ⟨by simp only; omega, by simp only; rw [htk, if_pos rfl, List.append_nil]; exact hls, hok, hv⟩
        | trace_state
    | false =>
      repeat' (first | (show wpO _ _ _ _ _ _ _; first | refine wpO_nil ?_ | (show wpO _ _ _ (⟨_, .binOp _ _ _ _ _, _, _, _, _⟩ :: _) _ _ _; first | refine s_tt ?_ | refine s_ff ?_ | refine s_rdp ?_ | (refine s_cmp (fun _ => ?_) (fun _ => ?_) <;> (first | (exfalso; omega) | contradiction | skip)) | (refine s_cb (fun _ => ?_) (fun _ => ?_) <;> (first | (exfalso; omega) | contradiction | skip))) | (show wpO _ _ _ (⟨_, .lookup _ _ _ _, _, _, _, _⟩ :: _) _ _ _; first | refine s_rdm ?_ | refine s_look (fun _ _ => ?_) (fun _ => ?_)) | (show wpO _ _ _ (⟨_, .indexAddr _ _ _, _, _, _, _⟩ :: _) _ _ _; first | refine s_rdp ?_ | refine s_idx (fun _ _ _ _ _ _ _ => ?_)) | refine s_rdp ?_ | refine s_rdm ?_ | refine s_exq ?_ | refine s_exm ?_) | (show Ex _ _ _ _ _; first | (show Ex _ ⟨_, .call ⟨.value (.func _), _, _⟩, _, _, _, _⟩ _ _ _; refine e_call ?_; first | (apply p_pcs; apply cloneEntry_spec _ (x := xe) hei hes; (try case hS => assumption); (case hpcs => (repeat (first | exact Pcs.blk (by infer_instance) | exact Pcs.nil | (apply Pcs.cons; infer_instance) | apply Pcs.app))))) | (show Ex _ ⟨_, .buildSlice _ _ _, _, _, _, _⟩ _ _ _; first | (refine e_buildSlice ?_; intro _) | (refine e_buildNil ?_; intro _ _ _)) | (show Ex _ ⟨_, .call ⟨.builtin .append, _, _⟩, _, _, _, _⟩ _ _ _; (first | refine e_append ?_ | refine e_appendIn ?_); intro _ _ _)) | (show wpC _ _ _ _ _ _; first | refine wpC_seq ?_ | refine wpC_region ?_ | refine c_true ?_ | refine c_false ?_ | (refine c_b (fun _ => ?_) (fun _ => ?_) <;> (first | (exfalso; omega) | contradiction | skip)) | refine wpC_block ?_ | refine wpC_ret ?_ | refine wpC_skip ?_ | refine wpC_exit ?_ | refine wpC_label ?_ | (apply wpC_drawK (id := 9) [89, 112] [0, 1, 2, 3, 4, 5, 6, 7, 8, 9, 10, 11, 12, 13, 14] rfl (by kernel_rfl); infer_instance)) | (show Then _ _ _ _ _ _ _; first | refine then_normal ?_ | refine then_ret ?_ | refine then_exit ?_) | (show InBlock _ _ _ _ _ _; first | refine inBlock_normal ?_ | refine inBlock_ret ?_ | refine inBlock_same ?_ | refine b_other ?_) | (show LoopPost _ _ _ _ _ _; first | refine loop_ret ?_ | refine loop_exit ?_) | (show wpD _ _ _ _ _ _ _ _; first | refine wpD_nil ?_ | refine d_rdp ?_ | refine d_rdm ?_ | refine d_tt ?_ | refine d_ff ?_ | (refine d_cmp (fun _ => ?_) (fun _ => ?_) <;> (first | (exfalso; omega) | contradiction | skip)) | (refine d_cb (fun _ => ?_) (fun _ => ?_) <;> (first | (exfalso; omega) | contradiction | skip)) | refine d_look (fun _ _ => ?_) (fun _ => ?_) | refine d_idx (fun _ _ _ _ _ _ _ => ?_) | refine d_exs ?_ | refine d_exn ?_) | (show (_ ∨ Subs _ _) ∧ _; first | refine d_sub ?_ | refine d_cov ?_) | (show RetP _ _ _ _ _ _ _ _; first | refine r_1 ?_) | assumption | intro _)
      all_goals first | (exfalso; omega) | skip
      rename_i y hyc Bo Bd hO bx v' Bs' hv'
      refine lp_end ⟨i + 1, v', Bs', ls ++ [⟨xs, a.b, y, Bo, Bd⟩]⟩ (by simp only; omega) ⟨by simp only; omega, ?_, ?_, hv'.cast (by simp) (by simp)⟩ (h6 := by simp only [acH_app, acH_cons, show acH [] = [] from rfl, List.append_nil]; exact q_drp)
      · show List.map SlR.c _ = _
        rw [htk, List.map_append, hls, if_neg (by decide)]
        congr 1
        show [(⟨xs, a.b, y.c⟩ : Sl)] = [⟨xs, a.b, xe.c⟩]
        rw [hyc]
      · intro z hz
        rcases List.mem_append.1 hz with hz | hz
        · exact hok z hz
        · obtain rfl := List.mem_singleton.1 hz
          exact hO
end Go.Vl
