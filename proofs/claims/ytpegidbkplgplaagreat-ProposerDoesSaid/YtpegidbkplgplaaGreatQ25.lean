/-
  Steps of the proof: Y2.
-/
import Derived.Test.YtpegidbkplgplaaGreatQ24
namespace Go.Vl
open Go.Proofs Classical
set_option maxHeartbeats 4000000 in
set_option maxRecDepth 100000 in
theorem rf_find {r : RfR} {a : Ld} (hr : r.ok a) {s : Int} {y : Ol} (hf : findO a.L s = some y) : ∃ (i : Nat) (x : RsR), r.ls[i]? = some x ∧ x.slot = s ∧ x.c = y := by
  obtain ⟨h1, h2⟩ := findO_some hf
  rw [← hr.L] at h1
  obtain ⟨x, hx, rfl⟩ := List.mem_map.1 h1
  obtain ⟨i, hi⟩ := List.mem_iff_getElem?.1 hx
  exact ⟨i, x, hi, h2, rfl⟩
set_option maxHeartbeats 4000000 in
set_option maxRecDepth 100000 in
theorem rf_nofind {r : RfR} {a : Ld} (hr : r.ok a) {s : Int} (hf : findO a.L s = none) : ∀ x ∈ r.ls, x.slot ≠ s := fun x hx => findO_none hf x.c (by rw [← hr.L]; exact List.mem_map.2 ⟨x, hx, rfl⟩)
set_option maxHeartbeats 4000000 in
set_option maxRecDepth 100000 in
theorem rf_once {r : RfR} {a : Ld} (hr : r.ok a) {i j : Nat} {x y : RsR} (hi : r.ls[i]? = some x) (hj : r.ls[j]? = some y) (hs : x.slot = y.slot) : i = j := by
  have hsrt := hr.a.srt
  rw [← hr.L] at hsrt
  have hp := List.pairwise_iff_getElem.1 hsrt
  obtain ⟨i1, i2⟩ := List.getElem?_eq_some_iff.1 hi
  obtain ⟨j1, j2⟩ := List.getElem?_eq_some_iff.1 hj
  by_cases h1 : i < j
  · have := hp i j (by rw [List.length_map]; exact i1) (by rw [List.length_map]; exact j1) h1
    rw [List.getElem_map, List.getElem_map, i2, j2] at this
    have this : x.slot < y.slot := this
    omega
  · by_cases h2 : j < i
    · have := hp j i (by rw [List.length_map]; exact j1) (by rw [List.length_map]; exact i1) h2
      rw [List.getElem_map, List.getElem_map, i2, j2] at this
      have this : y.slot < x.slot := this
      omega
    · omega
set_option maxHeartbeats 4000000 in
set_option maxRecDepth 100000 in
theorem rf_split {r : RfR} {i : Nat} {x : RsR} (hi : r.ls[i]? = some x) : ∃ l1 l2, r.ls = l1 ++ x :: l2 ∧ l1.length = i := by
  obtain ⟨h1, h2⟩ := List.getElem?_eq_some_iff.1 hi
  exact ⟨r.ls.take i, r.ls.drop (i + 1), by rw [← h2, List.getElem_cons_drop, List.take_append_drop], by rw [List.length_take]; omega⟩
set_option maxHeartbeats 4000000 in
set_option maxRecDepth 100000 in
theorem rf_set {r : RfR} {a : Ld} (hr : r.ok a) {s : Int} {l1 l2 : List RsR} {x : RsR} (hls : r.ls = l1 ++ x :: l2) (hs : x.slot = s) {k : Nat} (hk : k < a.n) :
    RfR.ok ⟨r.g, r.cv, r.lc, r.Cb, r.sv, l1 ++ ⟨x.slot, x.en, setv x.v k, x.n, x.g⟩ :: l2, r.Sb, r.M⟩ { a with L := setO a.L s k } := by
  have hx : x ∈ r.ls := by rw [hls]; simp
  have hin : ∀ y ∈ l1 ++ RsR.mk x.slot x.en (setv x.v k) x.n x.g :: l2, y = ⟨x.slot, x.en, setv x.v k, x.n, x.g⟩ ∨ y ∈ r.ls := fun y hy => by
    rw [hls]
    rcases List.mem_append.1 hy with hy | hy
    · exact .inr (List.mem_append_left _ hy)
    · rcases List.mem_cons.1 hy with hy | hy
      · exact .inl hy
      · exact .inr (List.mem_append_right _ (List.mem_cons_of_mem _ hy))
  have hne1 : ∀ y ∈ l1, y.slot ≠ s := fun y hy he => by
    obtain ⟨j, hj⟩ := List.mem_iff_getElem?.1 hy
    have hjl := (List.getElem?_eq_some_iff.1 hj).1
    have h1 : r.ls[j]? = some y := by rw [hls, List.getElem?_append_left hjl]; exact hj
    have h2 : r.ls[l1.length]? = some x := by rw [hls, List.getElem?_append_right (Nat.le_refl _), Nat.sub_self]; rfl
    have := rf_once hr h1 h2 (by rw [he, hs])
    omega
  have hne2 : ∀ y ∈ l2, y.slot ≠ s := fun y hy he => by
    obtain ⟨j, hj⟩ := List.mem_iff_getElem?.1 hy
    have h1 : r.ls[l1.length + (j + 1)]? = some y := by rw [hls, List.getElem?_append_right (by omega), show l1.length + (j + 1) - l1.length = j + 1 by omega]; exact hj
    have h2 : r.ls[l1.length]? = some x := by rw [hls, List.getElem?_append_right (Nat.le_refl _), Nat.sub_self]; rfl
    have := rf_once hr h1 h2 (by rw [he, hs])
    omega
  refine ⟨hr.cs, ?_, hr.came, ?_, fun y hy => ?_, hr.vp, fun y hy => ?_, hr.ci, fun y hy => ?_, ok_setO hr.a s k⟩
  · have := hr.ss
    rw [hls] at this
    exact this.cast (by simp) (by simp)
  · show (l1 ++ _ :: l2).map RsR.c = setO a.L s k
    rw [← hr.L, hls]
    unfold setO
    rw [List.map_map, List.map_append, List.map_append, List.map_cons, List.map_cons]
    have e : ∀ l : List RsR, (∀ y ∈ l, y.slot ≠ s) → l.map ((fun z : Ol => if z.slot = s then { z with v := setv z.v k } else z) ∘ RsR.c) = l.map RsR.c := fun l hl => List.map_congr_left fun y hy => by
      show (if y.slot = s then _ else y.c) = y.c
      rw [if_neg (hl y hy)]
    rw [e l1 hne1, e l2 hne2]
    show _ = _ ++ (if x.slot = s then _ else _) :: _
    rw [if_pos hs]
  · rcases hin y hy with rfl | hy
    · exact hr.n x hx
    · exact hr.n y hy
  · rcases hin y hy with rfl | hy
    · exact (hr.vl x hx).set hk
    · exact hr.vl y hy
  · rcases hin y hy with rfl | hy
    · exact hr.li x hx
    · exact hr.li y hy
set_option maxHeartbeats 4000000 in
set_option maxRecDepth 100000 in
theorem rsMid (l1 l2 : List RsR) (x : RsR) : rsH (l1 ++ x :: l2) = rsH l1 ++ ([(x.g, cellsO ((vts x.v x.n).map boC).flatten 4)] ++ rsH l2) := by rw [rsH_app]; rfl
attribute [local irreducible] eqW eqV wpC wpO wpD Ex Rd callsK RetP Drop valK
set_option maxHeartbeats 4000000 in
set_option maxRecDepth 100000 in
theorem rfind (e : World) {a : Ld} {d : Nat} {r : RfR} {s : Int} {F : Hp} {K : Value → Hp → Prop} (hr : r.ok a) (hl : r.ls.length ≤ 9223372036854775806)
    (h0 : (∀ x ∈ r.ls, x.slot ≠ s) → K (.int .i64 (-1)) (r.hp a d ++ F)) (h1 : ∀ (i : Nat) (x : RsR), r.ls[i]? = some x → x.slot = s → K (.int .i64 (i : Int)) (r.hp a d ++ F)) :
    callsK Tryz.prog e 50 #[pv d, .int .i64 s] (r.hp a d ++ F) K := by
  have hin := rsIn hr.ss
  have hml : (r.ls.map RsR.cells).length = r.ls.length := List.length_map _
  clear hr
  refine calls_body (N := 26) (args := [pv d, .int .i64 s]) Tryz.func50 rfl rfl rfl (by simp) ?_
  repeat' ((fail_if_success (show wpC _ (.loop _) _ _ _ _)); first | (show wpO _ _ _ _ _ _ _; first | refine wpO_nil ?_ | (show wpO _ _ _ (⟨_, .binOp _ _ _ _ _, _, _, _, _⟩ :: _) _ _ _; first | refine s_tt ?_ | refine s_ff ?_ | refine s_rdp ?_ | ((first | refine s_cmp (fun _ => ?_) (fun _ => ?_) | refine s_cb (fun _ => ?_) (fun _ => ?_)) <;> (first | (exfalso; omega) | contradiction | skip))) | (show wpO _ _ _ (⟨_, .indexAddr _ _ _, _, _, _, _⟩ :: _) _ _ _; first | refine s_rdp ?_ | refine s_idx (fun _ _ _ _ _ _ _ => ?_)) | refine s_rdp ?_ | refine s_rdm ?_ | refine s_exq ?_ | refine s_exm ?_) | (show wpC _ _ _ _ _ _; first | refine wpC_seq ?_ | refine wpC_region ?_ | refine c_true ?_ | refine c_false ?_ | (refine c_b (fun _ => ?_) (fun _ => ?_) <;> (first | (exfalso; omega) | contradiction | skip)) | refine wpC_block ?_ | refine wpC_ret ?_ | refine wpC_skip ?_ | refine wpC_exit ?_ | refine wpC_label ?_) | (show Then _ _ _ _ _ _ _; first | refine then_normal ?_ | refine then_ret ?_ | refine then_exit ?_) | (show InBlock _ _ _ _ _ _; first | refine inBlock_normal ?_ | refine inBlock_ret ?_ | refine inBlock_same ?_ | refine b_other ?_) | (show LoopPost _ _ _ _ _ _; first | refine loop_ret ?_ | refine loop_exit ?_) | (show RetP _ _ _ _ _ _ _ _; first | refine r_1 ?_))
  refine wpC_loopA (κ := Nat) [4, 5, 6, 7, 8, 9, 10, 11, 12, 13, 14, 15, 16, 17, 18, 19, 20, 21, 22, 23, 24, 25] (fun k => [(5, .int .i64 (k : Int))]) (fun _ => r.hp a d ++ F) (fun k => k ≤ r.ls.length ∧ ∀ y ∈ r.ls.take k, y.slot ≠ s) (fun k => r.ls.length - k) 0 ⟨Nat.zero_le _, by simp⟩ ⟨rfl, trivial⟩ q_drp ?_
  rintro k ρx ⟨hk, hno⟩
  cases hx : r.ls[k]? with
  | some x =>
    have hkl := (List.getElem?_eq_some_iff.1 hx).1
    by_cases hs : x.slot = s
    · have h := h1 k x hx hs
      repeat' (first | (show wpO _ _ _ _ _ _ _; first | refine wpO_nil ?_ | (show wpO _ _ _ (⟨_, .binOp _ _ _ _ _, _, _, _, _⟩ :: _) _ _ _; first | refine s_tt ?_ | refine s_ff ?_ | refine s_rdp ?_ | ((first | refine s_cmp (fun _ => ?_) (fun _ => ?_) | refine s_cb (fun _ => ?_) (fun _ => ?_)) <;> (first | (exfalso; omega) | contradiction | skip))) | (show wpO _ _ _ (⟨_, .indexAddr _ _ _, _, _, _, _⟩ :: _) _ _ _; first | refine s_rdp ?_ | refine s_idx (fun _ _ _ _ _ _ _ => ?_)) | refine s_rdp ?_ | refine s_rdm ?_ | refine s_exq ?_ | refine s_exm ?_) | (show wpC _ _ _ _ _ _; first | refine wpC_seq ?_ | refine wpC_region ?_ | refine c_true ?_ | refine c_false ?_ | (refine c_b (fun _ => ?_) (fun _ => ?_) <;> (first | (exfalso; omega) | contradiction | skip)) | refine wpC_block ?_ | refine wpC_ret ?_ | refine wpC_skip ?_ | refine wpC_exit ?_ | refine wpC_label ?_) | (show Then _ _ _ _ _ _ _; first | refine then_normal ?_ | refine then_ret ?_ | refine then_exit ?_) | (show InBlock _ _ _ _ _ _; first | refine inBlock_normal ?_ | refine inBlock_ret ?_ | refine inBlock_same ?_ | refine b_other ?_) | (show LoopPost _ _ _ _ _ _; first | refine loop_ret ?_ | refine loop_exit ?_) | (show RetP _ _ _ _ _ _ _ _; first | refine r_1 ?_))
      all_goals first | (exfalso; omega) | exact q_drop h | trace_state
    · repeat' (first | (show wpO _ _ _ _ _ _ _; first | refine wpO_nil ?_ | (show wpO _ _ _ (⟨_, .binOp _ _ _ _ _, _, _, _, _⟩ :: _) _ _ _; first | refine s_tt ?_ | refine s_ff ?_ | refine s_rdp ?_ | ((first | refine s_cmp (fun _ => ?_) (fun _ => ?_) | refine s_cb (fun _ => ?_) (fun _ => ?_)) <;> (first | (exfalso; omega) | contradiction | skip))) | (show wpO _ _ _ (⟨_, .indexAddr _ _ _, _, _, _, _⟩ :: _) _ _ _; first | refine s_rdp ?_ | refine s_idx (fun _ _ _ _ _ _ _ => ?_)) | refine s_rdp ?_ | refine s_rdm ?_ | refine s_exq ?_ | refine s_exm ?_) | (show wpC _ _ _ _ _ _; first | refine wpC_seq ?_ | refine wpC_region ?_ | refine c_true ?_ | refine c_false ?_ | (refine c_b (fun _ => ?_) (fun _ => ?_) <;> (first | (exfalso; omega) | contradiction | skip)) | refine wpC_block ?_ | refine wpC_ret ?_ | refine wpC_skip ?_ | refine wpC_exit ?_ | refine wpC_label ?_) | (show Then _ _ _ _ _ _ _; first | refine then_normal ?_ | refine then_ret ?_ | refine then_exit ?_) | (show InBlock _ _ _ _ _ _; first | refine inBlock_normal ?_ | refine inBlock_ret ?_ | refine inBlock_same ?_ | refine b_other ?_) | (show LoopPost _ _ _ _ _ _; first | refine loop_ret ?_ | refine loop_exit ?_) | (show RetP _ _ _ _ _ _ _ _; first | refine r_1 ?_))
      all_goals first
        | (exfalso; omega)
        | (refine lp_end (k + 1) (by omega) ⟨by omega, fun u hu => ?_⟩
           rw [List.take_add_one, hx] at hu
           rcases List.mem_append.1 hu with hu | hu
           · exact hno u hu
           · rw [show u = x by simpa using hu]; exact hs)
        | trace_state
  | none =>
    have hge := List.getElem?_eq_none_iff.1 hx
    rw [List.take_of_length_le hge] at hno
    have h := h0 hno
    repeat' (first | (show wpO _ _ _ _ _ _ _; first | refine wpO_nil ?_ | (show wpO _ _ _ (⟨_, .binOp _ _ _ _ _, _, _, _, _⟩ :: _) _ _ _; first | refine s_tt ?_ | refine s_ff ?_ | refine s_rdp ?_ | ((first | refine s_cmp (fun _ => ?_) (fun _ => ?_) | refine s_cb (fun _ => ?_) (fun _ => ?_)) <;> (first | (exfalso; omega) | contradiction | skip))) | (show wpO _ _ _ (⟨_, .indexAddr _ _ _, _, _, _, _⟩ :: _) _ _ _; first | refine s_rdp ?_ | refine s_idx (fun _ _ _ _ _ _ _ => ?_)) | refine s_rdp ?_ | refine s_rdm ?_ | refine s_exq ?_ | refine s_exm ?_) | (show wpC _ _ _ _ _ _; first | refine wpC_seq ?_ | refine wpC_region ?_ | refine c_true ?_ | refine c_false ?_ | (refine c_b (fun _ => ?_) (fun _ => ?_) <;> (first | (exfalso; omega) | contradiction | skip)) | refine wpC_block ?_ | refine wpC_ret ?_ | refine wpC_skip ?_ | refine wpC_exit ?_ | refine wpC_label ?_) | (show Then _ _ _ _ _ _ _; first | refine then_normal ?_ | refine then_ret ?_ | refine then_exit ?_) | (show InBlock _ _ _ _ _ _; first | refine inBlock_normal ?_ | refine inBlock_ret ?_ | refine inBlock_same ?_ | refine b_other ?_) | (show LoopPost _ _ _ _ _ _; first | refine loop_ret ?_ | refine loop_exit ?_) | (show RetP _ _ _ _ _ _ _ _; first | refine r_1 ?_))
    all_goals first | (exfalso; omega) | exact q_drop h | trace_state
set_option maxHeartbeats 4000000 in
set_option maxRecDepth 100000 in
theorem rfindN (e : World) {a : Ld} {d : Nat} {r : RfR} {s : Int} {F : Hp} {K : Value → Hp → Prop} (hr : r.ok a) (hl : a.L.length ≤ 9223372036854775806) (hf : findO a.L s = none) (h0 : K (.int .i64 (-1)) (r.hp a d ++ F)) :
    callsK Tryz.prog e 50 #[pv d, .int .i64 s] (r.hp a d ++ F) K :=
  rfind e hr (by rw [← hr.L, List.length_map] at hl; exact hl) (fun _ => h0) fun i x hx hs => absurd hs (rf_nofind hr hf x (List.mem_of_getElem? hx))
set_option maxHeartbeats 4000000 in
set_option maxRecDepth 100000 in
theorem rfindS (e : World) {a : Ld} {d : Nat} {r : RfR} {s : Int} {i : Nat} {x : RsR} {F : Hp} {K : Value → Hp → Prop} (hr : r.ok a) (hl : a.L.length ≤ 9223372036854775806) (hx : r.ls[i]? = some x) (hs : x.slot = s) (h0 : K (.int .i64 (i : Int)) (r.hp a d ++ F)) :
    callsK Tryz.prog e 50 #[pv d, .int .i64 s] (r.hp a d ++ F) K :=
  rfind e hr (by rw [← hr.L, List.length_map] at hl; exact hl) (fun h => absurd hs (h x (List.mem_of_getElem? hx))) fun j y hy ht => by rw [rf_once hr hy hx (by rw [ht, hs])]; exact h0
set_option maxHeartbeats 4000000 in
set_option maxRecDepth 100000 in
theorem raccepted (e : World) {a : Ld} {d : Nat} {r : RfR} {k s : Int} {F : Hp} {K : Value → Hp → Prop} (hr : r.ok a) (hl : a.L.length ≤ 9223372036854775806)
    (hK : ∀ r' : RfR, r'.ok (a.accepted k s).2 → K (.tuple #[.bool (a.accepted k s).1.1, .int .i64 (a.accepted k s).1.2]) (r'.hp (a.accepted k s).2 d ++ F)) :
    callsK Tryz.prog e 25 #[pv d, .int .i64 k, .int .i64 s] (r.hp a d ++ F) K := by
  have n1 := hr.a.n1
  have n5 := hr.a.n5
  unfold Ld.accepted at hK
  refine calls_body (N := 48) (args := [pv d, .int .i64 k, .int .i64 s]) Tryz.func25 rfl rfl rfl (by simp) ?_
  by_cases hk : k < 0 ∨ (a.n : Int) ≤ k
  · rw [if_pos hk] at hK
    repeat' ((fail_if_success (show wpC _ (.seq (.region 3 _ _) _) _ _ _ _)); first | (show wpO _ _ _ _ _ _ _; first | refine wpO_nil ?_ | (show wpO _ _ _ (⟨_, .binOp _ _ _ _ _, _, _, _, _⟩ :: _) _ _ _; first | refine s_tt ?_ | refine s_ff ?_ | refine s_rdp ?_ | ((first | refine s_cmp (fun _ => ?_) (fun _ => ?_) | refine s_cb (fun _ => ?_) (fun _ => ?_)) <;> (first | (exfalso; omega) | contradiction | skip))) | (show wpO _ _ _ (⟨_, .indexAddr _ _ _, _, _, _, _⟩ :: _) _ _ _; first | refine s_rdp ?_ | refine s_idx (fun _ _ _ _ _ _ _ => ?_)) | (show wpO _ _ _ (⟨_, .pick _ _ _, _, _, _, _⟩ :: _) _ _ _; first | refine s_rdp ?_ | (refine s_p (fun _ => ?_) (fun _ => ?_) <;> (first | (exfalso; omega) | contradiction | skip))) | refine s_rdp ?_ | refine s_rdm ?_ | refine s_exq ?_ | refine s_exm ?_ | refine s_sks ?_ | refine s_skn ?_ | (refine s_g (fun _ => ?_) (fun _ => ?_) <;> (first | (exfalso; omega) | contradiction | skip))) | (show Ex _ _ _ _ _; first | (show Ex _ ⟨_, .store _ _ _, _, _, _, _⟩ _ _ _; first | refine e_store1 ?_ | refine e_storeA ?_ | (refine e_storeO ?_; intro _ _))) | (show wpC _ _ _ _ _ _; first | refine wpC_seq ?_ | refine wpC_region ?_ | refine c_true ?_ | refine c_false ?_ | (refine c_b (fun _ => ?_) (fun _ => ?_) <;> (first | (exfalso; omega) | contradiction | skip)) | refine wpC_ret ?_ | refine wpC_skip ?_ | refine wpC_label ?_ | (apply wpC_drawX (id := 10) ([]) [0, 2, 3, 4, 5, 1, 6, 7, 8, 9] rfl (by kernel_rfl); (case hpk => (repeat (first | exact Pcs.blk (by infer_instance) | exact Pcs.nil | (apply Pcs.cons; infer_instance) | apply Pcs.app))))) | (show Then _ _ _ _ _ _ _; first | refine then_normal ?_ | refine then_ret ?_) | (show wpD _ _ _ _ _ _ _ _; first | refine wpD_nil ?_ | refine d_rdp ?_ | refine d_rdm ?_ | refine d_sks ?_ | refine d_tt ?_ | refine d_ff ?_ | ((first | refine d_cmp (fun _ => ?_) (fun _ => ?_) | refine d_cb (fun _ => ?_) (fun _ => ?_)) <;> (first | (exfalso; omega) | contradiction | skip)) | refine d_idx (fun _ _ _ _ _ _ _ => ?_) | refine d_exs ?_ | refine d_exn ?_ | ((first | refine d_p (fun _ => ?_) (fun _ => ?_) | refine d_g (fun _ => ?_) (fun _ => ?_)) <;> (first | (exfalso; omega) | contradiction | skip))) | (show (_ ∨ Subs _ _) ∧ _; first | refine d_sub ?_ | refine d_cov ?_) | (show RetP _ _ _ _ _ _ _ _; first | refine r_2 ?_))
    all_goals first | (exfalso; omega) | exact q_drop (hK r hr) | trace_state
  rw [if_neg hk] at hK
  obtain ⟨kk, rfl⟩ : ∃ kk : Nat, k = (kk : Int) := ⟨k.toNat, by omega⟩
  have hkn : kk < a.n := by omega
  have hk5 : kk < 5 := by omega
  rw [Int.toNat_natCast] at hK
  cases hf : findO a.L s with
  | none =>
    rw [hf] at hK
    simp only at hK
    repeat' ((fail_if_success (show wpC _ (.seq (.region 6 _ _) _) _ _ _ _)); first | (show wpO _ _ _ _ _ _ _; first | refine wpO_nil ?_ | (show wpO _ _ _ (⟨_, .binOp _ _ _ _ _, _, _, _, _⟩ :: _) _ _ _; first | refine s_tt ?_ | refine s_ff ?_ | refine s_rdp ?_ | ((first | refine s_cmp (fun _ => ?_) (fun _ => ?_) | refine s_cb (fun _ => ?_) (fun _ => ?_)) <;> (first | (exfalso; omega) | contradiction | skip))) | (show wpO _ _ _ (⟨_, .indexAddr _ _ _, _, _, _, _⟩ :: _) _ _ _; first | refine s_rdp ?_ | refine s_idx (fun _ _ _ _ _ _ _ => ?_)) | (show wpO _ _ _ (⟨_, .pick _ _ _, _, _, _, _⟩ :: _) _ _ _; first | refine s_rdp ?_ | (refine s_p (fun _ => ?_) (fun _ => ?_) <;> (first | (exfalso; omega) | contradiction | skip))) | refine s_rdp ?_ | refine s_rdm ?_ | refine s_exq ?_ | refine s_exm ?_ | refine s_sks ?_ | refine s_skn ?_ | (refine s_g (fun _ => ?_) (fun _ => ?_) <;> (first | (exfalso; omega) | contradiction | skip))) | (show Ex _ _ _ _ _; first | (show Ex _ ⟨_, .call ⟨.value (.func _), _, _⟩, _, _, _, _⟩ _ _ _; refine e_call ?_; first | (apply p_pcs; apply rfindN _ hr hl hf; (try case hS => assumption); (case hpcs => (repeat (first | exact Pcs.blk (by infer_instance) | exact Pcs.nil | (apply Pcs.cons; infer_instance) | apply Pcs.app))))) | (show Ex _ ⟨_, .store _ _ _, _, _, _, _⟩ _ _ _; first | refine e_store1 ?_ | refine e_storeA ?_ | (refine e_storeO ?_; intro _ _))) | (show wpC _ _ _ _ _ _; first | refine wpC_seq ?_ | refine wpC_region ?_ | refine c_true ?_ | refine c_false ?_ | (refine c_b (fun _ => ?_) (fun _ => ?_) <;> (first | (exfalso; omega) | contradiction | skip)) | refine wpC_ret ?_ | refine wpC_skip ?_ | refine wpC_label ?_ | (apply wpC_drawX (id := 10) ([]) [0, 2, 3, 4, 5, 1, 6, 7, 8, 9] rfl (by kernel_rfl); (case hpk => (repeat (first | exact Pcs.blk (by infer_instance) | exact Pcs.nil | (apply Pcs.cons; infer_instance) | apply Pcs.app))))) | (show Then _ _ _ _ _ _ _; first | refine then_normal ?_ | refine then_ret ?_) | (show wpD _ _ _ _ _ _ _ _; first | refine wpD_nil ?_ | refine d_rdp ?_ | refine d_rdm ?_ | refine d_sks ?_ | refine d_tt ?_ | refine d_ff ?_ | ((first | refine d_cmp (fun _ => ?_) (fun _ => ?_) | refine d_cb (fun _ => ?_) (fun _ => ?_)) <;> (first | (exfalso; omega) | contradiction | skip)) | refine d_idx (fun _ _ _ _ _ _ _ => ?_) | refine d_exs ?_ | refine d_exn ?_ | ((first | refine d_p (fun _ => ?_) (fun _ => ?_) | refine d_g (fun _ => ?_) (fun _ => ?_)) <;> (first | (exfalso; omega) | contradiction | skip))) | (show (_ ∨ Subs _ _) ∧ _; first | refine d_sub ?_ | refine d_cov ?_) | (show RetP _ _ _ _ _ _ _ _; first | refine r_2 ?_) | assumption | intro _)
    all_goals first | (exfalso; omega) | exact q_drop (hK r hr) | trace_state
  | some y =>
    obtain ⟨i, x, hx, hs, rfl⟩ := rf_find hr hf
    rw [hf] at hK
    simp only at hK
    obtain ⟨l1, l2, hls, hli⟩ := rf_split hx
    have hxm := List.mem_of_getElem? hx
    have hxn := hr.n x hxm
    have hvn := hr.vl x hxm
    have hset := rf_set hr hls hs hkn
    have hil := (List.getElem?_eq_some_iff.1 hx).1
    have hin := rsIn hr.ss
    have hml : (r.ls.map RsR.cells).length = r.ls.length := List.length_map _
    have hK0 := hK r
    have hhp : r.hp a d = ([(d, cellsO (rfC a.b a.fr a.n r.g r.cv a.ready a.next r.sv) 69)] ++ vbH a.p a.n r.g) ++ ((r.Cb ++ r.Sb) ++ ((rsH l1 ++ ([(x.g, cellsO ((vts x.v x.n).map boC).flatten 4)] ++ rsH l2)) ++ r.M)) := by rw [← rsMid, ← hls]
    repeat' ((fail_if_success (show wpC _ (.seq (.region 6 _ _) _) _ _ _ _)); first | (show wpO _ _ _ _ _ _ _; first | refine wpO_nil ?_ | (show wpO _ _ _ (⟨_, .binOp _ _ _ _ _, _, _, _, _⟩ :: _) _ _ _; first | refine s_tt ?_ | refine s_ff ?_ | refine s_rdp ?_ | ((first | refine s_cmp (fun _ => ?_) (fun _ => ?_) | refine s_cb (fun _ => ?_) (fun _ => ?_)) <;> (first | (exfalso; omega) | contradiction | skip))) | (show wpO _ _ _ (⟨_, .indexAddr _ _ _, _, _, _, _⟩ :: _) _ _ _; first | refine s_rdp ?_ | refine s_idx (fun _ _ _ _ _ _ _ => ?_)) | (show wpO _ _ _ (⟨_, .pick _ _ _, _, _, _, _⟩ :: _) _ _ _; first | refine s_rdp ?_ | (refine s_p (fun _ => ?_) (fun _ => ?_) <;> (first | (exfalso; omega) | contradiction | skip))) | refine s_rdp ?_ | refine s_rdm ?_ | refine s_exq ?_ | refine s_exm ?_ | refine s_sks ?_ | refine s_skn ?_ | (refine s_g (fun _ => ?_) (fun _ => ?_) <;> (first | (exfalso; omega) | contradiction | skip))) | (show Ex _ _ _ _ _; first | (show Ex _ ⟨_, .call ⟨.value (.func _), _, _⟩, _, _, _, _⟩ _ _ _; refine e_call ?_; first | (apply p_pcs; apply rfindS _ hr hl hx hs; (try case hS => assumption); (case hpcs => (repeat (first | exact Pcs.blk (by infer_instance) | exact Pcs.nil | (apply Pcs.cons; infer_instance) | apply Pcs.app))))) | (show Ex _ ⟨_, .store _ _ _, _, _, _, _⟩ _ _ _; first | refine e_store1 ?_ | refine e_storeA ?_ | (refine e_storeO ?_; intro _ _))) | (show wpC _ _ _ _ _ _; first | refine wpC_seq ?_ | refine wpC_region ?_ | refine c_true ?_ | refine c_false ?_ | (refine c_b (fun _ => ?_) (fun _ => ?_) <;> (first | (exfalso; omega) | contradiction | skip)) | refine wpC_ret ?_ | refine wpC_skip ?_ | refine wpC_label ?_ | (apply wpC_drawX (id := 10) ([]) [0, 2, 3, 4, 5, 1, 6, 7, 8, 9] rfl (by kernel_rfl); (case hpk => (repeat (first | exact Pcs.blk (by infer_instance) | exact Pcs.nil | (apply Pcs.cons; infer_instance) | apply Pcs.app))))) | (show Then _ _ _ _ _ _ _; first | refine then_normal ?_ | refine then_ret ?_) | (show wpD _ _ _ _ _ _ _ _; first | refine wpD_nil ?_ | refine d_rdp ?_ | refine d_rdm ?_ | refine d_sks ?_ | refine d_tt ?_ | refine d_ff ?_ | ((first | refine d_cmp (fun _ => ?_) (fun _ => ?_) | refine d_cb (fun _ => ?_) (fun _ => ?_)) <;> (first | (exfalso; omega) | contradiction | skip)) | refine d_idx (fun _ _ _ _ _ _ _ => ?_) | refine d_exs ?_ | refine d_exn ?_ | ((first | refine d_p (fun _ => ?_) (fun _ => ?_) | refine d_g (fun _ => ?_) (fun _ => ?_)) <;> (first | (exfalso; omega) | contradiction | skip))) | (show (_ ∨ Subs _ _) ∧ _; first | refine d_sub ?_ | refine d_cov ?_) | (show RetP _ _ _ _ _ _ _ _; first | refine r_2 ?_) | assumption | intro _)
    all_goals first | (exfalso; omega) | skip
    obtain ⟨xs, xe, xv, xn, xg⟩ := x
    simp only at hxn hvn hs hhp hK hset
    subst hxn
    subst hs
    have hat := vts_flat xv hkn
    have hput := vts_flatSet xv (n := a.n) (k := kk)
    have hble := vts_flatLen xv hkn
    cases hv : xv kk with
    | true =>
      rw [if_pos hv] at hK0
      rw [hv] at hat
      have h := hK0 hr
      rw [hhp] at h ⊢
      clear hK hK0 hset hr
      repeat' (first | refine s_rdm ?_ (hr := by (apply rd_loadI; exact rfl; exact rfl; infer_instance; exact hat; done)) | refine d_rdm ?_ (hr := by (apply rd_loadI; exact rfl; exact rfl; infer_instance; exact hat; done)) | (show wpO _ _ _ _ _ _ _; first | refine wpO_nil ?_ | (show wpO _ _ _ (⟨_, .binOp _ _ _ _ _, _, _, _, _⟩ :: _) _ _ _; first | refine s_tt ?_ | refine s_ff ?_ | refine s_rdp ?_ | ((first | refine s_cmp (fun _ => ?_) (fun _ => ?_) | refine s_cb (fun _ => ?_) (fun _ => ?_)) <;> (first | (exfalso; omega) | contradiction | skip))) | (show wpO _ _ _ (⟨_, .indexAddr _ _ _, _, _, _, _⟩ :: _) _ _ _; first | refine s_rdp ?_ | refine s_idx (fun _ _ _ _ _ _ _ => ?_)) | (show wpO _ _ _ (⟨_, .pick _ _ _, _, _, _, _⟩ :: _) _ _ _; first | refine s_rdp ?_ | (refine s_p (fun _ => ?_) (fun _ => ?_) <;> (first | (exfalso; omega) | contradiction | skip))) | refine s_rdp ?_ | refine s_rdm ?_ | refine s_exq ?_ | refine s_exm ?_ | refine s_sks ?_ | refine s_skn ?_ | (refine s_g (fun _ => ?_) (fun _ => ?_) <;> (first | (exfalso; omega) | contradiction | skip))) | (show Ex _ _ _ _ _; first | (show Ex _ ⟨_, .store _ _ _, _, _, _, _⟩ _ _ _; first | refine e_store1 ?_ | refine e_storeA ?_ | (refine e_storeO ?_; intro _ _))) | (show wpC _ _ _ _ _ _; first | refine wpC_seq ?_ | refine wpC_region ?_ | refine c_true ?_ | refine c_false ?_ | (refine c_b (fun _ => ?_) (fun _ => ?_) <;> (first | (exfalso; omega) | contradiction | skip)) | refine wpC_ret ?_ | refine wpC_skip ?_ | refine wpC_label ?_ | (apply wpC_drawX (id := 10) ([]) [0, 2, 3, 4, 5, 1, 6, 7, 8, 9] rfl (by kernel_rfl); (case hpk => (repeat (first | exact Pcs.blk (by infer_instance) | exact Pcs.nil | (apply Pcs.cons; infer_instance) | apply Pcs.app))))) | (show Then _ _ _ _ _ _ _; first | refine then_normal ?_ | refine then_ret ?_) | (show wpD _ _ _ _ _ _ _ _; first | refine wpD_nil ?_ | refine d_rdp ?_ | refine d_rdm ?_ | refine d_sks ?_ | refine d_tt ?_ | refine d_ff ?_ | ((first | refine d_cmp (fun _ => ?_) (fun _ => ?_) | refine d_cb (fun _ => ?_) (fun _ => ?_)) <;> (first | (exfalso; omega) | contradiction | skip)) | refine d_idx (fun _ _ _ _ _ _ _ => ?_) | refine d_exs ?_ | refine d_exn ?_ | ((first | refine d_p (fun _ => ?_) (fun _ => ?_) | refine d_g (fun _ => ?_) (fun _ => ?_)) <;> (first | (exfalso; omega) | contradiction | skip))) | (show (_ ∨ Subs _ _) ∧ _; first | refine d_sub ?_ | refine d_cov ?_) | (show RetP _ _ _ _ _ _ _ _; first | refine r_2 ?_))
      all_goals first | (exfalso; omega) | exact q_drop h | trace_state
    | false =>
      rw [if_neg (by rw [hv]; simp)] at hK
      rw [hv] at hat
      have hc5 := cnt_set hk5 hv
      have h := hK _ hset
      have hti : InSl [(xg, cellsO ((vts (setv xv kk) a.n).map boC).flatten 4)] 1 ((vts (setv xv kk) a.n).map boC) (.slice (some ⟨xg, 0, none⟩) a.n a.n) := vts_in (setv xv kk) n5 xg
      rw [show (RfR.mk r.g r.cv r.lc r.Cb r.sv (l1 ++ ⟨xs, xe, setv xv kk, a.n, xg⟩ :: l2) r.Sb r.M).hp { a with L := setO a.L xs kk } d = ([(d, cellsO (rfC a.b a.fr a.n r.g r.cv a.ready a.next r.sv) 69)] ++ vbH a.p a.n r.g) ++ ((r.Cb ++ r.Sb) ++ (rsH (l1 ++ ⟨xs, xe, setv xv kk, a.n, xg⟩ :: l2) ++ r.M)) from rfl, rsMid] at h
      simp only at h
      rw [hhp]
      clear hK hK0 hset hr hhp
      by_cases hm : cnt5 xv + 1 = maj a.n
      · rw [decide_eq_true hm] at h
        repeat' (first | refine s_rdm ?_ (hr := by (apply rd_loadI; exact rfl; exact rfl; infer_instance; exact hat; done)) | refine d_rdm ?_ (hr := by (apply rd_loadI; exact rfl; exact rfl; infer_instance; exact hat; done)) | (show wpO _ _ _ _ _ _ _; first | refine wpO_nil ?_ | (show wpO _ _ _ (⟨_, .binOp _ _ _ _ _, _, _, _, _⟩ :: _) _ _ _; first | refine s_tt ?_ | refine s_ff ?_ | refine s_rdp ?_ | ((first | refine s_cmp (fun _ => ?_) (fun _ => ?_) | refine s_cb (fun _ => ?_) (fun _ => ?_)) <;> (first | (exfalso; omega) | contradiction | skip))) | (show wpO _ _ _ (⟨_, .indexAddr _ _ _, _, _, _, _⟩ :: _) _ _ _; first | refine s_rdp ?_ | refine s_idx (fun _ _ _ _ _ _ _ => ?_)) | (show wpO _ _ _ (⟨_, .pick _ _ _, _, _, _, _⟩ :: _) _ _ _; first | refine s_rdp ?_ | (refine s_p (fun _ => ?_) (fun _ => ?_) <;> (first | (exfalso; omega) | contradiction | skip))) | refine s_rdp ?_ | refine s_rdm ?_ | refine s_exq ?_ | refine s_exm ?_ | refine s_sks ?_ | refine s_skn ?_ | (refine s_g (fun _ => ?_) (fun _ => ?_) <;> (first | (exfalso; omega) | contradiction | skip))) | (show Ex _ _ _ _ _; first | (refine e_store1 ?_ (hlen := hble) (hl' := hput)) | (show Ex _ ⟨_, .call ⟨.value (.func _), _, _⟩, _, _, _, _⟩ _ _ _; refine e_call ?_; first | (apply p_pcs; apply rtally5 _ hti n5 (hvn.set hkn); (try case hS => assumption); (case hpcs => (repeat (first | exact Pcs.blk (by infer_instance) | exact Pcs.nil | (apply Pcs.cons; infer_instance) | apply Pcs.app)))) | (apply rmaj8 _ n1 n5)) | (show Ex _ ⟨_, .store _ _ _, _, _, _, _⟩ _ _ _; first | refine e_store1 ?_ | refine e_storeA ?_ | (refine e_storeO ?_; intro _ _))) | (show wpC _ _ _ _ _ _; first | refine wpC_seq ?_ | refine wpC_region ?_ | refine c_true ?_ | refine c_false ?_ | (refine c_b (fun _ => ?_) (fun _ => ?_) <;> (first | (exfalso; omega) | contradiction | skip)) | refine wpC_ret ?_ | refine wpC_skip ?_ | refine wpC_label ?_ | (apply wpC_drawX (id := 10) ([]) [0, 2, 3, 4, 5, 1, 6, 7, 8, 9] rfl (by kernel_rfl); (case hpk => (repeat (first | exact Pcs.blk (by infer_instance) | exact Pcs.nil | (apply Pcs.cons; infer_instance) | apply Pcs.app))))) | (show Then _ _ _ _ _ _ _; first | refine then_normal ?_ | refine then_ret ?_) | (show wpD _ _ _ _ _ _ _ _; first | refine wpD_nil ?_ | refine d_rdp ?_ | refine d_rdm ?_ | refine d_sks ?_ | refine d_tt ?_ | refine d_ff ?_ | ((first | refine d_cmp (fun _ => ?_) (fun _ => ?_) | refine d_cb (fun _ => ?_) (fun _ => ?_)) <;> (first | (exfalso; omega) | contradiction | skip)) | refine d_idx (fun _ _ _ _ _ _ _ => ?_) | refine d_exs ?_ | refine d_exn ?_ | ((first | refine d_p (fun _ => ?_) (fun _ => ?_) | refine d_g (fun _ => ?_) (fun _ => ?_)) <;> (first | (exfalso; omega) | contradiction | skip))) | (show (_ ∨ Subs _ _) ∧ _; first | refine d_sub ?_ | refine d_cov ?_) | (show RetP _ _ _ _ _ _ _ _; first | refine r_2 ?_) | assumption | intro _)
        all_goals first | (exfalso; omega) | exact q_drop h | trace_state
      · rw [decide_eq_false hm] at h
        repeat' (first | refine s_rdm ?_ (hr := by (apply rd_loadI; exact rfl; exact rfl; infer_instance; exact hat; done)) | refine d_rdm ?_ (hr := by (apply rd_loadI; exact rfl; exact rfl; infer_instance; exact hat; done)) | (show wpO _ _ _ _ _ _ _; first | refine wpO_nil ?_ | (show wpO _ _ _ (⟨_, .binOp _ _ _ _ _, _, _, _, _⟩ :: _) _ _ _; first | refine s_tt ?_ | refine s_ff ?_ | refine s_rdp ?_ | ((first | refine s_cmp (fun _ => ?_) (fun _ => ?_) | refine s_cb (fun _ => ?_) (fun _ => ?_)) <;> (first | (exfalso; omega) | contradiction | skip))) | (show wpO _ _ _ (⟨_, .indexAddr _ _ _, _, _, _, _⟩ :: _) _ _ _; first | refine s_rdp ?_ | refine s_idx (fun _ _ _ _ _ _ _ => ?_)) | (show wpO _ _ _ (⟨_, .pick _ _ _, _, _, _, _⟩ :: _) _ _ _; first | refine s_rdp ?_ | (refine s_p (fun _ => ?_) (fun _ => ?_) <;> (first | (exfalso; omega) | contradiction | skip))) | refine s_rdp ?_ | refine s_rdm ?_ | refine s_exq ?_ | refine s_exm ?_ | refine s_sks ?_ | refine s_skn ?_ | (refine s_g (fun _ => ?_) (fun _ => ?_) <;> (first | (exfalso; omega) | contradiction | skip))) | (show Ex _ _ _ _ _; first | (refine e_store1 ?_ (hlen := hble) (hl' := hput)) | (show Ex _ ⟨_, .call ⟨.value (.func _), _, _⟩, _, _, _, _⟩ _ _ _; refine e_call ?_; first | (apply p_pcs; apply rtally5 _ hti n5 (hvn.set hkn); (try case hS => assumption); (case hpcs => (repeat (first | exact Pcs.blk (by infer_instance) | exact Pcs.nil | (apply Pcs.cons; infer_instance) | apply Pcs.app)))) | (apply rmaj8 _ n1 n5)) | (show Ex _ ⟨_, .store _ _ _, _, _, _, _⟩ _ _ _; first | refine e_store1 ?_ | refine e_storeA ?_ | (refine e_storeO ?_; intro _ _))) | (show wpC _ _ _ _ _ _; first | refine wpC_seq ?_ | refine wpC_region ?_ | refine c_true ?_ | refine c_false ?_ | (refine c_b (fun _ => ?_) (fun _ => ?_) <;> (first | (exfalso; omega) | contradiction | skip)) | refine wpC_ret ?_ | refine wpC_skip ?_ | refine wpC_label ?_ | (apply wpC_drawX (id := 10) ([]) [0, 2, 3, 4, 5, 1, 6, 7, 8, 9] rfl (by kernel_rfl); (case hpk => (repeat (first | exact Pcs.blk (by infer_instance) | exact Pcs.nil | (apply Pcs.cons; infer_instance) | apply Pcs.app))))) | (show Then _ _ _ _ _ _ _; first | refine then_normal ?_ | refine then_ret ?_) | (show wpD _ _ _ _ _ _ _ _; first | refine wpD_nil ?_ | refine d_rdp ?_ | refine d_rdm ?_ | refine d_sks ?_ | refine d_tt ?_ | refine d_ff ?_ | ((first | refine d_cmp (fun _ => ?_) (fun _ => ?_) | refine d_cb (fun _ => ?_) (fun _ => ?_)) <;> (first | (exfalso; omega) | contradiction | skip)) | refine d_idx (fun _ _ _ _ _ _ _ => ?_) | refine d_exs ?_ | refine d_exn ?_ | ((first | refine d_p (fun _ => ?_) (fun _ => ?_) | refine d_g (fun _ => ?_) (fun _ => ?_)) <;> (first | (exfalso; omega) | contradiction | skip))) | (show (_ ∨ Subs _ _) ∧ _; first | refine d_sub ?_ | refine d_cov ?_) | (show RetP _ _ _ _ _ _ _ _; first | refine r_2 ?_) | assumption | intro _)
        all_goals first | (exfalso; omega) | exact q_drop h | trace_state
set_option maxHeartbeats 4000000 in
set_option maxRecDepth 100000 in
theorem rchosenE (e : World) {a : Ld} {d : Nat} {r : RfR} {s : Int} {F : Hp} {K : Value → Hp → Prop} (hr : r.ok a) (hl : a.L.length ≤ 9223372036854775806)
    (h0 : a.chosenE s = none → K (.tuple #[.agg zeroE.cells.toArray, .bool false]) (r.hp a d ++ F))
    (h1 : ∀ c, a.chosenE s = some c → EnSz c → ∀ y : EnR, y.c = c → ∀ Bo Bd, EnO y Bo Bd → K (.tuple #[.agg y.cells.toArray, .bool true]) ((Bo ++ Bd) ++ (r.hp a d ++ F))) :
    callsK Tryz.prog e 27 #[pv d, .int .i64 s] (r.hp a d ++ F) K := by
  unfold Ld.chosenE at h0 h1
  refine calls_body (N := 28) (args := [pv d, .int .i64 s]) Tryz.func27 rfl rfl rfl (by simp) ?_
  cases hf : findO a.L s with
  | none =>
    rw [hf] at h0
    have h := h0 rfl
    clear h0 h1
    repeat' (first | refine r_C1 ?_ | (show wpO _ _ _ _ _ _ _; first | refine wpO_nil ?_ | (show wpO _ _ _ (⟨_, .binOp _ _ _ _ _, _, _, _, _⟩ :: _) _ _ _; first | refine s_tt ?_ | refine s_ff ?_ | refine s_rdp ?_ | ((first | refine s_cmp (fun _ => ?_) (fun _ => ?_) | refine s_cb (fun _ => ?_) (fun _ => ?_)) <;> (first | (exfalso; omega) | contradiction | skip))) | (show wpO _ _ _ (⟨_, .indexAddr _ _ _, _, _, _, _⟩ :: _) _ _ _; first | refine s_rdp ?_ | refine s_idx (fun _ _ _ _ _ _ _ => ?_)) | (show wpO _ _ _ (⟨_, .pick _ _ _, _, _, _, _⟩ :: _) _ _ _; first | refine s_rdp ?_ | (refine s_p (fun _ => ?_) (fun _ => ?_) <;> (first | (exfalso; omega) | contradiction | skip))) | refine s_rdp ?_ | refine s_rdm ?_ | refine s_exq ?_ | refine s_exm ?_ | refine s_sks ?_ | refine s_skn ?_ | (refine s_g (fun _ => ?_) (fun _ => ?_) <;> (first | (exfalso; omega) | contradiction | skip))) | (show Ex _ _ _ _ _; first | (show Ex _ ⟨_, .call ⟨.value (.func _), _, _⟩, _, _, _, _⟩ _ _ _; refine e_call ?_; first | (apply p_pcs; apply rfindN _ hr hl hf; (try case hS => assumption); (case hpcs => (repeat (first | exact Pcs.blk (by infer_instance) | exact Pcs.nil | (apply Pcs.cons; infer_instance) | apply Pcs.app))))) | (show Ex _ ⟨_, .alloc _, _, _, _, _⟩ _ _ _; first | (refine e_allocA ?_; intro _) | (refine e_alloc1 ?_; intro _)) | (show Ex _ ⟨_, .store _ _ _, _, _, _, _⟩ _ _ _; first | refine e_store1 ?_ | refine e_storeA ?_ | (refine e_storeO ?_; intro _ _))) | (show wpC _ _ _ _ _ _; first | refine wpC_seq ?_ | refine wpC_region ?_ | refine c_true ?_ | refine c_false ?_ | (refine c_b (fun _ => ?_) (fun _ => ?_) <;> (first | (exfalso; omega) | contradiction | skip)) | refine wpC_ret ?_ | refine wpC_skip ?_ | refine wpC_label ?_) | (show Then _ _ _ _ _ _ _; first | refine then_normal ?_ | refine then_ret ?_) | (show RetP _ _ _ _ _ _ _ _; first | refine r_C1 ?_ | refine r_DC ?_) | assumption | intro _)
    all_goals first | (exfalso; omega) | exact q_drop h | trace_state
  | some y =>
    obtain ⟨i, x, hx, hs, rfl⟩ := rf_find hr hf
    rw [hf] at h0 h1
    simp only [Option.bind_some] at h0 h1
    have hxm := List.mem_of_getElem? hx
    obtain ⟨hei, hes⟩ := hr.li x hxm
    have hil := (List.getElem?_eq_some_iff.1 hx).1
    have hin := rsIn hr.ss
    have hml : (r.ls.map RsR.cells).length = r.ls.length := List.length_map _
    cases hc : x.c.ch a.n with
    | false =>
      rw [hc] at h0
      have h := h0 rfl
      clear h0 h1
      repeat' (first | refine r_C1 ?_ | (show wpO _ _ _ _ _ _ _; first | refine wpO_nil ?_ | (show wpO _ _ _ (⟨_, .binOp _ _ _ _ _, _, _, _, _⟩ :: _) _ _ _; first | refine s_tt ?_ | refine s_ff ?_ | refine s_rdp ?_ | ((first | refine s_cmp (fun _ => ?_) (fun _ => ?_) | refine s_cb (fun _ => ?_) (fun _ => ?_)) <;> (first | (exfalso; omega) | contradiction | skip))) | (show wpO _ _ _ (⟨_, .indexAddr _ _ _, _, _, _, _⟩ :: _) _ _ _; first | refine s_rdp ?_ | refine s_idx (fun _ _ _ _ _ _ _ => ?_)) | (show wpO _ _ _ (⟨_, .pick _ _ _, _, _, _, _⟩ :: _) _ _ _; first | refine s_rdp ?_ | (refine s_p (fun _ => ?_) (fun _ => ?_) <;> (first | (exfalso; omega) | contradiction | skip))) | refine s_rdp ?_ | refine s_rdm ?_ | refine s_exq ?_ | refine s_exm ?_ | refine s_sks ?_ | refine s_skn ?_ | (refine s_g (fun _ => ?_) (fun _ => ?_) <;> (first | (exfalso; omega) | contradiction | skip))) | (show Ex _ _ _ _ _; first | (show Ex _ ⟨_, .call ⟨.value (.func _), _, _⟩, _, _, _, _⟩ _ _ _; refine e_call ?_; first | (apply p_pcs; (first | apply rfindS _ hr hl hx hs | apply rchosen _ hr hx hc); (try case hS => assumption); (case hpcs => (repeat (first | exact Pcs.blk (by infer_instance) | exact Pcs.nil | (apply Pcs.cons; infer_instance) | apply Pcs.app))))) | (show Ex _ ⟨_, .alloc _, _, _, _, _⟩ _ _ _; first | (refine e_allocA ?_; intro _) | (refine e_alloc1 ?_; intro _)) | (show Ex _ ⟨_, .store _ _ _, _, _, _, _⟩ _ _ _; first | refine e_store1 ?_ | refine e_storeA ?_ | (refine e_storeO ?_; intro _ _))) | (show wpC _ _ _ _ _ _; first | refine wpC_seq ?_ | refine wpC_region ?_ | refine c_true ?_ | refine c_false ?_ | (refine c_b (fun _ => ?_) (fun _ => ?_) <;> (first | (exfalso; omega) | contradiction | skip)) | refine wpC_ret ?_ | refine wpC_skip ?_ | refine wpC_label ?_) | (show Then _ _ _ _ _ _ _; first | refine then_normal ?_ | refine then_ret ?_) | (show RetP _ _ _ _ _ _ _ _; first | refine r_C1 ?_ | refine r_DC ?_) | assumption | intro _)
      all_goals first | (exfalso; omega) | exact q_drop h | trace_state
    | true =>
      rw [hc] at h1
      have h := h1 x.en.c rfl hes
      clear h0 h1
      repeat' (first | refine r_C1 ?_ | (show wpO _ _ _ _ _ _ _; first | refine wpO_nil ?_ | (show wpO _ _ _ (⟨_, .binOp _ _ _ _ _, _, _, _, _⟩ :: _) _ _ _; first | refine s_tt ?_ | refine s_ff ?_ | refine s_rdp ?_ | ((first | refine s_cmp (fun _ => ?_) (fun _ => ?_) | refine s_cb (fun _ => ?_) (fun _ => ?_)) <;> (first | (exfalso; omega) | contradiction | skip))) | (show wpO _ _ _ (⟨_, .indexAddr _ _ _, _, _, _, _⟩ :: _) _ _ _; first | refine s_rdp ?_ | refine s_idx (fun _ _ _ _ _ _ _ => ?_)) | (show wpO _ _ _ (⟨_, .pick _ _ _, _, _, _, _⟩ :: _) _ _ _; first | refine s_rdp ?_ | (refine s_p (fun _ => ?_) (fun _ => ?_) <;> (first | (exfalso; omega) | contradiction | skip))) | refine s_rdp ?_ | refine s_rdm ?_ | refine s_exq ?_ | refine s_exm ?_ | refine s_sks ?_ | refine s_skn ?_ | (refine s_g (fun _ => ?_) (fun _ => ?_) <;> (first | (exfalso; omega) | contradiction | skip))) | (show Ex _ _ _ _ _; first | (show Ex _ ⟨_, .call ⟨.value (.func _), _, _⟩, _, _, _, _⟩ _ _ _; refine e_call ?_; first | (apply p_pcs; (first | apply rfindS _ hr hl hx hs | apply rchosen _ hr hx hc | apply rclone_spec _ hei hes); (try case hS => assumption); (case hpcs => (repeat (first | exact Pcs.blk (by infer_instance) | exact Pcs.nil | (apply Pcs.cons; infer_instance) | apply Pcs.app))))) | (show Ex _ ⟨_, .alloc _, _, _, _, _⟩ _ _ _; first | (refine e_allocA ?_; intro _) | (refine e_alloc1 ?_; intro _)) | (show Ex _ ⟨_, .store _ _ _, _, _, _, _⟩ _ _ _; first | refine e_store1 ?_ | refine e_storeA ?_ | (refine e_storeO ?_; intro _ _))) | (show wpC _ _ _ _ _ _; first | refine wpC_seq ?_ | refine wpC_region ?_ | refine c_true ?_ | refine c_false ?_ | (refine c_b (fun _ => ?_) (fun _ => ?_) <;> (first | (exfalso; omega) | contradiction | skip)) | refine wpC_ret ?_ | refine wpC_skip ?_ | refine wpC_label ?_) | (show Then _ _ _ _ _ _ _; first | refine then_normal ?_ | refine then_ret ?_) | (show RetP _ _ _ _ _ _ _ _; first | refine r_C1 ?_ | refine r_DC ?_) | assumption | intro _)
      all_goals first | (exfalso; omega) | skip
      rename_i y hyc Bo Bd hO
      exact q_drop (h y hyc Bo Bd hO)
end Go.Vl
