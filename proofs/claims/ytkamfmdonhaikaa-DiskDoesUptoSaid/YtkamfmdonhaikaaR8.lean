/-
  The document's disk: what it answers of itself; its fuse; its clone.
-/
import Derived.Test.YtkamfmdonhaikaaR7
namespace Go.Vl
open Go.Proofs
set_option maxHeartbeats 4000000 in
set_option maxRecDepth 100000 in
theorem find_mid {l1 l2 : List Rf} {f : Rf} (hs : (l1 ++ f :: l2).Pairwise fun f g => ltN f.nm g.nm) : ((l1 ++ f :: l2).map Rf.ab).find? (fun a => decide (a.1 = f.nm)) = some f.ab :=
  find_ab (a := f.ab) (sorted_names hs) (List.mem_map.2 ⟨f, by simp, rfl⟩)
set_option maxHeartbeats 4000000 in
set_option maxRecDepth 100000 in
theorem find_not {fs : List Rf} {n : ByteArray} (h : ∀ f ∈ fs, f.nm ≠ n) : (fs.map Rf.ab).find? (fun a => decide (a.1 = n)) = none := by
  rw [List.find?_eq_none]
  intro a ha
  obtain ⟨f, hf, rfl⟩ := List.mem_map.1 ha
  simpa using h f hf
set_option maxHeartbeats 4000000 in
set_option maxRecDepth 100000 in
theorem readA_down {s : DS} {n : ByteArray} (h : s.down = true) : readA s n = ([], 7) := if_pos h
set_option maxHeartbeats 4000000 in
set_option maxRecDepth 100000 in
theorem readA_wrong {s : DS} {n : ByteArray} (h : s.down = false) (h2 : ¬ okN n) : readA s n = ([], 20) := by
  unfold readA
  rw [if_neg (by simp [h]), if_pos h2]
set_option maxHeartbeats 4000000 in
set_option maxRecDepth 100000 in
theorem readA_none {s : DS} {n : ByteArray} (h : s.down = false) (h2 : okN n) (h3 : s.L.find? (fun a => decide (a.1 = n)) = none) : readA s n = ([], 4) := by
  unfold readA
  rw [if_neg (by simp [h]), if_neg (by simpa using h2), h3]
set_option maxHeartbeats 4000000 in
set_option maxRecDepth 100000 in
theorem readA_some {s : DS} {n : ByteArray} {a : Ab} (h : s.down = false) (h2 : okN n) (h3 : s.L.find? (fun a => decide (a.1 = n)) = some a) : readA s n = (a.2.1, 0) := by
  unfold readA
  rw [if_neg (by simp [h]), if_neg (by simpa using h2), h3]
set_option maxHeartbeats 4000000 in
set_option maxRecDepth 100000 in
theorem sizeA_down {s : DS} {n : ByteArray} (h : s.down = true) : sizeA s n = (0, 0, 7) := if_pos h
set_option maxHeartbeats 4000000 in
set_option maxRecDepth 100000 in
theorem sizeA_wrong {s : DS} {n : ByteArray} (h : s.down = false) (h2 : ¬ okN n) : sizeA s n = (0, 0, 20) := by
  unfold sizeA
  rw [if_neg (by simp [h]), if_pos h2]
set_option maxHeartbeats 4000000 in
set_option maxRecDepth 100000 in
theorem sizeA_none {s : DS} {n : ByteArray} (h : s.down = false) (h2 : okN n) (h3 : s.L.find? (fun a => decide (a.1 = n)) = none) : sizeA s n = (0, 0, 4) := by
  unfold sizeA
  rw [if_neg (by simp [h]), if_neg (by simpa using h2), h3]
set_option maxHeartbeats 4000000 in
set_option maxRecDepth 100000 in
theorem sizeA_some {s : DS} {n : ByteArray} {a : Ab} (h : s.down = false) (h2 : okN n) (h3 : s.L.find? (fun a => decide (a.1 = n)) = some a) : sizeA s n = ((a.2.1.length : Int), (a.2.2 : Int), 0) := by
  unfold sizeA
  rw [if_neg (by simp [h]), if_neg (by simpa using h2), h3]
attribute [local irreducible] wpC wpO wpD Ex Rd callsK RetP Drop valK
set_option maxHeartbeats 4000000 in
set_option maxRecDepth 100000 in
theorem rread_D (e : World) {s : ByteArray} {F : Hp} {d : Nat} {x : Rk} {room : Int} {K : Value → Hp → Prop} {bs : List UInt8} {q : Int} (hx : x.ok room) (hcap : totA (x.fs.map Rf.ab) ≤ 140737488355328) (hr : readA x.ds s = (bs, q))
    (hK : ∀ v B, BytO v bs B → K (.tuple #[v, .int .i64 q]) (B ++ (x.hp d room ++ F))) :
    callsK Try.prog e 64 #[pv d, .string s] (x.hp d room ++ F) K := by
  have hnil5 := SlO.nil 5 1
  obtain ⟨hO, hP, hs, hds, hk⟩ := hx; obtain ⟨fs, v, B, Pl, fuse, k, down⟩ := x; simp only at hO hP hs hk hK hcap ⊢; have hl : fs.length ≤ 1024 := (by have := hds.len; simpa using this); have hf0 := hds.l0; have hf1 := hds.l1; have hsy : ∀ f ∈ fs, f.syn ≤ f.bs.length := (fun f hf => hds.syn f.ab (List.mem_map.2 ⟨f, hf, rfl⟩)); simp only at hf0 hf1
  refine calls_body (N := 27) (args := [pv d, .string s]) Try.func64 rfl rfl rfl (by simp) ?_
  repeat' ((fail_if_success (show wpC _ (.region 4 _ _) _ _ _ _)); first | (show wpO _ _ _ _ _ _ _; first | refine wpO_nil ?_ | (show wpO _ _ _ (⟨_, .binOp _ _ _ _ _, _, _, _, _⟩ :: _) _ _ _; first | refine s_tt ?_ | refine s_ff ?_ | refine s_rdp ?_ | (refine s_cmp (fun _ => ?_) (fun _ => ?_) <;> (first | (exfalso; omega) | contradiction | skip)) | (refine s_cb (fun _ => ?_) (fun _ => ?_) <;> (first | (exfalso; omega) | contradiction | skip))) | (show wpO _ _ _ (⟨_, .indexAddr _ _ _, _, _, _, _⟩ :: _) _ _ _; first | refine s_rdp ?_ | refine s_idx (fun _ _ _ _ _ _ _ => ?_)) | refine s_rdp ?_ | refine s_rdm ?_ | refine s_exq ?_ | refine s_exm ?_) | (show Ex _ _ _ _ _; first | (show Ex _ ⟨_, .call ⟨.value (.func _), _, _⟩, _, _, _, _⟩ _ _ _; refine e_call ?_; first | (apply p_pcs; apply rthere1 _ hO hl hs; (try case hS => assumption); (case hpcs => (repeat (first | exact Pcs.blk (by infer_instance) | exact Pcs.nil | (apply Pcs.cons; infer_instance) | apply Pcs.app))))) | (show Ex _ ⟨_, .buildSlice _ _ _, _, _, _, _⟩ _ _ _; first | (refine e_buildSlice ?_; intro _) | (refine e_buildNil ?_; intro _ _ _)) | (show Ex _ ⟨_, .call ⟨.builtin .append, _, _⟩, _, _, _, _⟩ _ _ _; (first | refine e_append ?_ | refine e_appendIn ?_); intro _ _ _)) | (show wpC _ _ _ _ _ _; first | refine wpC_seq ?_ | refine wpC_region ?_ | refine c_true ?_ | refine c_false ?_ | (refine c_b (fun _ => ?_) (fun _ => ?_) <;> (first | (exfalso; omega) | contradiction | skip)) | refine wpC_ret ?_ | refine wpC_skip ?_ | refine wpC_label ?_) | (show Then _ _ _ _ _ _ _; first | refine then_normal ?_ | refine then_ret ?_) | (show RetP _ _ _ _ _ _ _ _; first | refine r_2 ?_) | assumption | intro _)
  · rw [readA_down ‹_›] at hr
    cases hr
    exact q_drop (hK _ [] hnil5)
  · rw [readA_wrong ‹_› ‹_›] at hr
    cases hr
    exact q_drop (hK _ [] hnil5)
  · rw [readA_none ‹_› ‹_› (find_not ‹_›)] at hr
    cases hr
    exact q_drop (hK _ [] hnil5)
  · rename_i l1 f l2 hd hn hfs hnm
    subst hfs
    subst hnm
    have hin := fsIn hO
    have hgi : (l1 ++ f :: l2)[l1.length]? = some f := by simp
    have hbf := hP f (by simp)
    have hle : f.bs.length ≤ totA ((l1 ++ f :: l2).map Rf.ab) := totA_mem (a := f.ab) (List.mem_map.2 ⟨f, by simp, rfl⟩)
    rw [readA_some hd hn (find_mid hs)] at hr
    cases hr
    clear hO
    repeat' (first | (refine s_idx (hin := hin) (fun _ _ _ _ _ _ _ => ?_)) | (show wpO _ _ _ _ _ _ _; first | refine wpO_nil ?_ | (show wpO _ _ _ (⟨_, .binOp _ _ _ _ _, _, _, _, _⟩ :: _) _ _ _; first | refine s_tt ?_ | refine s_ff ?_ | refine s_rdp ?_ | (refine s_cmp (fun _ => ?_) (fun _ => ?_) <;> (first | (exfalso; omega) | contradiction | skip)) | (refine s_cb (fun _ => ?_) (fun _ => ?_) <;> (first | (exfalso; omega) | contradiction | skip))) | (show wpO _ _ _ (⟨_, .indexAddr _ _ _, _, _, _, _⟩ :: _) _ _ _; first | refine s_rdp ?_ | refine s_idx (fun _ _ _ _ _ _ _ => ?_)) | refine s_rdp ?_ | refine s_rdm ?_ | refine s_exq ?_ | refine s_exm ?_) | (show Ex _ _ _ _ _; first | (show Ex _ ⟨_, .buildSlice _ _ _, _, _, _, _⟩ _ _ _; first | (refine e_buildSlice ?_; intro _) | (refine e_buildNil ?_; intro _ _ _)) | (show Ex _ ⟨_, .call ⟨.builtin .append, _, _⟩, _, _, _, _⟩ _ _ _; (first | refine e_append ?_ | refine e_appendIn ?_); intro _ _ _)) | (show wpC _ _ _ _ _ _; first | refine wpC_seq ?_ | refine wpC_region ?_ | refine c_true ?_ | refine c_false ?_ | (refine c_b (fun _ => ?_) (fun _ => ?_) <;> (first | (exfalso; omega) | contradiction | skip)) | refine wpC_ret ?_ | refine wpC_skip ?_ | refine wpC_label ?_) | (show Then _ _ _ _ _ _ _; first | refine then_normal ?_ | refine then_ret ?_) | (show RetP _ _ _ _ _ _ _ _; first | refine r_2 ?_))
    rename_i v' B' hB
    have hB' : BytO v' f.bs B' := by
      rw [Nat.zero_add, List.nil_append] at hB
      exact hB
    exact q_drop (hK v' B' hB')
set_option maxHeartbeats 4000000 in
set_option maxRecDepth 100000 in
theorem rsize_D (e : World) {s : ByteArray} {F : Hp} {d : Nat} {x : Rk} {room : Int} {K : Value → Hp → Prop} {p q r : Int} (hx : x.ok room) (hr : sizeA x.ds s = (p, q, r))
    (hK : K (.tuple #[.int .i64 p, .int .i64 q, .int .i64 r]) (x.hp d room ++ F)) :
    callsK Try.prog e 67 #[pv d, .string s] (x.hp d room ++ F) K := by
  have hcap : True := trivial
  obtain ⟨hO, hP, hs, hds, hk⟩ := hx; obtain ⟨fs, v, B, Pl, fuse, k, down⟩ := x; simp only at hO hP hs hk hK hcap ⊢; have hl : fs.length ≤ 1024 := (by have := hds.len; simpa using this); have hf0 := hds.l0; have hf1 := hds.l1; have hsy : ∀ f ∈ fs, f.syn ≤ f.bs.length := (fun f hf => hds.syn f.ab (List.mem_map.2 ⟨f, hf, rfl⟩)); simp only at hf0 hf1
  refine calls_body (N := 36) (args := [pv d, .string s]) Try.func67 rfl rfl rfl (by simp) ?_
  repeat' ((fail_if_success (show wpC _ (.region 4 _ _) _ _ _ _)); first | (show wpO _ _ _ _ _ _ _; first | refine wpO_nil ?_ | (show wpO _ _ _ (⟨_, .binOp _ _ _ _ _, _, _, _, _⟩ :: _) _ _ _; first | refine s_tt ?_ | refine s_ff ?_ | refine s_rdp ?_ | (refine s_cmp (fun _ => ?_) (fun _ => ?_) <;> (first | (exfalso; omega) | contradiction | skip)) | (refine s_cb (fun _ => ?_) (fun _ => ?_) <;> (first | (exfalso; omega) | contradiction | skip))) | (show wpO _ _ _ (⟨_, .indexAddr _ _ _, _, _, _, _⟩ :: _) _ _ _; first | refine s_rdp ?_ | refine s_idx (fun _ _ _ _ _ _ _ => ?_)) | refine s_rdp ?_ | refine s_rdm ?_ | refine s_exq ?_ | refine s_exm ?_) | (show Ex _ _ _ _ _; first | (show Ex _ ⟨_, .call ⟨.value (.func _), _, _⟩, _, _, _, _⟩ _ _ _; refine e_call ?_; first | (apply p_pcs; apply rthere1 _ hO hl hs; (try case hS => assumption); (case hpcs => (repeat (first | exact Pcs.blk (by infer_instance) | exact Pcs.nil | (apply Pcs.cons; infer_instance) | apply Pcs.app))))) | (show Ex _ ⟨_, .buildSlice _ _ _, _, _, _, _⟩ _ _ _; first | (refine e_buildSlice ?_; intro _) | (refine e_buildNil ?_; intro _ _ _))) | (show wpC _ _ _ _ _ _; first | refine wpC_seq ?_ | refine wpC_region ?_ | refine c_true ?_ | refine c_false ?_ | (refine c_b (fun _ => ?_) (fun _ => ?_) <;> (first | (exfalso; omega) | contradiction | skip)) | refine wpC_ret ?_ | refine wpC_skip ?_ | refine wpC_label ?_ | (apply wpC_drawX (id := 4) ([]) [0, 1, 2, 3, 4, 5, 6, 7, 8, 9, 10, 11, 12, 13, 14, 15, 16, 17, 18, 19] rfl (by kernel_rfl); (case hpk => (repeat (first | exact Pcs.blk (by infer_instance) | exact Pcs.nil | (apply Pcs.cons; infer_instance) | apply Pcs.app))))) | (show Then _ _ _ _ _ _ _; first | refine then_normal ?_ | refine then_ret ?_) | (show wpD _ _ _ _ _ _ _ _; first | refine wpD_nil ?_ | refine d_rdp ?_ | refine d_rdm ?_ | refine d_tt ?_ | refine d_ff ?_ | (refine d_cmp (fun _ => ?_) (fun _ => ?_) <;> (first | (exfalso; omega) | contradiction | skip)) | (refine d_cb (fun _ => ?_) (fun _ => ?_) <;> (first | (exfalso; omega) | contradiction | skip)) | refine d_idx (fun _ _ _ _ _ _ _ => ?_) | refine d_exs ?_ | refine d_exn ?_) | (show (_ ∨ Subs _ _) ∧ _; first | refine d_sub ?_ | refine d_cov ?_) | (show RetP _ _ _ _ _ _ _ _; first | refine r_3 ?_) | assumption | intro _)
  · rw [sizeA_down ‹_›] at hr
    cases hr
    exact q_drop hK
  · rw [sizeA_wrong ‹_› ‹_›] at hr
    cases hr
    exact q_drop hK
  · rw [sizeA_none ‹_› ‹_› (find_not ‹_›)] at hr
    cases hr
    exact q_drop hK
  · rename_i l1 f l2 hd hn hfs hnm
    subst hfs
    subst hnm
    have hin := fsIn hO
    have hgi : (l1 ++ f :: l2)[l1.length]? = some f := by simp
    rw [sizeA_some hd hn (find_mid hs)] at hr
    cases hr
    clear hO
    repeat' (first | (show wpO _ _ _ _ _ _ _; first | refine wpO_nil ?_ | (show wpO _ _ _ (⟨_, .binOp _ _ _ _ _, _, _, _, _⟩ :: _) _ _ _; first | refine s_tt ?_ | refine s_ff ?_ | refine s_rdp ?_ | (refine s_cmp (fun _ => ?_) (fun _ => ?_) <;> (first | (exfalso; omega) | contradiction | skip)) | (refine s_cb (fun _ => ?_) (fun _ => ?_) <;> (first | (exfalso; omega) | contradiction | skip))) | (show wpO _ _ _ (⟨_, .indexAddr _ _ _, _, _, _, _⟩ :: _) _ _ _; first | refine s_rdp ?_ | refine s_idx (fun _ _ _ _ _ _ _ => ?_)) | refine s_rdp ?_ | refine s_rdm ?_ | refine s_exq ?_ | refine s_exm ?_) | (show Ex _ _ _ _ _; first | (show Ex _ ⟨_, .buildSlice _ _ _, _, _, _, _⟩ _ _ _; first | (refine e_buildSlice ?_; intro _) | (refine e_buildNil ?_; intro _ _ _))) | (show wpC _ _ _ _ _ _; first | refine wpC_seq ?_ | refine wpC_region ?_ | refine c_true ?_ | refine c_false ?_ | (refine c_b (fun _ => ?_) (fun _ => ?_) <;> (first | (exfalso; omega) | contradiction | skip)) | refine wpC_ret ?_ | refine wpC_skip ?_ | refine wpC_label ?_ | (apply wpC_drawX (id := 4) ([]) [0, 1, 2, 3, 4, 5, 6, 7, 8, 9, 10, 11, 12, 13, 14, 15, 16, 17, 18, 19] rfl (by kernel_rfl); (case hpk => (repeat (first | exact Pcs.blk (by infer_instance) | exact Pcs.nil | (apply Pcs.cons; infer_instance) | apply Pcs.app))))) | (show Then _ _ _ _ _ _ _; first | refine then_normal ?_ | refine then_ret ?_) | (show wpD _ _ _ _ _ _ _ _; first | refine wpD_nil ?_ | refine d_rdp ?_ | refine d_rdm ?_ | refine d_tt ?_ | refine d_ff ?_ | (refine d_cmp (fun _ => ?_) (fun _ => ?_) <;> (first | (exfalso; omega) | contradiction | skip)) | (refine d_cb (fun _ => ?_) (fun _ => ?_) <;> (first | (exfalso; omega) | contradiction | skip)) | refine d_idx (fun _ _ _ _ _ _ _ => ?_) | refine d_exs ?_ | refine d_exn ?_) | (show (_ ∨ Subs _ _) ∧ _; first | refine d_sub ?_ | refine d_cov ?_) | (show RetP _ _ _ _ _ _ _ _; first | refine r_3 ?_))
    exact q_drop hK
set_option maxHeartbeats 4000000 in
set_option maxRecDepth 100000 in
theorem rnames_D (e : World) {F : Hp} {d : Nat} {x : Rk} {room : Int} {K : Value → Hp → Prop} (hx : x.ok room)
    (hK : ∀ v B, SlO 9 1 v x.fs.length (x.fs.map fun f => Value.string f.nm) B → K v (B ++ (x.hp d room ++ F))) :
    callsK Try.prog e 72 #[pv d] (x.hp d room ++ F) K := by
  have hcap : True := trivial
  obtain ⟨hO, hP, hs, hds, hk⟩ := hx; obtain ⟨fs, v, B, Pl, fuse, k, down⟩ := x; simp only at hO hP hs hk hK hcap ⊢; have hl : fs.length ≤ 1024 := (by have := hds.len; simpa using this); have hf0 := hds.l0; have hf1 := hds.l1; have hsy : ∀ f ∈ fs, f.syn ≤ f.bs.length := (fun f hf => hds.syn f.ab (List.mem_map.2 ⟨f, hf, rfl⟩)); simp only at hf0 hf1
  have hin := fsIn hO
  refine calls_body (N := 26) (args := [pv d]) Try.func72 rfl rfl rfl (by simp) ?_
  repeat' (first | (show wpO _ _ _ _ _ _ _; first | refine wpO_nil ?_ | (show wpO _ _ _ (⟨_, .binOp _ _ _ _ _, _, _, _, _⟩ :: _) _ _ _; first | refine s_tt ?_ | refine s_ff ?_ | refine s_rdp ?_ | (refine s_cmp (fun _ => ?_) (fun _ => ?_) <;> (first | (exfalso; omega) | contradiction | skip)) | (refine s_cb (fun _ => ?_) (fun _ => ?_) <;> (first | (exfalso; omega) | contradiction | skip))) | (show wpO _ _ _ (⟨_, .indexAddr _ _ _, _, _, _, _⟩ :: _) _ _ _; first | refine s_rdp ?_ | refine s_idx (fun _ _ _ _ _ _ _ => ?_)) | refine s_rdp ?_ | refine s_rdm ?_ | refine s_exq ?_ | refine s_exm ?_) | (show Ex _ _ _ _ _; first | (show Ex _ ⟨_, .buildSlice _ _ _, _, _, _, _⟩ _ _ _; first | (refine e_buildSlice ?_; intro _) | (refine e_buildNil ?_; intro _ _ _)) | (show Ex _ ⟨_, .call ⟨.builtin .append, _, _⟩, _, _, _, _⟩ _ _ _; (first | refine e_append ?_ | refine e_appendIn ?_); intro _ _ _)) | (show wpC _ _ _ _ _ _; first | refine wpC_seq ?_ | refine wpC_region ?_ | refine c_true ?_ | refine c_false ?_ | (refine c_b (fun _ => ?_) (fun _ => ?_) <;> (first | (exfalso; omega) | contradiction | skip)) | refine wpC_block ?_ | refine wpC_ret ?_ | refine wpC_skip ?_ | refine wpC_exit ?_ | refine wpC_label ?_) | (show Then _ _ _ _ _ _ _; first | refine then_normal ?_ | refine then_ret ?_ | refine then_exit ?_) | (show InBlock _ _ _ _ _ _; first | refine inBlock_normal ?_ | refine inBlock_ret ?_ | refine inBlock_same ?_ | refine b_other ?_) | (show LoopPost _ _ _ _ _ _; first | refine loop_ret ?_ | refine loop_exit ?_) | (show RetP _ _ _ _ _ _ _ _; first | refine r_1 ?_))
  refine wpC_loopA (κ := Nat × Value × Hp) [3, 4, 5, 6, 7, 8, 9, 10, 11, 12, 13, 14, 15, 16, 17, 18, 19, 20, 21, 22, 23, 24] (fun s => [(3, s.2.1), (4, .int .i64 (s.1 : Int))]) (fun s => (rblk d room v fuse k down ++ (B ++ Pl)) ++ (s.2.2 ++ F))
    (fun s => s.1 ≤ fs.length ∧ SlO 9 1 s.2.1 s.1 ((fs.take s.1).map fun f => Value.string f.nm) s.2.2) (fun s => fs.length - s.1) (0, .slice none 0 0, []) ⟨Nat.zero_le _, by simpa using SlO.nil 9 1⟩ ⟨rfl, rfl, trivial⟩ q_drp ?_
  rintro ⟨i, w, Bw⟩ ρx ⟨hi, hw⟩
  simp only at hi hw ⊢
  clear hO
  cases hr : fs[i]? with
  | none =>
    have hge : fs.length ≤ i := List.getElem?_eq_none_iff.1 hr
    obtain rfl : i = fs.length := by omega
    repeat' (first | (show wpO _ _ _ _ _ _ _; first | refine wpO_nil ?_ | (show wpO _ _ _ (⟨_, .binOp _ _ _ _ _, _, _, _, _⟩ :: _) _ _ _; first | refine s_tt ?_ | refine s_ff ?_ | refine s_rdp ?_ | (refine s_cmp (fun _ => ?_) (fun _ => ?_) <;> (first | (exfalso; omega) | contradiction | skip)) | (refine s_cb (fun _ => ?_) (fun _ => ?_) <;> (first | (exfalso; omega) | contradiction | skip))) | (show wpO _ _ _ (⟨_, .indexAddr _ _ _, _, _, _, _⟩ :: _) _ _ _; first | refine s_rdp ?_ | refine s_idx (fun _ _ _ _ _ _ _ => ?_)) | refine s_rdp ?_ | refine s_rdm ?_ | refine s_exq ?_ | refine s_exm ?_) | (show Ex _ _ _ _ _; first | (show Ex _ ⟨_, .buildSlice _ _ _, _, _, _, _⟩ _ _ _; first | (refine e_buildSlice ?_; intro _) | (refine e_buildNil ?_; intro _ _ _)) | (show Ex _ ⟨_, .call ⟨.builtin .append, _, _⟩, _, _, _, _⟩ _ _ _; (first | refine e_append ?_ | refine e_appendIn ?_); intro _ _ _)) | (show wpC _ _ _ _ _ _; first | refine wpC_seq ?_ | refine wpC_region ?_ | refine c_true ?_ | refine c_false ?_ | (refine c_b (fun _ => ?_) (fun _ => ?_) <;> (first | (exfalso; omega) | contradiction | skip)) | refine wpC_block ?_ | refine wpC_ret ?_ | refine wpC_skip ?_ | refine wpC_exit ?_ | refine wpC_label ?_) | (show Then _ _ _ _ _ _ _; first | refine then_normal ?_ | refine then_ret ?_ | refine then_exit ?_) | (show InBlock _ _ _ _ _ _; first | refine inBlock_normal ?_ | refine inBlock_ret ?_ | refine inBlock_same ?_ | refine b_other ?_) | (show LoopPost _ _ _ _ _ _; first | refine loop_ret ?_ | refine loop_exit ?_) | (show RetP _ _ _ _ _ _ _ _; first | refine r_1 ?_))
    rw [List.take_length] at hw
    exact q_drop (hK w Bw hw)
  | some f =>
    have hlt := (List.getElem?_eq_some_iff.1 hr).1
    repeat' (first | (show wpO _ _ _ _ _ _ _; first | refine wpO_nil ?_ | (show wpO _ _ _ (⟨_, .binOp _ _ _ _ _, _, _, _, _⟩ :: _) _ _ _; first | refine s_tt ?_ | refine s_ff ?_ | refine s_rdp ?_ | (refine s_cmp (fun _ => ?_) (fun _ => ?_) <;> (first | (exfalso; omega) | contradiction | skip)) | (refine s_cb (fun _ => ?_) (fun _ => ?_) <;> (first | (exfalso; omega) | contradiction | skip))) | (show wpO _ _ _ (⟨_, .indexAddr _ _ _, _, _, _, _⟩ :: _) _ _ _; first | refine s_rdp ?_ | refine s_idx (fun _ _ _ _ _ _ _ => ?_)) | refine s_rdp ?_ | refine s_rdm ?_ | refine s_exq ?_ | refine s_exm ?_) | (show Ex _ _ _ _ _; first | (show Ex _ ⟨_, .buildSlice _ _ _, _, _, _, _⟩ _ _ _; first | (refine e_buildSlice ?_; intro _) | (refine e_buildNil ?_; intro _ _ _)) | (show Ex _ ⟨_, .call ⟨.builtin .append, _, _⟩, _, _, _, _⟩ _ _ _; (first | refine e_append ?_ | refine e_appendIn ?_); intro _ _ _)) | (show wpC _ _ _ _ _ _; first | refine wpC_seq ?_ | refine wpC_region ?_ | refine c_true ?_ | refine c_false ?_ | (refine c_b (fun _ => ?_) (fun _ => ?_) <;> (first | (exfalso; omega) | contradiction | skip)) | refine wpC_block ?_ | refine wpC_ret ?_ | refine wpC_skip ?_ | refine wpC_exit ?_ | refine wpC_label ?_) | (show Then _ _ _ _ _ _ _; first | refine then_normal ?_ | refine then_ret ?_ | refine then_exit ?_) | (show InBlock _ _ _ _ _ _; first | refine inBlock_normal ?_ | refine inBlock_ret ?_ | refine inBlock_same ?_ | refine b_other ?_) | (show LoopPost _ _ _ _ _ _; first | refine loop_ret ?_ | refine loop_exit ?_) | (show RetP _ _ _ _ _ _ _ _; first | refine r_1 ?_))
    rename_i w2 B2 hw2
    exact lp_end (i + 1, w2, B2) (by simp only; omega) ⟨hlt, hw2.cast rfl (by simp [List.take_add_one, hr])⟩
set_option maxHeartbeats 4000000 in
set_option maxRecDepth 100000 in
theorem rsetFuse_D (e : World) {a b : Int} {F : Hp} {d : Nat} {x : Rk} {room : Int} {K : Value → Hp → Prop} (hx : x.ok room) (ha : a ≤ 9223372036854775807) (hb : b ≤ 9223372036854775807)
    (hK : ∀ r' : Rk, r'.ok room → r'.ds.F (x.ds.setFuse a b).2 → K (.int .i64 (x.ds.setFuse a b).1) (r'.hp d room ++ F)) :
    callsK Try.prog e 68 #[pv d, .int .i64 a, .int .i64 b] (x.hp d room ++ F) K := by
  have hR : (x.ds.setFuse a b).2.ok room := hx.s.run ⟨6, sA, sA, none, 0, [], a, b⟩ ha
  obtain ⟨hO, hP, hs, hds, hk⟩ := hx; obtain ⟨fs, v, B, Pl, fuse, k, down⟩ := x; simp only at hO hP hs hk hK hR ⊢; have hl : fs.length ≤ 1024 := (by have := hds.len; simpa using this); have hf0 := hds.l0; have hf1 := hds.l1; have hsy : ∀ f ∈ fs, f.syn ≤ f.bs.length := (fun f hf => hds.syn f.ab (List.mem_map.2 ⟨f, hf, rfl⟩)); simp only at hf0 hf1
  by_cases hb0 : b < 0
  · refine calls_body (N := 25) (args := [pv d, .int .i64 a, .int .i64 b]) Try.func68 rfl rfl rfl (by simp) ?_
    repeat' (first | (show wpO _ _ _ _ _ _ _; first | refine wpO_nil ?_ | (show wpO _ _ _ (⟨_, .binOp _ _ _ _ _, _, _, _, _⟩ :: _) _ _ _; first | refine s_tt ?_ | refine s_ff ?_ | refine s_rdp ?_ | (refine s_cmp (fun _ => ?_) (fun _ => ?_) <;> (first | (exfalso; omega) | contradiction | skip)) | (refine s_cb (fun _ => ?_) (fun _ => ?_) <;> (first | (exfalso; omega) | contradiction | skip)) | refine s_sks ?_ | (refine s_g (fun _ => ?_) (fun _ => ?_) <;> (first | (exfalso; omega) | contradiction | skip))) | (show wpO _ _ _ (⟨_, .pick _ _ _, _, _, _, _⟩ :: _) _ _ _; first | refine s_rdp ?_ | (refine s_p (fun _ => ?_) (fun _ => ?_) <;> (first | (exfalso; omega) | contradiction | skip)) | refine s_sks ?_ | (refine s_g (fun _ => ?_) (fun _ => ?_) <;> (first | (exfalso; omega) | contradiction | skip))) | refine s_rdp ?_ | refine s_rdm ?_ | refine s_exq ?_ | refine s_exm ?_ | refine s_sks ?_ | refine s_skn ?_ | (refine s_g (fun _ => ?_) (fun _ => ?_) <;> (first | (exfalso; omega) | contradiction | skip))) | (show Ex _ _ _ _ _; first | (show Ex _ ⟨_, .store _ _ _, _, _, _, _⟩ _ _ _; first | refine e_store1 ?_ | refine e_storeA ?_ | (refine e_storeO ?_; intro _ _))) | (show wpC _ _ _ _ _ _; first | refine wpC_seq ?_ | refine wpC_region ?_ | refine c_true ?_ | refine c_false ?_ | (refine c_b (fun _ => ?_) (fun _ => ?_) <;> (first | (exfalso; omega) | contradiction | skip)) | refine wpC_ret ?_ | refine wpC_skip ?_ | refine wpC_label ?_) | (show Then _ _ _ _ _ _ _; first | refine then_normal ?_ | refine then_ret ?_) | (show RetP _ _ _ _ _ _ _ _; first | refine r_1 ?_))
    all_goals exact q_drop (Rk.fin (fun H => H ++ F) hK hR hO hP hs hk (if_pos (.inr hb0)) (.rfl _))
  obtain ⟨n, rfl⟩ := Int.eq_ofNat_of_zero_le (by omega : 0 ≤ b)
  refine calls_body (N := 25) (args := [pv d, .int .i64 a, .int .i64 (n : Int)]) Try.func68 rfl rfl rfl (by simp) ?_
  repeat' (first | (show wpO _ _ _ _ _ _ _; first | refine wpO_nil ?_ | (show wpO _ _ _ (⟨_, .binOp _ _ _ _ _, _, _, _, _⟩ :: _) _ _ _; first | refine s_tt ?_ | refine s_ff ?_ | refine s_rdp ?_ | (refine s_cmp (fun _ => ?_) (fun _ => ?_) <;> (first | (exfalso; omega) | contradiction | skip)) | (refine s_cb (fun _ => ?_) (fun _ => ?_) <;> (first | (exfalso; omega) | contradiction | skip)) | refine s_sks ?_ | (refine s_g (fun _ => ?_) (fun _ => ?_) <;> (first | (exfalso; omega) | contradiction | skip))) | (show wpO _ _ _ (⟨_, .pick _ _ _, _, _, _, _⟩ :: _) _ _ _; first | refine s_rdp ?_ | (refine s_p (fun _ => ?_) (fun _ => ?_) <;> (first | (exfalso; omega) | contradiction | skip)) | refine s_sks ?_ | (refine s_g (fun _ => ?_) (fun _ => ?_) <;> (first | (exfalso; omega) | contradiction | skip))) | refine s_rdp ?_ | refine s_rdm ?_ | refine s_exq ?_ | refine s_exm ?_ | refine s_sks ?_ | refine s_skn ?_ | (refine s_g (fun _ => ?_) (fun _ => ?_) <;> (first | (exfalso; omega) | contradiction | skip))) | (show Ex _ _ _ _ _; first | (show Ex _ ⟨_, .store _ _ _, _, _, _, _⟩ _ _ _; first | refine e_store1 ?_ | refine e_storeA ?_ | (refine e_storeO ?_; intro _ _))) | (show wpC _ _ _ _ _ _; first | refine wpC_seq ?_ | refine wpC_region ?_ | refine c_true ?_ | refine c_false ?_ | (refine c_b (fun _ => ?_) (fun _ => ?_) <;> (first | (exfalso; omega) | contradiction | skip)) | refine wpC_ret ?_ | refine wpC_skip ?_ | refine wpC_label ?_) | (show Then _ _ _ _ _ _ _; first | refine then_normal ?_ | refine then_ret ?_) | (show RetP _ _ _ _ _ _ _ _; first | refine r_1 ?_))
  · exact q_drop (Rk.fin (fun H => H ++ F) hK hR hO hP hs hk (if_pos (.inl ‹_›)) (.rfl _))
  · exact q_drop (Rk.fin (fun H => H ++ F) hK hR hO hP hs hk (s' := ⟨fs.map Rf.ab, fuse, k, down⟩) (by unfold DS.setFuse; rw [if_neg (by omega), if_pos ‹_›]) (.rfl _))
  · have hd : down = false := by first | exact ‹down = false› | simpa using ‹¬ down = true›
    refine q_drop (Rk.fin (fun H => H ++ F) hK hR (Pl := Pl) hO hP hs hb (s' := ⟨fs.map Rf.ab, a, n, down⟩) (by unfold DS.setFuse; rw [if_neg (by omega), if_neg (fun h => absurd (hd.symm.trans h) (by simp))]; rfl) (.rfl _))
set_option maxHeartbeats 4000000 in
set_option maxRecDepth 100000 in
theorem rcrash_D (e : World) {a : Int} {F : Hp} {d : Nat} {x : Rk} {room : Int} {K : Value → Hp → Prop} (hx : x.ok room) (hcap : totA (x.fs.map Rf.ab) ≤ 140737488355328) (ha : a ≤ 9223372036854775807)
    (hK : ∀ r' : Rk, r'.ok room → r'.ds.F (x.ds.crash a).2 → K (.int .i64 (x.ds.crash a).1) (r'.hp d room ++ F)) :
    callsK Try.prog e 69 #[pv d, .int .i64 a] (x.hp d room ++ F) K := by
  have hR : (x.ds.crash a).2.ok room := hx.s.run ⟨7, sA, sA, none, 0, [], 0, a⟩ (show (0 : Int) ≤ 9223372036854775807 by decide)
  obtain ⟨hO, hP, hs, hds, hk⟩ := hx; obtain ⟨fs, v, B, Pl, fuse, k, down⟩ := x; simp only at hO hP hs hk hK hR ⊢; have hl : fs.length ≤ 1024 := (by have := hds.len; simpa using this); have hf0 := hds.l0; have hf1 := hds.l1; have hsy : ∀ f ∈ fs, f.syn ≤ f.bs.length := (fun f hf => hds.syn f.ab (List.mem_map.2 ⟨f, hf, rfl⟩)); simp only at hf0 hf1
  refine rcrash_spec e hO hP hl hsy hcap ha (fun h => ?_) (fun h h2 => ?_) (fun n hn hd v' B' fs' hO' hP' hnm hab => ?_)
  · exact Rk.fin (fun H => H ++ F) hK hR hO hP hs hk (if_pos h) (.rfl _)
  · exact Rk.fin (fun H => H ++ F) hK hR hO hP hs hk (s' := ⟨fs.map Rf.ab, fuse, k, down⟩) (by unfold DS.crash; rw [if_neg (by omega), if_pos h2]) (.rfl _)
  · subst hn
    exact Rk.fin (fun H => H ++ F) hK hR hO' hP' (nm_sorted hs hnm) hk (s' := ⟨(fs.map Rf.ab).map (fell n), 0, 0, true⟩) (by unfold DS.crash; rw [if_neg (by omega), if_neg (fun h => absurd (hd.symm.trans h) (by simp))]; rfl) ⟨by rw [hab], rfl, .inl rfl, rfl⟩
set_option maxHeartbeats 4000000 in
set_option maxRecDepth 100000 in
theorem rrestart_D (e : World) {F : Hp} {d : Nat} {x : Rk} {room : Int} {K : Value → Hp → Prop} (hx : x.ok room)
    (hK : ∀ r' : Rk, r'.ok room → r'.ds.F (x.ds.restart).2 → K (.int .i64 (x.ds.restart).1) (r'.hp d room ++ F)) :
    callsK Try.prog e 70 #[pv d] (x.hp d room ++ F) K := by
  have hR : (x.ds.restart).2.ok room := hx.s.run ⟨8, sA, sA, none, 0, [], 0, 0⟩ (show (0 : Int) ≤ 9223372036854775807 by decide)
  obtain ⟨hO, hP, hs, hds, hk⟩ := hx; obtain ⟨fs, v, B, Pl, fuse, k, down⟩ := x; simp only at hO hP hs hk hK hR ⊢; have hl : fs.length ≤ 1024 := (by have := hds.len; simpa using this); have hf0 := hds.l0; have hf1 := hds.l1; have hsy : ∀ f ∈ fs, f.syn ≤ f.bs.length := (fun f hf => hds.syn f.ab (List.mem_map.2 ⟨f, hf, rfl⟩)); simp only at hf0 hf1
  refine calls_body (N := 11) (args := [pv d]) Try.func70 rfl rfl rfl (by simp) ?_
  repeat' (first | (show wpO _ _ _ _ _ _ _; first | refine wpO_nil ?_ | refine s_rdp ?_ | refine s_rdm ?_ | refine s_exq ?_ | refine s_exm ?_) | (show Ex _ _ _ _ _; first | (show Ex _ ⟨_, .store _ _ _, _, _, _, _⟩ _ _ _; first | refine e_store1 ?_ | refine e_storeA ?_ | (refine e_storeO ?_; intro _ _))) | (show wpC _ _ _ _ _ _; first | refine wpC_seq ?_ | refine wpC_region ?_ | refine c_true ?_ | refine c_false ?_ | (refine c_b (fun _ => ?_) (fun _ => ?_) <;> (first | (exfalso; omega) | contradiction | skip)) | refine wpC_ret ?_ | refine wpC_skip ?_ | refine wpC_label ?_) | (show Then _ _ _ _ _ _ _; first | refine then_normal ?_ | refine then_ret ?_) | (show RetP _ _ _ _ _ _ _ _; first | refine r_1 ?_))
  · rename_i h
    have hd : down = false := by simpa using h
    exact q_drop (Rk.fin (fun H => H ++ F) hK hR hO hP hs hk (if_neg (fun h => absurd (hd.symm.trans h) (by simp))) (.rfl _))
  · rename_i h
    have hd : down = true := by simpa using h
    exact q_drop (Rk.fin (fun H => H ++ F) hK hR (Pl := Pl) hO hP hs hk (if_pos hd) (.rfl _))
structure RcS where
  i : Nat
  w : Value
  Bw : Hp
  gs : List Rf
  Pg : Hp
set_option maxHeartbeats 4000000 in
set_option maxRecDepth 100000 in
theorem rclone_D (e : World) {F : Hp} {d : Nat} {x : Rk} {room : Int} {K : Value → Hp → Prop} (hx : x.ok room) (hcap : totA (x.fs.map Rf.ab) ≤ 140737488355328)
    (hK : ∀ c, ∀ y : Rk, y.ok room → y.ds = x.ds → K (pv c) (y.hp c room ++ (x.hp d room ++ F))) :
    callsK Try.prog e 74 #[pv d] (x.hp d room ++ F) K := by
  have hnil5 := SlO.nil 5 1
  have hxs := hx.s
  obtain ⟨hO, hP, hs, hds, hk⟩ := hx; obtain ⟨fs, v, B, Pl, fuse, k, down⟩ := x; simp only at hO hP hs hk hK hcap ⊢; have hl : fs.length ≤ 1024 := (by have := hds.len; simpa using this); have hf0 := hds.l0; have hf1 := hds.l1; have hsy : ∀ f ∈ fs, f.syn ≤ f.bs.length := (fun f hf => hds.syn f.ab (List.mem_map.2 ⟨f, hf, rfl⟩)); simp only at hf0 hf1
  obtain ⟨va, vc, hva⟩ := SlO.val hO
  subst hva
  have hin := fsIn hO
  refine calls_body (N := 36) (args := [pv d]) Try.func74 rfl rfl rfl (by simp) ?_
  repeat' (first | (show wpO _ _ _ _ _ _ _; first | refine wpO_nil ?_ | (show wpO _ _ _ (⟨_, .binOp _ _ _ _ _, _, _, _, _⟩ :: _) _ _ _; first | refine s_tt ?_ | refine s_ff ?_ | refine s_rdp ?_ | (refine s_cmp (fun _ => ?_) (fun _ => ?_) <;> (first | (exfalso; omega) | contradiction | skip)) | (refine s_cb (fun _ => ?_) (fun _ => ?_) <;> (first | (exfalso; omega) | contradiction | skip))) | (show wpO _ _ _ (⟨_, .indexAddr _ _ _, _, _, _, _⟩ :: _) _ _ _; first | refine s_rdp ?_ | refine s_idx (fun _ _ _ _ _ _ _ => ?_)) | refine s_rdp ?_ | refine s_rdm ?_ | refine s_exq ?_ | refine s_exm ?_) | (show Ex _ _ _ _ _; first | (show Ex _ ⟨_, .alloc _, _, _, _, _⟩ _ _ _; first | (refine e_allocA ?_; intro _) | (refine e_alloc1 ?_; intro _)) | (show Ex _ ⟨_, .store _ _ _, _, _, _, _⟩ _ _ _; first | refine e_store1 ?_ | refine e_storeA ?_ | (refine e_storeO ?_; intro _ _)) | (show Ex _ ⟨_, .buildSlice _ _ _, _, _, _, _⟩ _ _ _; first | (refine e_buildSlice ?_; intro _) | (refine e_buildNil ?_; intro _ _ _)) | (show Ex _ ⟨_, .call ⟨.builtin .append, _, _⟩, _, _, _, _⟩ _ _ _; (first | refine e_append ?_ | refine e_appendIn ?_); intro _ _ _)) | (show wpC _ _ _ _ _ _; first | refine wpC_seq ?_ | refine wpC_region ?_ | refine c_true ?_ | refine c_false ?_ | (refine c_b (fun _ => ?_) (fun _ => ?_) <;> (first | (exfalso; omega) | contradiction | skip)) | refine wpC_block ?_ | refine wpC_ret ?_ | refine wpC_skip ?_ | refine wpC_exit ?_ | refine wpC_label ?_) | (show Then _ _ _ _ _ _ _; first | refine then_normal ?_ | refine then_ret ?_ | refine then_exit ?_) | (show InBlock _ _ _ _ _ _; first | refine inBlock_normal ?_ | refine inBlock_ret ?_ | refine inBlock_same ?_ | refine b_other ?_) | (show LoopPost _ _ _ _ _ _; first | refine loop_ret ?_ | refine loop_exit ?_) | (show RetP _ _ _ _ _ _ _ _; first | refine r_1 ?_))
  rename_i cb
  refine wpC_loopA (κ := RcS) [4, 5, 10, 11, 12, 13, 14, 15, 16, 17, 18, 19, 20, 21, 22, 23, 24, 25, 26, 27, 28, 29, 30, 31, 32, 33, 34, 35] (fun s => [(4, .int .i64 (s.i : Int))]) (fun s => (rblk cb room s.w fuse k down ++ (s.Bw ++ s.Pg)) ++ ((rblk d room (.slice va fs.length vc) fuse k down ++ (B ++ Pl)) ++ F))
    (fun s => s.i ≤ fs.length ∧ FsO s.w s.gs s.Bw ∧ PlOK s.Pg s.gs ∧ s.gs.map Rf.ab = (fs.take s.i).map Rf.ab) (fun s => fs.length - s.i) ⟨0, .slice none 0 0, [], [], []⟩ ⟨Nat.zero_le _, SlO.nil 96 3, (fun x hx => by cases hx), rfl⟩ ⟨rfl, trivial⟩ q_drp ?_
  rintro ⟨i, w, Bw, gs, Pg⟩ ρx ⟨hi, hw, hPg, hab⟩
  simp only at hi hw hPg hab ⊢
  clear hO
  have hgl : gs.length = i := by
    have := congrArg List.length hab
    simp only [List.length_map, List.length_take] at this
    omega
  cases hr : fs[i]? with
  | none =>
    have hge : fs.length ≤ i := List.getElem?_eq_none_iff.1 hr
    repeat' (first | (show wpO _ _ _ _ _ _ _; first | refine wpO_nil ?_ | (show wpO _ _ _ (⟨_, .binOp _ _ _ _ _, _, _, _, _⟩ :: _) _ _ _; first | refine s_tt ?_ | refine s_ff ?_ | refine s_rdp ?_ | (refine s_cmp (fun _ => ?_) (fun _ => ?_) <;> (first | (exfalso; omega) | contradiction | skip)) | (refine s_cb (fun _ => ?_) (fun _ => ?_) <;> (first | (exfalso; omega) | contradiction | skip))) | (show wpO _ _ _ (⟨_, .indexAddr _ _ _, _, _, _, _⟩ :: _) _ _ _; first | refine s_rdp ?_ | refine s_idx (fun _ _ _ _ _ _ _ => ?_)) | refine s_rdp ?_ | refine s_rdm ?_ | refine s_exq ?_ | refine s_exm ?_) | (show Ex _ _ _ _ _; first | (show Ex _ ⟨_, .alloc _, _, _, _, _⟩ _ _ _; first | (refine e_allocA ?_; intro _) | (refine e_alloc1 ?_; intro _)) | (show Ex _ ⟨_, .store _ _ _, _, _, _, _⟩ _ _ _; first | refine e_store1 ?_ | refine e_storeA ?_ | (refine e_storeO ?_; intro _ _)) | (show Ex _ ⟨_, .buildSlice _ _ _, _, _, _, _⟩ _ _ _; first | (refine e_buildSlice ?_; intro _) | (refine e_buildNil ?_; intro _ _ _)) | (show Ex _ ⟨_, .call ⟨.builtin .append, _, _⟩, _, _, _, _⟩ _ _ _; (first | refine e_append ?_ | refine e_appendIn ?_); intro _ _ _)) | (show wpC _ _ _ _ _ _; first | refine wpC_seq ?_ | refine wpC_region ?_ | refine c_true ?_ | refine c_false ?_ | (refine c_b (fun _ => ?_) (fun _ => ?_) <;> (first | (exfalso; omega) | contradiction | skip)) | refine wpC_block ?_ | refine wpC_ret ?_ | refine wpC_skip ?_ | refine wpC_exit ?_ | refine wpC_label ?_) | (show Then _ _ _ _ _ _ _; first | refine then_normal ?_ | refine then_ret ?_ | refine then_exit ?_) | (show InBlock _ _ _ _ _ _; first | refine inBlock_normal ?_ | refine inBlock_ret ?_ | refine inBlock_same ?_ | refine b_other ?_) | (show LoopPost _ _ _ _ _ _; first | refine loop_ret ?_ | refine loop_exit ?_) | (show RetP _ _ _ _ _ _ _ _; first | refine r_1 ?_))
    rw [List.take_of_length_le hge] at hab
    have hds2 : (Rk.mk gs w Bw Pg fuse k down).ds = (Rk.mk fs (.slice va fs.length vc) B Pl fuse k down).ds := by show DS.mk _ _ _ _ = DS.mk _ _ _ _; rw [hab]
    exact q_drop (hK cb ⟨gs, w, Bw, Pg, fuse, k, down⟩ ⟨hw, hPg, nm_sorted hs (by simpa [Function.comp_def] using congrArg (List.map Prod.fst) hab), by rw [hds2]; exact hxs, hk⟩ hds2)
  | some f =>
    have hlt := (List.getElem?_eq_some_iff.1 hr).1
    have hfm := List.mem_of_getElem? hr
    have hbf := hP f hfm
    have hle : f.bs.length ≤ totA (fs.map Rf.ab) := totA_mem (a := f.ab) (List.mem_map.2 ⟨f, hfm, rfl⟩)
    repeat' ((fail_if_success (show wpO _ _ _ (⟨_, .buildSlice _ _ _, _, _, _, _⟩ :: _) _ _ _)); first | (show wpO _ _ _ _ _ _ _; first | refine wpO_nil ?_ | (show wpO _ _ _ (⟨_, .binOp _ _ _ _ _, _, _, _, _⟩ :: _) _ _ _; first | refine s_tt ?_ | refine s_ff ?_ | refine s_rdp ?_ | (refine s_cmp (fun _ => ?_) (fun _ => ?_) <;> (first | (exfalso; omega) | contradiction | skip)) | (refine s_cb (fun _ => ?_) (fun _ => ?_) <;> (first | (exfalso; omega) | contradiction | skip))) | (show wpO _ _ _ (⟨_, .indexAddr _ _ _, _, _, _, _⟩ :: _) _ _ _; first | refine s_rdp ?_ | refine s_idx (fun _ _ _ _ _ _ _ => ?_)) | refine s_rdp ?_ | refine s_rdm ?_ | refine s_exq ?_ | refine s_exm ?_) | (show Ex _ _ _ _ _; first | (show Ex _ ⟨_, .alloc _, _, _, _, _⟩ _ _ _; first | (refine e_allocA ?_; intro _) | (refine e_alloc1 ?_; intro _)) | (show Ex _ ⟨_, .store _ _ _, _, _, _, _⟩ _ _ _; first | refine e_store1 ?_ | refine e_storeA ?_ | (refine e_storeO ?_; intro _ _)) | (show Ex _ ⟨_, .buildSlice _ _ _, _, _, _, _⟩ _ _ _; first | (refine e_buildSlice ?_; intro _) | (refine e_buildNil ?_; intro _ _ _)) | (show Ex _ ⟨_, .call ⟨.builtin .append, _, _⟩, _, _, _, _⟩ _ _ _; (first | refine e_append ?_ | refine e_appendIn ?_); intro _ _ _)) | (show wpC _ _ _ _ _ _; first | refine wpC_seq ?_ | refine wpC_region ?_ | refine c_true ?_ | refine c_false ?_ | (refine c_b (fun _ => ?_) (fun _ => ?_) <;> (first | (exfalso; omega) | contradiction | skip)) | refine wpC_block ?_ | refine wpC_ret ?_ | refine wpC_skip ?_ | refine wpC_exit ?_ | refine wpC_label ?_) | (show Then _ _ _ _ _ _ _; first | refine then_normal ?_ | refine then_ret ?_ | refine then_exit ?_) | (show InBlock _ _ _ _ _ _; first | refine inBlock_normal ?_ | refine inBlock_ret ?_ | refine inBlock_same ?_ | refine b_other ?_) | (show LoopPost _ _ _ _ _ _; first | refine loop_ret ?_ | refine loop_exit ?_) | (show RetP _ _ _ _ _ _ _ _; first | refine r_1 ?_))
    rename_i bx v' B' hB0
    have hB : BytO v' f.bs B' := by
      rw [Nat.zero_add, List.nil_append] at hB0
      exact hB0
    obtain ⟨a, c, hv⟩ := SlO.val hB
    subst hv
    clear hB0
    repeat' (first | (show wpO _ _ _ _ _ _ _; first | refine wpO_nil ?_ | (show wpO _ _ _ (⟨_, .binOp _ _ _ _ _, _, _, _, _⟩ :: _) _ _ _; first | refine s_tt ?_ | refine s_ff ?_ | refine s_rdp ?_ | (refine s_cmp (fun _ => ?_) (fun _ => ?_) <;> (first | (exfalso; omega) | contradiction | skip)) | (refine s_cb (fun _ => ?_) (fun _ => ?_) <;> (first | (exfalso; omega) | contradiction | skip))) | (show wpO _ _ _ (⟨_, .indexAddr _ _ _, _, _, _, _⟩ :: _) _ _ _; first | refine s_rdp ?_ | refine s_idx (fun _ _ _ _ _ _ _ => ?_)) | refine s_rdp ?_ | refine s_rdm ?_ | refine s_exq ?_ | refine s_exm ?_) | (show Ex _ _ _ _ _; first | (show Ex _ ⟨_, .alloc _, _, _, _, _⟩ _ _ _; first | (refine e_allocA ?_; intro _) | (refine e_alloc1 ?_; intro _)) | (show Ex _ ⟨_, .store _ _ _, _, _, _, _⟩ _ _ _; first | refine e_store1 ?_ | refine e_storeA ?_ | (refine e_storeO ?_; intro _ _)) | (show Ex _ ⟨_, .buildSlice _ _ _, _, _, _, _⟩ _ _ _; first | (refine e_buildSlice ?_; intro _) | (refine e_buildNil ?_; intro _ _ _)) | (show Ex _ ⟨_, .call ⟨.builtin .append, _, _⟩, _, _, _, _⟩ _ _ _; (first | refine e_append ?_ | refine e_appendIn ?_); intro _ _ _)) | (show wpC _ _ _ _ _ _; first | refine wpC_seq ?_ | refine wpC_region ?_ | refine c_true ?_ | refine c_false ?_ | (refine c_b (fun _ => ?_) (fun _ => ?_) <;> (first | (exfalso; omega) | contradiction | skip)) | refine wpC_block ?_ | refine wpC_ret ?_ | refine wpC_skip ?_ | refine wpC_exit ?_ | refine wpC_label ?_) | (show Then _ _ _ _ _ _ _; first | refine then_normal ?_ | refine then_ret ?_ | refine then_exit ?_) | (show InBlock _ _ _ _ _ _; first | refine inBlock_normal ?_ | refine inBlock_ret ?_ | refine inBlock_same ?_ | refine b_other ?_) | (show LoopPost _ _ _ _ _ _; first | refine loop_ret ?_ | refine loop_exit ?_) | (show RetP _ _ _ _ _ _ _ _; first | refine r_1 ?_))
    rename_i bb w' Bw' hw'
    have hw2 : FsO w' (gs ++ [(⟨f.nm, a, c, f.bs, f.syn⟩ : Rf)]) Bw' := hw'.cast (by simp) (by simp)
    refine lp_end ⟨i + 1, w', Bw', gs ++ [(⟨f.nm, a, c, f.bs, f.syn⟩ : Rf)], B' ++ Pg⟩ (by simp only; omega) ⟨hlt, hw2, fun x hx => ?_, ?_⟩
    · rcases List.mem_append.1 hx with hx | hx
      · exact (hPg x hx).more fun y hy => List.mem_append_right _ hy
      · obtain rfl := List.mem_singleton.1 hx
        exact (byIn hB).more fun y hy => List.mem_append_left _ hy
    · show List.map Rf.ab _ = _
      rw [List.map_append, hab, List.take_add_one, hr, List.map_append]
      rfl
end Go.Vl
