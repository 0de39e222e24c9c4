/-
  The document's disk: bytes put to a file's end; a file dropped.
-/
import Derived.Test.YtkamfmdonhaikaaR2
namespace Go.Vl
open Go.Proofs
set_option maxHeartbeats 4000000 in
set_option maxRecDepth 100000 in
theorem rows3 {fs : List Rf} : ∀ r ∈ fs.map Rf.cells, r.length = 3 := fun r hr => by obtain ⟨x, _, rfl⟩ := List.mem_map.1 hr; rfl
set_option maxHeartbeats 4000000 in
set_option maxRecDepth 100000 in
theorem fsRow {l1 l2 : List Rf} {f : Rf} : ((l1 ++ f :: l2).map Rf.cells)[l1.length]? = some f.cells := by simp
set_option maxHeartbeats 4000000 in
set_option maxRecDepth 100000 in
theorem fsAt {v : Value} {l1 l2 : List Rf} {f : Rf} {B : Hp} (h : FsO v (l1 ++ f :: l2) B) : ∃ g cap cur, v = .slice (some ⟨g, 0, none⟩) (l1 ++ f :: l2).length cap ∧ B = [(g, .cells cur 96 (0, 0))] ∧ RowAt cur (0 + l1.length * 3) 3 f.cells := by
  obtain ⟨g, cap, cur, h1, h2, h3⟩ := SlO.at (rows := (l1 ++ f :: l2).map Rf.cells) (by rw [List.length_map]; exact h) rows3 (i := l1.length) (r := f.cells) fsRow
  exact ⟨g, cap, cur, by rw [h1, List.length_map], h2, h3⟩
set_option maxHeartbeats 4000000 in
set_option maxRecDepth 100000 in
theorem fsSet {l1 l2 : List Rf} {f f' : Rf} : (((l1 ++ f :: l2).map Rf.cells).set l1.length f'.cells) = (l1 ++ f' :: l2).map Rf.cells := by
  rw [List.map_append, List.map_cons, List.map_append, List.map_cons, List.set_append_right _ _ (by simp)]
  simp
set_option maxHeartbeats 4000000 in
set_option maxRecDepth 100000 in
theorem byIn {v : Value} {bs : List UInt8} {B : Hp} (h : BytO v bs B) : InSl B 1 (bs.map byC) v := SlO.inB (by rw [List.length_map]; exact h) (fun r hr => by obtain ⟨u, _, rfl⟩ := List.mem_map.1 hr; exact ⟨rfl, rfl⟩)
set_option maxHeartbeats 4000000 in
set_option maxRecDepth 100000 in
theorem BytO.app {v : Value} {xs bs : List UInt8} {B : Hp} (h : SlO 5 1 v (0 + xs.length + bs.length) ([] ++ (xs.map byC).flatten ++ (bs.map byC).flatten) B) : BytO v (xs ++ bs) B := by
  show SlO 5 1 v (xs ++ bs).length ((xs ++ bs).map byC).flatten B
  rw [List.length_append, List.map_append, List.flatten_append]
  simpa using h
set_option maxHeartbeats 4000000 in
set_option maxRecDepth 100000 in
theorem PlOK.more {Pl Pl' : Hp} {fs : List Rf} (h : PlOK Pl fs) (hs : ∀ x ∈ Pl, x ∈ Pl') : PlOK Pl' fs := fun f hf => (h f hf).more hs
set_option maxHeartbeats 4000000 in
set_option maxRecDepth 100000 in
theorem put_sorted {l1 l2 : List Rf} {f f' : Rf} (h : (l1 ++ f :: l2).Pairwise fun f g => ltN f.nm g.nm) (hn : f'.nm = f.nm) : (l1 ++ f' :: l2).Pairwise fun f g => ltN f.nm g.nm := by
  rw [← List.pairwise_map (f := Rf.nm) (R := ltN)] at h ⊢
  rw [List.map_append, List.map_cons] at h ⊢
  rw [hn]
  exact h
set_option maxHeartbeats 4000000 in
set_option maxRecDepth 100000 in
theorem sorted_names {fs : List Rf} (h : fs.Pairwise fun f g => ltN f.nm g.nm) : ((fs.map Rf.ab).map Prod.fst).Nodup := by
  rw [List.map_map]
  exact List.Pairwise.map _ (fun a b hab he => ltN_irrefl a.nm (by have : a.nm = b.nm := he; rw [← this] at hab; exact hab)) h
attribute [local irreducible] wpC wpO wpD Ex Rd callsK RetP Drop valK
set_option maxHeartbeats 4000000 in
set_option maxRecDepth 100000 in
theorem put_spec (e : World) {d : Nat} {room fuse : Int} {v vb : Value} {k : Nat} {down : Bool} {fs : List Rf} {n : ByteArray} {bs : List UInt8} {B Pl Fn F : Hp} {K : Value → Hp → Prop} (hO : FsO v fs B) (hP : PlOK Pl fs) (hl : fs.length ≤ 1024) (hs : fs.Pairwise fun f g => ltN f.nm g.nm) (hb : InSl Fn 1 (bs.map byC) vb) (hcap : bs.length + totA (fs.map Rf.ab) ≤ 140737488355328)
    (hK : ∀ v' B' Pl' fs', FsO v' fs' B' → PlOK Pl' fs' → (fs'.Pairwise fun f g => ltN f.nm g.nm) → (fs'.map Rf.ab).Perm (appd (fs.map Rf.ab) n bs) → K (.tuple #[]) (((rblk d room v' fuse k down ++ (B' ++ Pl')) ++ Fn) ++ F)) :
    callsK Try.prog e 103 #[pv d, .string n, vb] (((rblk d room v fuse k down ++ (B ++ Pl)) ++ Fn) ++ F) K := by
  have hnil5 := SlO.nil 5 1
  have hnil96 := SlO.nil 96 3
  have hin := fsIn hO
  refine calls_body (N := 58) (args := [pv d, .string n, vb]) Try.func103 rfl rfl rfl (by simp) ?_
  repeat' ((fail_if_success (show wpC _ (.cond (.tmp 16) _ _) _ _ _ _)); first | (show wpO _ _ _ _ _ _ _; first | refine wpO_nil ?_ | (show wpO _ _ _ (⟨_, .indexAddr _ _ _, _, _, _, _⟩ :: _) _ _ _; first | refine s_rdp ?_ | refine s_idx (fun _ _ _ _ _ _ _ => ?_)) | (show wpO _ _ _ (⟨_, .slice _ _ _ _ _, _, _, _, _⟩ :: _) _ _ _; first | refine s_rdp ?_ | refine s_sliceHiT (fun _ _ => ?_) | refine s_clipO (fun _ _ => ?_) | refine s_sliceHi (fun _ _ => ?_) | refine s_sliceLo (fun _ _ => ?_)) | refine s_rdp ?_ | refine s_rdm ?_ | refine s_exq ?_ | refine s_exm ?_) | (show Ex _ _ _ _ _; first | (show Ex _ ⟨_, .call ⟨.value (.func _), _, _⟩, _, _, _, _⟩ _ _ _; refine e_call ?_; first | (apply p_pcs; apply find_spec _ hO hl hs; (try case hS => assumption); (case hpcs => (repeat (first | exact Pcs.blk (by infer_instance) | exact Pcs.nil | (apply Pcs.cons; infer_instance) | apply Pcs.app))))) | (show Ex _ ⟨_, .store _ _ _, _, _, _, _⟩ _ _ _; first | refine e_store1 ?_ | refine e_storeA ?_ | (refine e_storeO ?_; intro _ _)) | (show Ex _ ⟨_, .buildSlice _ _ _, _, _, _, _⟩ _ _ _; first | (refine e_buildSlice ?_; intro _) | (refine e_buildNil ?_; intro _ _ _)) | (show Ex _ ⟨_, .call ⟨.builtin .append, _, _⟩, _, _, _, _⟩ _ _ _; (first | refine e_append ?_ | refine e_appendIn ?_); intro _ _ _)) | (show wpC _ _ _ _ _ _; first | refine wpC_seq ?_ | refine wpC_region ?_ | refine c_true ?_ | refine c_false ?_ | (refine c_b (fun _ => ?_) (fun _ => ?_) <;> (first | (exfalso; omega) | contradiction | skip)) | refine wpC_ret ?_ | refine wpC_skip ?_ | refine wpC_label ?_ | (apply wpC_drawX (id := 5) ([]) [0, 1, 2, 3, 4, 5, 6, 7, 8, 9, 10, 11, 12, 14, 13, 15, 16, 17, 18] rfl (by kernel_rfl); (case hpk => (repeat (first | exact Pcs.blk (by infer_instance) | exact Pcs.nil | (apply Pcs.cons; infer_instance) | apply Pcs.app))))) | (show Then _ _ _ _ _ _ _; first | refine then_normal ?_ | refine then_ret ?_) | (show wpD _ _ _ _ _ _ _ _; first | refine wpD_nil ?_ | refine d_rdp ?_ | refine d_rdm ?_ | refine d_idx (fun _ _ _ _ _ _ _ => ?_) | refine d_sliceHiT (fun _ _ => ?_) | refine d_clipO (fun _ _ => ?_) | refine d_sliceHi (fun _ _ => ?_) | refine d_sliceLo (fun _ _ => ?_) | refine d_exs ?_ | refine d_exn ?_) | (show (_ ∨ Subs _ _) ∧ _; first | refine d_sub ?_ | refine d_cov ?_) | (show RetP _ _ _ _ _ _ _ _; first | refine r_0 ?_) | assumption | intro _)
  · rename_i l1 f l2 hfs hnm
    subst hfs
    have hle : f.bs.length ≤ totA ((l1 ++ f :: l2).map Rf.ab) := totA_mem (a := f.ab) (List.mem_map.2 ⟨f, by simp, rfl⟩)
    obtain ⟨g, cap, cur, rfl, rfl, hra⟩ := fsAt hO
    have hri := fsRow (l1 := l1) (l2 := l2) (f := f)
    have hlr := rows3 (fs := l1 ++ f :: l2)
    have hbf := hP f (by simp)
    have hll : l1.length < (l1 ++ f :: l2).length := by simp
    clear hnil96 hin
    repeat' (first | (show wpO _ _ _ _ _ _ _; first | refine wpO_nil ?_ | (show wpO _ _ _ (⟨_, .indexAddr _ _ _, _, _, _, _⟩ :: _) _ _ _; first | refine s_rdp ?_ | refine s_idx (fun _ _ _ _ _ _ _ => ?_)) | (show wpO _ _ _ (⟨_, .slice _ _ _ _ _, _, _, _, _⟩ :: _) _ _ _; first | refine s_rdp ?_ | refine s_sliceHiT (fun _ _ => ?_) | refine s_clipO (fun _ _ => ?_) | refine s_sliceHi (fun _ _ => ?_) | refine s_sliceLo (fun _ _ => ?_)) | refine s_rdp ?_ | refine s_rdm ?_ | refine s_exq ?_ | refine s_exm ?_) | (show Ex _ _ _ _ _; first | (refine e_storeF ?_; intro _ _ _ _ _) | (show Ex _ ⟨_, .store _ _ _, _, _, _, _⟩ _ _ _; first | refine e_store1 ?_ | refine e_storeA ?_ | (refine e_storeO ?_; intro _ _)) | (show Ex _ ⟨_, .buildSlice _ _ _, _, _, _, _⟩ _ _ _; first | (refine e_buildSlice ?_; intro _) | (refine e_buildNil ?_; intro _ _ _)) | (show Ex _ ⟨_, .call ⟨.builtin .append, _, _⟩, _, _, _, _⟩ _ _ _; (first | refine e_append ?_ | refine e_appendIn ?_); intro _ _ _)) | (show wpC _ _ _ _ _ _; first | refine wpC_seq ?_ | refine wpC_region ?_ | refine c_true ?_ | refine c_false ?_ | (refine c_b (fun _ => ?_) (fun _ => ?_) <;> (first | (exfalso; omega) | contradiction | skip)) | refine wpC_ret ?_ | refine wpC_skip ?_ | refine wpC_label ?_ | (apply wpC_drawX (id := 5) ([]) [0, 1, 2, 3, 4, 5, 6, 7, 8, 9, 10, 11, 12, 14, 13, 15, 16, 17, 18] rfl (by kernel_rfl); (case hpk => (repeat (first | exact Pcs.blk (by infer_instance) | exact Pcs.nil | (apply Pcs.cons; infer_instance) | apply Pcs.app))))) | (show Then _ _ _ _ _ _ _; first | refine then_normal ?_ | refine then_ret ?_) | (show wpD _ _ _ _ _ _ _ _; first | refine wpD_nil ?_ | refine d_rdp ?_ | refine d_rdm ?_ | refine d_idx (fun _ _ _ _ _ _ _ => ?_) | refine d_sliceHiT (fun _ _ => ?_) | refine d_clipO (fun _ _ => ?_) | refine d_sliceHi (fun _ _ => ?_) | refine d_sliceLo (fun _ _ => ?_) | refine d_exs ?_ | refine d_exn ?_) | (show (_ ∨ Subs _ _) ∧ _; first | refine d_sub ?_ | refine d_cov ?_) | (show RetP _ _ _ _ _ _ _ _; first | refine r_0 ?_) | assumption | intro _)
    rename_i v1 B1 hv1 v2 B2 hv2 cur' hS' hra' hl' hri'
    have hB2 := BytO.app hv2
    obtain ⟨a, c, rfl⟩ := SlO.val hB2
    have hc : f.cells.set 1 (.slice a (f.bs ++ bs).length c) = (⟨f.nm, a, c, f.bs ++ bs, f.syn⟩ : Rf).cells := rfl
    rw [hc, fsSet] at hS'
    refine q_drop (hK _ [(g, .cells cur' 96 (0, 0))] (B2 ++ Pl) (l1 ++ ⟨f.nm, a, c, f.bs ++ bs, f.syn⟩ :: l2) (hS'.cast (by simp) rfl) (fun x hx => ?_) (put_sorted hs rfl) ?_)
    · rcases List.mem_append.1 hx with hx | hx
      · exact (hP x (List.mem_append_left _ hx)).more fun y hy => List.mem_append_right _ hy
      · rcases List.mem_cons.1 hx with rfl | hx
        · exact (byIn hB2).more fun y hy => List.mem_append_left _ hy
        · exact (hP x (List.mem_append_right _ (List.mem_cons_of_mem _ hx))).more fun y hy => List.mem_append_right _ hy
    · subst hnm
      refine .of_eq ?_
      rw [appd_in (L1 := l1.map Rf.ab) (L2 := l2.map Rf.ab) (a := f.ab) (sorted_names hs) (by simp)]
      simp
  · rename_i l1 l2 hfs hlt hgt
    subst hfs
    have hll : l1.length ≤ (l1 ++ l2).length := by simp
    repeat' ((fail_if_success (show wpC _ (.region 5 _ _) _ _ _ _)); first | (refine s_sliceHi (fun _ _ => ?_)) | (refine s_sliceLo (fun _ _ => ?_)) | (show wpO _ _ _ _ _ _ _; first | refine wpO_nil ?_ | (show wpO _ _ _ (⟨_, .indexAddr _ _ _, _, _, _, _⟩ :: _) _ _ _; first | refine s_rdp ?_ | refine s_idx (fun _ _ _ _ _ _ _ => ?_)) | (show wpO _ _ _ (⟨_, .slice _ _ _ _ _, _, _, _, _⟩ :: _) _ _ _; first | refine s_rdp ?_ | refine s_sliceHiT (fun _ _ => ?_) | refine s_clipO (fun _ _ => ?_) | refine s_sliceHi (fun _ _ => ?_) | refine s_sliceLo (fun _ _ => ?_)) | refine s_rdp ?_ | refine s_rdm ?_ | refine s_exq ?_ | refine s_exm ?_) | (show Ex _ _ _ _ _; first | (show Ex _ ⟨_, .store _ _ _, _, _, _, _⟩ _ _ _; first | refine e_store1 ?_ | refine e_storeA ?_ | (refine e_storeO ?_; intro _ _)) | (show Ex _ ⟨_, .buildSlice _ _ _, _, _, _, _⟩ _ _ _; first | (refine e_buildSlice ?_; intro _) | (refine e_buildNil ?_; intro _ _ _)) | (show Ex _ ⟨_, .call ⟨.builtin .append, _, _⟩, _, _, _, _⟩ _ _ _; (first | refine e_append ?_ | refine e_appendIn ?_); intro _ _ _)) | (show wpC _ _ _ _ _ _; first | refine wpC_seq ?_ | refine wpC_region ?_ | refine c_true ?_ | refine c_false ?_ | (refine c_b (fun _ => ?_) (fun _ => ?_) <;> (first | (exfalso; omega) | contradiction | skip)) | refine wpC_ret ?_ | refine wpC_skip ?_ | refine wpC_label ?_ | (apply wpC_drawX (id := 5) ([]) [0, 1, 2, 3, 4, 5, 6, 7, 8, 9, 10, 11, 12, 14, 13, 15, 16, 17, 18] rfl (by kernel_rfl); (case hpk => (repeat (first | exact Pcs.blk (by infer_instance) | exact Pcs.nil | (apply Pcs.cons; infer_instance) | apply Pcs.app))))) | (show Then _ _ _ _ _ _ _; first | refine then_normal ?_ | refine then_ret ?_) | (show wpD _ _ _ _ _ _ _ _; first | refine wpD_nil ?_ | refine d_rdp ?_ | refine d_rdm ?_ | refine d_idx (fun _ _ _ _ _ _ _ => ?_) | refine d_sliceHiT (fun _ _ => ?_) | refine d_clipO (fun _ _ => ?_) | refine d_sliceHi (fun _ _ => ?_) | refine d_sliceLo (fun _ _ => ?_) | refine d_exs ?_ | refine d_exn ?_) | (show (_ ∨ Subs _ _) ∧ _; first | refine d_sub ?_ | refine d_cov ?_) | (show RetP _ _ _ _ _ _ _ _; first | refine r_0 ?_))
    rename_i vt hvt va Ba ha bb vb2 Bb hb2 vd hvd vc Bc hc
    have hO2 : FsO vc (l1 ++ (⟨n, none, 0, [], 0⟩ : Rf) :: l2) Bc := by
      refine hc.cast ?_ ?_
      · simp
        omega
      · simp
    have hP2 : PlOK Pl (l1 ++ (⟨n, none, 0, [], 0⟩ : Rf) :: l2) := fun x hx => by
      rcases List.mem_append.1 hx with hx | hx
      · exact hP x (List.mem_append_left _ hx)
      · rcases List.mem_cons.1 hx with rfl | hx
        · exact InSl.nil
        · exact hP x (List.mem_append_right _ hx)
    have hs2 : (l1 ++ (⟨n, none, 0, [], 0⟩ : Rf) :: l2).Pairwise fun f g => ltN f.nm g.nm := by
      rw [List.pairwise_append] at hs ⊢
      refine ⟨hs.1, List.pairwise_cons.2 ⟨hgt, hs.2.1⟩, fun a ha b hb => ?_⟩
      rcases List.mem_cons.1 hb with rfl | hb
      · exact hlt a ha
      · exact hs.2.2 a ha b hb
    have hbf : InSl Pl 1 (([] : List UInt8).map byC) (.slice none 0 0) := InSl.nil
    have hbl : ([] : List UInt8).length = 0 := rfl
    clear hc hvd hb2 ha hvt hin hO hnil96
    obtain ⟨g, cap, cur, rfl, rfl, hra⟩ := fsAt hO2
    have hri := fsRow (l1 := l1) (l2 := l2) (f := (⟨n, none, 0, [], 0⟩ : Rf))
    have hlr := rows3 (fs := l1 ++ (⟨n, none, 0, [], 0⟩ : Rf) :: l2)
    have hll : l1.length < (l1 ++ (⟨n, none, 0, [], 0⟩ : Rf) :: l2).length := by simp
    repeat' (first | (show wpO _ _ _ _ _ _ _; first | refine wpO_nil ?_ | (show wpO _ _ _ (⟨_, .indexAddr _ _ _, _, _, _, _⟩ :: _) _ _ _; first | refine s_rdp ?_ | refine s_idx (fun _ _ _ _ _ _ _ => ?_)) | (show wpO _ _ _ (⟨_, .slice _ _ _ _ _, _, _, _, _⟩ :: _) _ _ _; first | refine s_rdp ?_ | refine s_sliceHiT (fun _ _ => ?_) | refine s_clipO (fun _ _ => ?_) | refine s_sliceHi (fun _ _ => ?_) | refine s_sliceLo (fun _ _ => ?_)) | refine s_rdp ?_ | refine s_rdm ?_ | refine s_exq ?_ | refine s_exm ?_) | (show Ex _ _ _ _ _; first | (refine e_storeF ?_; intro _ _ _ _ _) | (show Ex _ ⟨_, .store _ _ _, _, _, _, _⟩ _ _ _; first | refine e_store1 ?_ | refine e_storeA ?_ | (refine e_storeO ?_; intro _ _)) | (show Ex _ ⟨_, .buildSlice _ _ _, _, _, _, _⟩ _ _ _; first | (refine e_buildSlice ?_; intro _) | (refine e_buildNil ?_; intro _ _ _)) | (show Ex _ ⟨_, .call ⟨.builtin .append, _, _⟩, _, _, _, _⟩ _ _ _; (first | refine e_append ?_ | refine e_appendIn ?_); intro _ _ _)) | (show wpC _ _ _ _ _ _; first | refine wpC_seq ?_ | refine wpC_region ?_ | refine c_true ?_ | refine c_false ?_ | (refine c_b (fun _ => ?_) (fun _ => ?_) <;> (first | (exfalso; omega) | contradiction | skip)) | refine wpC_ret ?_ | refine wpC_skip ?_ | refine wpC_label ?_ | (apply wpC_drawX (id := 5) ([]) [0, 1, 2, 3, 4, 5, 6, 7, 8, 9, 10, 11, 12, 14, 13, 15, 16, 17, 18] rfl (by kernel_rfl); (case hpk => (repeat (first | exact Pcs.blk (by infer_instance) | exact Pcs.nil | (apply Pcs.cons; infer_instance) | apply Pcs.app))))) | (show Then _ _ _ _ _ _ _; first | refine then_normal ?_ | refine then_ret ?_) | (show wpD _ _ _ _ _ _ _ _; first | refine wpD_nil ?_ | refine d_rdp ?_ | refine d_rdm ?_ | refine d_idx (fun _ _ _ _ _ _ _ => ?_) | refine d_sliceHiT (fun _ _ => ?_) | refine d_clipO (fun _ _ => ?_) | refine d_sliceHi (fun _ _ => ?_) | refine d_sliceLo (fun _ _ => ?_) | refine d_exs ?_ | refine d_exn ?_) | (show (_ ∨ Subs _ _) ∧ _; first | refine d_sub ?_ | refine d_cov ?_) | (show RetP _ _ _ _ _ _ _ _; first | refine r_0 ?_) | assumption | intro _)
    rename_i v1 B1 hv1 v2 B2 hv2 cur' hS' hra' hl' hri'
    have hB2 : BytO v2 ([] ++ bs) B2 := BytO.app (xs := []) hv2
    obtain ⟨a, c, rfl⟩ := SlO.val hB2
    have hc : (⟨n, none, 0, [], 0⟩ : Rf).cells.set 1 (.slice a ([] ++ bs).length c) = (⟨n, a, c, [] ++ bs, 0⟩ : Rf).cells := rfl
    rw [hc, fsSet] at hS'
    refine q_drop (hK _ [(g, .cells cur' 96 (0, 0))] (B2 ++ Pl) (l1 ++ ⟨n, a, c, [] ++ bs, 0⟩ :: l2) (hS'.cast (by simp) rfl) (fun x hx => ?_) (put_sorted hs2 rfl) ?_)
    · rcases List.mem_append.1 hx with hx | hx
      · exact (hP x (List.mem_append_left _ hx)).more fun y hy => List.mem_append_right _ hy
      · rcases List.mem_cons.1 hx with rfl | hx
        · exact (byIn hB2).more fun y hy => List.mem_append_left _ hy
        · exact (hP x (List.mem_append_right _ hx)).more fun y hy => List.mem_append_right _ hy
    · rw [appd_out (fun a ha => ?_)]
      · simp only [List.map_append, List.map_cons, List.nil_append, List.append_assoc]
        exact (List.perm_append_comm (l₁ := [_]) (l₂ := l2.map Rf.ab)).append_left _
      · obtain ⟨x, hx, rfl⟩ := List.mem_map.1 ha
        intro he
        rcases List.mem_append.1 hx with hx | hx
        · exact ltN_irrefl n (by have := hlt x hx; rwa [show x.nm = n from he] at this)
        · exact ltN_irrefl n (by have := hgt x hx; rwa [show x.nm = n from he] at this)
end Go.Vl
