/-
  The document's disk: its other methods, each as a step of the plain disk.
-/
import Derived.Test.YtkamfmdonhaikaaR5
namespace Go.Vl
open Go.Proofs
attribute [local irreducible] wpC wpO wpD Ex Rd callsK RetP Drop valK
set_option maxHeartbeats 4000000 in
set_option maxRecDepth 100000 in
theorem rthere1 (e : World) {d b : Nat} {room fuse : Int} {v : Value} {k : Nat} {down : Bool} {fs : List Rf} {s : ByteArray} {B F : Hp} {K : Value → Hp → Prop} (hO : FsO v fs B) (hl : fs.length ≤ 1024) (hs : fs.Pairwise fun f g => ltN f.nm g.nm)
    (h7 : down = true → K (.tuple #[.int .i64 0, .int .i64 7]) (((rblk d room v fuse k down ++ B) ++ [(b, cellsO [.string s] 9)]) ++ F)) (h20 : down = false → ¬ okN s → K (.tuple #[.int .i64 0, .int .i64 20]) (((rblk d room v fuse k down ++ B) ++ [(b, cellsO [.string s] 9)]) ++ F))
    (h4 : down = false → okN s → (∀ f ∈ fs, f.nm ≠ s) → K (.tuple #[.int .i64 0, .int .i64 4]) (((rblk d room v fuse k down ++ B) ++ [(b, cellsO [.string s] 9)]) ++ F))
    (h0 : ∀ l1 f l2, down = false → okN s → fs = l1 ++ f :: l2 → f.nm = s → K (.tuple #[.int .i64 (l1.length : Int), .int .i64 0]) (((rblk d room v fuse k down ++ B) ++ [(b, cellsO [.string s] 9)]) ++ F)) :
    callsK Try.prog e 104 #[pv d, .slice (some ⟨b, 0, none⟩) 1 1] (((rblk d room v fuse k down ++ B) ++ [(b, cellsO [.string s] 9)]) ++ F) K :=
  rthere_spec (ss := []) e hO hl hs (by simp) h7 (fun h h' => h20 h (by simpa using h')) (fun h h' => h4 h (by simpa using h')) (fun l1 f l2 h h' => h0 l1 f l2 h (by simpa using h'))
set_option maxHeartbeats 4000000 in
set_option maxRecDepth 100000 in
theorem rthere2 (e : World) {d b : Nat} {room fuse : Int} {v : Value} {k : Nat} {down : Bool} {fs : List Rf} {s r : ByteArray} {B F : Hp} {K : Value → Hp → Prop} (hO : FsO v fs B) (hl : fs.length ≤ 1024) (hs : fs.Pairwise fun f g => ltN f.nm g.nm)
    (h7 : down = true → K (.tuple #[.int .i64 0, .int .i64 7]) (((rblk d room v fuse k down ++ B) ++ [(b, cellsO [.string s, .string r] 9)]) ++ F)) (h20 : down = false → ¬ (okN s ∧ okN r) → K (.tuple #[.int .i64 0, .int .i64 20]) (((rblk d room v fuse k down ++ B) ++ [(b, cellsO [.string s, .string r] 9)]) ++ F))
    (h4 : down = false → (okN s ∧ okN r) → (∀ f ∈ fs, f.nm ≠ s) → K (.tuple #[.int .i64 0, .int .i64 4]) (((rblk d room v fuse k down ++ B) ++ [(b, cellsO [.string s, .string r] 9)]) ++ F))
    (h0 : ∀ l1 f l2, down = false → (okN s ∧ okN r) → fs = l1 ++ f :: l2 → f.nm = s → K (.tuple #[.int .i64 (l1.length : Int), .int .i64 0]) (((rblk d room v fuse k down ++ B) ++ [(b, cellsO [.string s, .string r] 9)]) ++ F)) :
    callsK Try.prog e 104 #[pv d, .slice (some ⟨b, 0, none⟩) 2 2] (((rblk d room v fuse k down ++ B) ++ [(b, cellsO [.string s, .string r] 9)]) ++ F) K := by
  have hand : (∀ x ∈ [s, r], okN x) ↔ okN s ∧ okN r := by simp
  exact rthere_spec (ss := [r]) e hO hl hs (by simp) h7 (fun h h' => h20 h (fun h2 => by obtain ⟨x, hx, hn⟩ := h'; exact hn (hand.2 h2 x hx))) (fun h h' => h4 h (hand.1 h')) (fun l1 f l2 h h' => h0 l1 f l2 h (hand.1 h'))
set_option maxHeartbeats 4000000 in
set_option maxRecDepth 100000 in
theorem notR {fs : List Rf} {n : ByteArray} (h : ∀ f ∈ fs, f.nm ≠ n) : ¬ hasA (fs.map Rf.ab) n := fun h1 => by
  obtain ⟨f, hf, he⟩ := hasR.1 h1
  exact h f hf he
set_option maxHeartbeats 4000000 in
set_option maxRecDepth 100000 in
theorem there_0 {s : DS} {ok : Prop} {n : ByteArray} {L : List Ab} (h : s.down = false) (h2 : ok) (h3 : hasA s.L n) (h1 : s.left = 0) : s.there ok n L = (0, ⟨L, 0, s.keep, s.down⟩) := by
  unfold DS.there
  rw [if_neg (by simp [h]), if_neg (by simpa using h2), if_neg (by simpa using h3), chg_0 h1]
set_option maxHeartbeats 4000000 in
set_option maxRecDepth 100000 in
theorem there_2 {s : DS} {ok : Prop} {n : ByteArray} {L : List Ab} (h : s.down = false) (h2 : ok) (h3 : hasA s.L n) (h1 : s.left ≠ 0) (h4 : s.left ≠ 1) : s.there ok n L = (0, ⟨L, s.left - 1, s.keep, s.down⟩) := by
  unfold DS.there
  rw [if_neg (by simp [h]), if_neg (by simpa using h2), if_neg (by simpa using h3), chg_2 h1 h4]
set_option maxHeartbeats 4000000 in
set_option maxRecDepth 100000 in
theorem sync_ab {l1 l2 : List Rf} {f : Rf} (hs : (l1 ++ f :: l2).Pairwise fun f g => ltN f.nm g.nm) : (l1 ++ (⟨f.nm, f.a, f.c, f.bs, f.bs.length⟩ : Rf) :: l2).map Rf.ab = ((l1 ++ f :: l2).map Rf.ab).map (synA f.nm) := by
  rw [List.pairwise_append, List.pairwise_cons] at hs
  obtain ⟨_, ⟨h2, _⟩, h3⟩ := hs
  have e : ∀ l : List Rf, (∀ x ∈ l, x.nm ≠ f.nm) → l.map Rf.ab = (l.map Rf.ab).map (synA f.nm) := fun l hl => by
    rw [List.map_map]
    exact List.map_congr_left fun x hx => (if_neg (hl x hx)).symm
  rw [List.map_append, List.map_cons, List.map_append, List.map_cons, List.map_append, List.map_cons, ← e l1 (fun x hx he => ltN_irrefl _ (by have := h3 x hx f (by simp); rwa [he] at this)), ← e l2 (fun x hx he => ltN_irrefl _ (by have := h2 x hx; rwa [he] at this))]
  unfold synA
  rw [if_pos rfl]
set_option maxHeartbeats 4000000 in
set_option maxRecDepth 100000 in
theorem rem_ab {fs : List Rf} {n : ByteArray} : (fs.filter fun x => decide (x.nm ≠ n)).map Rf.ab = delA (fs.map Rf.ab) n := by
  unfold delA
  rw [List.filter_map]
  rfl
set_option maxHeartbeats 4000000 in
set_option maxRecDepth 100000 in
theorem rsync_D (e : World) {s : ByteArray} {F : Hp} {d : Nat} {x : Rk} {room : Int} {K : Value → Hp → Prop} (hx : x.ok room) (hcap : totA (x.fs.map Rf.ab) ≤ 140737488355328)
    (hK : ∀ r' : Rk, r'.ok room → r'.ds.F (x.ds.sync s).2 → K (.int .i64 (x.ds.sync s).1) (r'.hp d room ++ F)) :
    callsK Try.prog e 63 #[pv d, .string s] (x.hp d room ++ F) K := by
  have hR : (x.ds.sync s).2.ok room := hx.s.run ⟨1, s, s, none, 0, [], 0, 0⟩ (show (0 : Int) ≤ 9223372036854775807 by decide)
  obtain ⟨hO, hP, hs, hds, hk⟩ := hx; obtain ⟨fs, v, B, Pl, fuse, k, down⟩ := x; simp only at hO hP hs hk hK hR hcap ⊢; have hl : fs.length ≤ 1024 := (by have := hds.len; simpa using this); have hf0 := hds.l0; have hf1 := hds.l1; have hsy : ∀ f ∈ fs, f.syn ≤ f.bs.length := (fun f hf => hds.syn f.ab (List.mem_map.2 ⟨f, hf, rfl⟩)); simp only at hf0 hf1
  refine calls_body (N := 41) (args := [pv d, .string s]) Try.func63 rfl rfl rfl (by simp) ?_
  repeat' ((fail_if_success (show wpC _ (.region 7 _ _) _ _ _ _)); first | (show wpO _ _ _ _ _ _ _; first | refine wpO_nil ?_ | (show wpO _ _ _ (⟨_, .binOp _ _ _ _ _, _, _, _, _⟩ :: _) _ _ _; first | refine s_tt ?_ | refine s_ff ?_ | refine s_rdp ?_ | (refine s_cmp (fun _ => ?_) (fun _ => ?_) <;> (first | (exfalso; omega) | contradiction | skip)) | (refine s_cb (fun _ => ?_) (fun _ => ?_) <;> (first | (exfalso; omega) | contradiction | skip))) | (show wpO _ _ _ (⟨_, .indexAddr _ _ _, _, _, _, _⟩ :: _) _ _ _; first | refine s_rdp ?_ | refine s_idx (fun _ _ _ _ _ _ _ => ?_)) | refine s_rdp ?_ | refine s_rdm ?_ | refine s_exq ?_ | refine s_exm ?_) | (show Ex _ _ _ _ _; first | (show Ex _ ⟨_, .call ⟨.value (.func _), _, _⟩, _, _, _, _⟩ _ _ _; refine e_call ?_; first | (apply p_pcs; apply rthere1 _ hO hl hs; (try case hS => assumption); (case hpcs => (repeat (first | exact Pcs.blk (by infer_instance) | exact Pcs.nil | (apply Pcs.cons; infer_instance) | apply Pcs.app)))) | (apply p_pcs; apply blows_spec _ hf0 hf1; (try case hS => assumption); (case hpcs => (repeat (first | exact Pcs.blk (by infer_instance) | exact Pcs.nil | (apply Pcs.cons; infer_instance) | apply Pcs.app)))) | (apply p_pcs; apply rcrash_spec _ hO hP hl hsy hcap hk; (try case hS => assumption); (case hpcs => (repeat (first | exact Pcs.blk (by infer_instance) | exact Pcs.nil | (apply Pcs.cons; infer_instance) | apply Pcs.app))))) | (show Ex _ ⟨_, .store _ _ _, _, _, _, _⟩ _ _ _; first | refine e_store1 ?_ | refine e_storeA ?_ | (refine e_storeO ?_; intro _ _)) | (show Ex _ ⟨_, .buildSlice _ _ _, _, _, _, _⟩ _ _ _; first | (refine e_buildSlice ?_; intro _) | (refine e_buildNil ?_; intro _ _ _))) | (show wpC _ _ _ _ _ _; first | refine wpC_seq ?_ | refine wpC_region ?_ | refine c_true ?_ | refine c_false ?_ | (refine c_b (fun _ => ?_) (fun _ => ?_) <;> (first | (exfalso; omega) | contradiction | skip)) | refine wpC_ret ?_ | refine wpC_skip ?_ | refine wpC_label ?_ | (apply wpC_drawX (id := 7) ([]) [0, 1, 2, 3, 4, 5, 6, 7, 8, 9, 10, 11, 12, 13, 14, 15, 16] rfl (by kernel_rfl); (case hpk => (repeat (first | exact Pcs.blk (by infer_instance) | exact Pcs.nil | (apply Pcs.cons; infer_instance) | apply Pcs.app))))) | (show Then _ _ _ _ _ _ _; first | refine then_normal ?_ | refine then_ret ?_) | (show wpD _ _ _ _ _ _ _ _; first | refine wpD_nil ?_ | refine d_rdp ?_ | refine d_rdm ?_ | refine d_tt ?_ | refine d_ff ?_ | (refine d_cmp (fun _ => ?_) (fun _ => ?_) <;> (first | (exfalso; omega) | contradiction | skip)) | (refine d_cb (fun _ => ?_) (fun _ => ?_) <;> (first | (exfalso; omega) | contradiction | skip)) | refine d_idx (fun _ _ _ _ _ _ _ => ?_) | refine d_exs ?_ | refine d_exn ?_) | (show (_ ∨ Subs _ _) ∧ _; first | refine d_sub ?_ | refine d_cov ?_) | (show RetP _ _ _ _ _ _ _ _; first | refine r_1 ?_) | assumption | intro _)
  · exact q_drop (Rk.fin (fun H => H ++ F) hK hR hO hP hs hk (there_down ‹_›) (.rfl _))
  · exact q_drop (Rk.fin (fun H => H ++ F) hK hR hO hP hs hk (there_wrong ‹_› ‹_›) (.rfl _))
  · exact q_drop (Rk.fin (fun H => H ++ F) hK hR hO hP hs hk (there_none ‹_› ‹_› (notR ‹_›)) (.rfl _))
  · rename_i l1 f l2 hd hn hfs hnm hf
    subst hfs
    subst hnm
    obtain ⟨g, cap, cur, rfl, rfl, hra⟩ := fsAt hO
    have hri := fsRow (l1 := l1) (l2 := l2) (f := f)
    have hlr := rows3 (fs := l1 ++ f :: l2)
    have hbf := hP f (by simp)
    have hll : l1.length < (l1 ++ f :: l2).length := by simp
    repeat' (first | (show wpO _ _ _ _ _ _ _; first | refine wpO_nil ?_ | (show wpO _ _ _ (⟨_, .binOp _ _ _ _ _, _, _, _, _⟩ :: _) _ _ _; first | refine s_tt ?_ | refine s_ff ?_ | refine s_rdp ?_ | (refine s_cmp (fun _ => ?_) (fun _ => ?_) <;> (first | (exfalso; omega) | contradiction | skip)) | (refine s_cb (fun _ => ?_) (fun _ => ?_) <;> (first | (exfalso; omega) | contradiction | skip))) | (show wpO _ _ _ (⟨_, .indexAddr _ _ _, _, _, _, _⟩ :: _) _ _ _; first | refine s_rdp ?_ | refine s_idx (fun _ _ _ _ _ _ _ => ?_)) | refine s_rdp ?_ | refine s_rdm ?_ | refine s_exq ?_ | refine s_exm ?_) | (show Ex _ _ _ _ _; first | (refine e_storeF ?_; intro _ _ _ _ _) | (show Ex _ ⟨_, .store _ _ _, _, _, _, _⟩ _ _ _; first | refine e_store1 ?_ | refine e_storeA ?_ | (refine e_storeO ?_; intro _ _)) | (show Ex _ ⟨_, .buildSlice _ _ _, _, _, _, _⟩ _ _ _; first | (refine e_buildSlice ?_; intro _) | (refine e_buildNil ?_; intro _ _ _))) | (show wpC _ _ _ _ _ _; first | refine wpC_seq ?_ | refine wpC_region ?_ | refine c_true ?_ | refine c_false ?_ | (refine c_b (fun _ => ?_) (fun _ => ?_) <;> (first | (exfalso; omega) | contradiction | skip)) | refine wpC_ret ?_ | refine wpC_skip ?_ | refine wpC_label ?_ | (apply wpC_drawX (id := 7) ([]) [0, 1, 2, 3, 4, 5, 6, 7, 8, 9, 10, 11, 12, 13, 14, 15, 16] rfl (by kernel_rfl); (case hpk => (repeat (first | exact Pcs.blk (by infer_instance) | exact Pcs.nil | (apply Pcs.cons; infer_instance) | apply Pcs.app))))) | (show Then _ _ _ _ _ _ _; first | refine then_normal ?_ | refine then_ret ?_) | (show wpD _ _ _ _ _ _ _ _; first | refine wpD_nil ?_ | refine d_rdp ?_ | refine d_rdm ?_ | refine d_tt ?_ | refine d_ff ?_ | (refine d_cmp (fun _ => ?_) (fun _ => ?_) <;> (first | (exfalso; omega) | contradiction | skip)) | (refine d_cb (fun _ => ?_) (fun _ => ?_) <;> (first | (exfalso; omega) | contradiction | skip)) | refine d_idx (fun _ _ _ _ _ _ _ => ?_) | refine d_exs ?_ | refine d_exn ?_) | (show (_ ∨ Subs _ _) ∧ _; first | refine d_sub ?_ | refine d_cov ?_) | (show RetP _ _ _ _ _ _ _ _; first | refine r_1 ?_) | assumption | intro _)
    rename_i cur' hS' hra' hl' hri'
    have hc : f.cells.set 2 (.int .i64 (f.bs.length : Int)) = (⟨f.nm, f.a, f.c, f.bs, f.bs.length⟩ : Rf).cells := rfl
    rw [hc, fsSet] at hS'
    refine q_drop (Rk.fin (fun H => H ++ F) hK hR (Pl := Pl) (fs := l1 ++ ⟨f.nm, f.a, f.c, f.bs, f.bs.length⟩ :: l2) (hS'.cast (by simp) rfl) (fun x hx => ?_) (put_sorted hs rfl) hk (there_0 hd hn (hasR_mid rfl) hf) ⟨.of_eq ?_, hf, .inr rfl, rfl⟩)
    · rcases List.mem_append.1 hx with hx | hx
      · exact hP x (List.mem_append_left _ hx)
      · rcases List.mem_cons.1 hx with rfl | hx
        · exact hbf
        · exact hP x (List.mem_append_right _ (List.mem_cons_of_mem _ hx))
    · exact sync_ab hs
  · omega
  · exact absurd (‹down = false›.symm.trans ‹down = true›) (by simp)
  · rename_i l1 f l2 hd hn hfs hnm hf n hnn _ v2 B2 fs2 hO2 hP2 hnm2 hab2
    obtain rfl : k = n := by omega
    exact q_drop (Rk.fin (fun H => H ++ F) hK hR hO2 hP2 (nm_sorted hs hnm2) hk (s' := ⟨(fs.map Rf.ab).map (fell k), 0, 0, true⟩) (by first | exact there_crash hd hn (by rw [hfs]; exact hasR_mid hnm) hf | skip) ⟨by rw [hab2], rfl, .inl rfl, rfl⟩)
  · rename_i l1 f l2 hd hn hfs hnm hf hf2
    subst hfs
    subst hnm
    obtain ⟨g, cap, cur, rfl, rfl, hra⟩ := fsAt hO
    have hri := fsRow (l1 := l1) (l2 := l2) (f := f)
    have hlr := rows3 (fs := l1 ++ f :: l2)
    have hbf := hP f (by simp)
    have hll : l1.length < (l1 ++ f :: l2).length := by simp
    repeat' (first | (show wpO _ _ _ _ _ _ _; first | refine wpO_nil ?_ | (show wpO _ _ _ (⟨_, .binOp _ _ _ _ _, _, _, _, _⟩ :: _) _ _ _; first | refine s_tt ?_ | refine s_ff ?_ | refine s_rdp ?_ | (refine s_cmp (fun _ => ?_) (fun _ => ?_) <;> (first | (exfalso; omega) | contradiction | skip)) | (refine s_cb (fun _ => ?_) (fun _ => ?_) <;> (first | (exfalso; omega) | contradiction | skip))) | (show wpO _ _ _ (⟨_, .indexAddr _ _ _, _, _, _, _⟩ :: _) _ _ _; first | refine s_rdp ?_ | refine s_idx (fun _ _ _ _ _ _ _ => ?_)) | refine s_rdp ?_ | refine s_rdm ?_ | refine s_exq ?_ | refine s_exm ?_) | (show Ex _ _ _ _ _; first | (refine e_storeF ?_; intro _ _ _ _ _) | (show Ex _ ⟨_, .store _ _ _, _, _, _, _⟩ _ _ _; first | refine e_store1 ?_ | refine e_storeA ?_ | (refine e_storeO ?_; intro _ _)) | (show Ex _ ⟨_, .buildSlice _ _ _, _, _, _, _⟩ _ _ _; first | (refine e_buildSlice ?_; intro _) | (refine e_buildNil ?_; intro _ _ _))) | (show wpC _ _ _ _ _ _; first | refine wpC_seq ?_ | refine wpC_region ?_ | refine c_true ?_ | refine c_false ?_ | (refine c_b (fun _ => ?_) (fun _ => ?_) <;> (first | (exfalso; omega) | contradiction | skip)) | refine wpC_ret ?_ | refine wpC_skip ?_ | refine wpC_label ?_ | (apply wpC_drawX (id := 7) ([]) [0, 1, 2, 3, 4, 5, 6, 7, 8, 9, 10, 11, 12, 13, 14, 15, 16] rfl (by kernel_rfl); (case hpk => (repeat (first | exact Pcs.blk (by infer_instance) | exact Pcs.nil | (apply Pcs.cons; infer_instance) | apply Pcs.app))))) | (show Then _ _ _ _ _ _ _; first | refine then_normal ?_ | refine then_ret ?_) | (show wpD _ _ _ _ _ _ _ _; first | refine wpD_nil ?_ | refine d_rdp ?_ | refine d_rdm ?_ | refine d_tt ?_ | refine d_ff ?_ | (refine d_cmp (fun _ => ?_) (fun _ => ?_) <;> (first | (exfalso; omega) | contradiction | skip)) | (refine d_cb (fun _ => ?_) (fun _ => ?_) <;> (first | (exfalso; omega) | contradiction | skip)) | refine d_idx (fun _ _ _ _ _ _ _ => ?_) | refine d_exs ?_ | refine d_exn ?_) | (show (_ ∨ Subs _ _) ∧ _; first | refine d_sub ?_ | refine d_cov ?_) | (show RetP _ _ _ _ _ _ _ _; first | refine r_1 ?_) | assumption | intro _)
    rename_i cur' hS' hra' hl' hri'
    have hc : f.cells.set 2 (.int .i64 (f.bs.length : Int)) = (⟨f.nm, f.a, f.c, f.bs, f.bs.length⟩ : Rf).cells := rfl
    rw [hc, fsSet] at hS'
    refine q_drop (Rk.fin (fun H => H ++ F) hK hR (Pl := Pl) (fs := l1 ++ ⟨f.nm, f.a, f.c, f.bs, f.bs.length⟩ :: l2) (hS'.cast (by simp) rfl) (fun x hx => ?_) (put_sorted hs rfl) hk (there_2 hd hn (hasR_mid rfl) hf hf2) ⟨.of_eq ?_, rfl, .inr rfl, rfl⟩)
    · rcases List.mem_append.1 hx with hx | hx
      · exact hP x (List.mem_append_left _ hx)
      · rcases List.mem_cons.1 hx with rfl | hx
        · exact hbf
        · exact hP x (List.mem_append_right _ (List.mem_cons_of_mem _ hx))
    · exact sync_ab hs
set_option maxHeartbeats 4000000 in
set_option maxRecDepth 100000 in
theorem rremove_D (e : World) {s : ByteArray} {F : Hp} {d : Nat} {x : Rk} {room : Int} {K : Value → Hp → Prop} (hx : x.ok room) (hcap : totA (x.fs.map Rf.ab) ≤ 140737488355328)
    (hK : ∀ r' : Rk, r'.ok room → r'.ds.F (x.ds.remove s).2 → K (.int .i64 (x.ds.remove s).1) (r'.hp d room ++ F)) :
    callsK Try.prog e 65 #[pv d, .string s] (x.hp d room ++ F) K := by
  have hR : (x.ds.remove s).2.ok room := hx.s.run ⟨3, s, s, none, 0, [], 0, 0⟩ (show (0 : Int) ≤ 9223372036854775807 by decide)
  obtain ⟨hO, hP, hs, hds, hk⟩ := hx; obtain ⟨fs, v, B, Pl, fuse, k, down⟩ := x; simp only at hO hP hs hk hK hR hcap ⊢; have hl : fs.length ≤ 1024 := (by have := hds.len; simpa using this); have hf0 := hds.l0; have hf1 := hds.l1; have hsy : ∀ f ∈ fs, f.syn ≤ f.bs.length := (fun f hf => hds.syn f.ab (List.mem_map.2 ⟨f, hf, rfl⟩)); simp only at hf0 hf1
  refine calls_body (N := 28) (args := [pv d, .string s]) Try.func65 rfl rfl rfl (by simp) ?_
  repeat' (first | (show wpO _ _ _ _ _ _ _; first | refine wpO_nil ?_ | (show wpO _ _ _ (⟨_, .binOp _ _ _ _ _, _, _, _, _⟩ :: _) _ _ _; first | refine s_tt ?_ | refine s_ff ?_ | refine s_rdp ?_ | (refine s_cmp (fun _ => ?_) (fun _ => ?_) <;> (first | (exfalso; omega) | contradiction | skip)) | (refine s_cb (fun _ => ?_) (fun _ => ?_) <;> (first | (exfalso; omega) | contradiction | skip))) | refine s_rdp ?_ | refine s_rdm ?_ | refine s_exq ?_ | refine s_exm ?_) | (show Ex _ _ _ _ _; first | (show Ex _ ⟨_, .call ⟨.value (.func _), _, _⟩, _, _, _, _⟩ _ _ _; refine e_call ?_; first | (apply p_pcs; apply rthere1 _ hO hl hs; (try case hS => assumption); (case hpcs => (repeat (first | exact Pcs.blk (by infer_instance) | exact Pcs.nil | (apply Pcs.cons; infer_instance) | apply Pcs.app)))) | (apply p_pcs; apply blows_spec _ hf0 hf1; (try case hS => assumption); (case hpcs => (repeat (first | exact Pcs.blk (by infer_instance) | exact Pcs.nil | (apply Pcs.cons; infer_instance) | apply Pcs.app)))) | (apply p_pcs; apply rcrash_spec _ hO hP hl hsy hcap hk; (try case hS => assumption); (case hpcs => (repeat (first | exact Pcs.blk (by infer_instance) | exact Pcs.nil | (apply Pcs.cons; infer_instance) | apply Pcs.app)))) | (apply p_pcs; apply drop_spec _ hO hl hs; (try case hS => assumption); (case hpcs => (repeat (first | exact Pcs.blk (by infer_instance) | exact Pcs.nil | (apply Pcs.cons; infer_instance) | apply Pcs.app))))) | (show Ex _ ⟨_, .buildSlice _ _ _, _, _, _, _⟩ _ _ _; first | (refine e_buildSlice ?_; intro _) | (refine e_buildNil ?_; intro _ _ _))) | (show wpC _ _ _ _ _ _; first | refine wpC_seq ?_ | refine wpC_region ?_ | refine c_true ?_ | refine c_false ?_ | (refine c_b (fun _ => ?_) (fun _ => ?_) <;> (first | (exfalso; omega) | contradiction | skip)) | refine wpC_ret ?_ | refine wpC_skip ?_ | refine wpC_label ?_) | (show Then _ _ _ _ _ _ _; first | refine then_normal ?_ | refine then_ret ?_) | (show RetP _ _ _ _ _ _ _ _; first | refine r_1 ?_) | assumption | intro _)
  · exact q_drop (Rk.fin (fun H => H ++ F) hK hR hO hP hs hk (there_down ‹_›) (.rfl _))
  · exact q_drop (Rk.fin (fun H => H ++ F) hK hR hO hP hs hk (there_wrong ‹_› ‹_›) (.rfl _))
  · exact q_drop (Rk.fin (fun H => H ++ F) hK hR hO hP hs hk (there_none ‹_› ‹_› (notR ‹_›)) (.rfl _))
  · rename_i l1 f l2 hd hn hfs hnm hf v' B' hO'
    exact q_drop (Rk.fin (fun H => H ++ F) hK hR (Pl := Pl) hO' (fun x hx => hP x (List.mem_filter.1 hx).1) (hs.sublist List.filter_sublist) hk (there_0 hd hn (by rw [hfs]; exact hasR_mid hnm) hf) ⟨.of_eq rem_ab, hf, .inr rfl, rfl⟩)
  · omega
  · exact absurd (‹down = false›.symm.trans ‹down = true›) (by simp)
  · rename_i l1 f l2 hd hn hfs hnm hf n hnn _ v2 B2 fs2 hO2 hP2 hnm2 hab2
    obtain rfl : k = n := by omega
    exact q_drop (Rk.fin (fun H => H ++ F) hK hR hO2 hP2 (nm_sorted hs hnm2) hk (s' := ⟨(fs.map Rf.ab).map (fell k), 0, 0, true⟩) (by first | exact there_crash hd hn (by rw [hfs]; exact hasR_mid hnm) hf | skip) ⟨by rw [hab2], rfl, .inl rfl, rfl⟩)
  · rename_i l1 f l2 hd hn hfs hnm hf hf2 v' B' hO'
    exact q_drop (Rk.fin (fun H => H ++ F) hK hR (Pl := Pl) hO' (fun x hx => hP x (List.mem_filter.1 hx).1) (hs.sublist List.filter_sublist) hk (there_2 hd hn (by rw [hfs]; exact hasR_mid hnm) hf hf2) ⟨.of_eq rem_ab, rfl, .inr rfl, rfl⟩)
end Go.Vl
