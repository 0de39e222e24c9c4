/-
  The document's disk: its methods, each as a step of the plain disk.
-/
import Derived.Test.YtkamfmdonhaikaaR4
import Derived.Test.YtkamfmdonhaikaaRP
namespace Go.Vl
open Go.Proofs
structure Rk where
  fs : List Rf
  v : Value
  B : Hp
  Pl : Hp
  fuse : Int
  keep : Nat
  down : Bool
abbrev Rk.hp (r : Rk) (d : Nat) (room : Int) : Hp := rblk d room r.v r.fuse r.keep r.down ++ (r.B ++ r.Pl)
abbrev Rk.ds (r : Rk) : DS := ⟨r.fs.map Rf.ab, r.fuse, r.keep, r.down⟩
structure Rk.ok (r : Rk) (room : Int) : Prop where
  o : FsO r.v r.fs r.B
  p : PlOK r.Pl r.fs
  srt : r.fs.Pairwise fun f g => ltN f.nm g.nm
  s : r.ds.ok room
  kb : (r.keep : Int) ≤ 9223372036854775807
set_option maxHeartbeats 4000000 in
set_option maxRecDepth 100000 in
theorem Rk.ok.len {r : Rk} {room : Int} (h : r.ok room) : r.fs.length ≤ 1024 := by have := h.s.len; simpa using this
set_option maxHeartbeats 4000000 in
set_option maxRecDepth 100000 in
theorem Rk.ok.syn {r : Rk} {room : Int} (h : r.ok room) : ∀ f ∈ r.fs, f.syn ≤ f.bs.length := fun f hf => h.s.syn f.ab (List.mem_map.2 ⟨f, hf, rfl⟩)
set_option maxHeartbeats 4000000 in
set_option maxRecDepth 100000 in
theorem Rk.fin {d : Nat} {room : Int} {R : Int × DS} {K : Value → Hp → Prop} (Z : Hp → Hp) (hK : ∀ r' : Rk, r'.ok room → r'.ds.F R.2 → K (.int .i64 R.1) (Z (r'.hp d room))) (hR : R.2.ok room) {fs : List Rf} {v : Value} {B Pl : Hp} {fuse : Int} {keep : Nat} {down : Bool} (hO : FsO v fs B) (hP : PlOK Pl fs) (hs : fs.Pairwise fun f g => ltN f.nm g.nm) (hkb : (keep : Int) ≤ 9223372036854775807) {q : Int} {s' : DS} (he : R = (q, s')) (hE : DS.F ⟨fs.map Rf.ab, fuse, keep, down⟩ s') :
    K (.int .i64 q) (Z (rblk d room v fuse keep down ++ (B ++ Pl))) := by
  subst he
  exact hK ⟨fs, v, B, Pl, fuse, keep, down⟩ ⟨hO, hP, hs, hR.F hE.symm, hkb⟩ hE
set_option maxHeartbeats 4000000 in
set_option maxRecDepth 100000 in
theorem hasR {fs : List Rf} {n : ByteArray} : hasA (fs.map Rf.ab) n ↔ ∃ f ∈ fs, f.nm = n := by
  unfold hasA
  constructor
  · rintro ⟨a, ha, he⟩
    obtain ⟨f, hf, rfl⟩ := List.mem_map.1 ha
    exact ⟨f, hf, he⟩
  · rintro ⟨f, hf, he⟩
    exact ⟨f.ab, List.mem_map.2 ⟨f, hf, rfl⟩, he⟩
set_option maxHeartbeats 4000000 in
set_option maxRecDepth 100000 in
theorem hasR_mid {l1 l2 : List Rf} {f : Rf} {n : ByteArray} (h : f.nm = n) : hasA ((l1 ++ f :: l2).map Rf.ab) n := hasR.2 ⟨f, by simp, h⟩
set_option maxHeartbeats 4000000 in
set_option maxRecDepth 100000 in
theorem hasR_none {l1 l2 : List Rf} {n : ByteArray} (h1 : ∀ g ∈ l1, ltN g.nm n) (h2 : ∀ g ∈ l2, ltN n g.nm) : ¬ hasA ((l1 ++ l2).map Rf.ab) n := fun h => by
  obtain ⟨f, hf, he⟩ := hasR.1 h
  rcases List.mem_append.1 hf with hf | hf
  · exact ltN_irrefl n (by have := h1 f hf; rwa [he] at this)
  · exact ltN_irrefl n (by have := h2 f hf; rwa [he] at this)
set_option maxHeartbeats 4000000 in
set_option maxRecDepth 100000 in
theorem nm_sorted {fs gs : List Rf} (h : fs.Pairwise fun f g => ltN f.nm g.nm) (hn : gs.map Rf.nm = fs.map Rf.nm) : gs.Pairwise fun f g => ltN f.nm g.nm := by
  rw [← List.pairwise_map (f := Rf.nm) (R := ltN)] at h ⊢
  rw [hn]
  exact h
set_option maxHeartbeats 4000000 in
set_option maxRecDepth 100000 in
theorem append_down {room : Int} {s : DS} {n : ByteArray} {bs : List UInt8} (h : s.down = true) : s.append room n bs = (7, s) := if_pos h
set_option maxHeartbeats 4000000 in
set_option maxRecDepth 100000 in
theorem append_name {room : Int} {s : DS} {n : ByteArray} {bs : List UInt8} (h : s.down = false) (h2 : ¬ okN n) : s.append room n bs = (20, s) := by
  unfold DS.append
  rw [if_neg (by simp [h]), if_pos h2]
set_option maxHeartbeats 4000000 in
set_option maxRecDepth 100000 in
theorem append_many {room : Int} {s : DS} {n : ByteArray} {bs : List UInt8} (h : s.down = false) (h2 : okN n) (h3 : ¬ hasA s.L n) (h4 : 1024 ≤ s.L.length) : s.append room n bs = (3, s) := by
  unfold DS.append
  rw [if_neg (by simp [h]), if_neg (by simpa using h2), if_pos ⟨h3, h4⟩]
set_option maxHeartbeats 4000000 in
set_option maxRecDepth 100000 in
theorem append_big {room : Int} {s : DS} {n : ByteArray} {bs : List UInt8} (h : s.down = false) (h2 : okN n) (h3 : hasA s.L n ∨ s.L.length < 1024) (h4 : room < (bs.length : Int) + totA s.L) : s.append room n bs = (6, s) := by
  unfold DS.append
  rw [if_neg (by simp [h]), if_neg (by simpa using h2), if_neg (fun h5 => h3.elim h5.1 (fun h6 => by have := h5.2; omega)), if_pos h4]
set_option maxHeartbeats 4000000 in
set_option maxRecDepth 100000 in
theorem append_good {room : Int} {s : DS} {n : ByteArray} {bs : List UInt8} (h : s.down = false) (h2 : okN n) (h3 : hasA s.L n ∨ s.L.length < 1024) (h4 : (bs.length : Int) + totA s.L ≤ room) : s.append room n bs = (⟨appd s.L n bs, s.left, s.keep, s.down⟩ : DS).chg (appd s.L n bs) := by
  unfold DS.append
  rw [if_neg (by simp [h]), if_neg (by simpa using h2), if_neg (fun h5 => h3.elim h5.1 (fun h6 => by have := h5.2; omega)), if_neg (by omega)]
set_option maxHeartbeats 4000000 in
set_option maxRecDepth 100000 in
theorem chg_boom {s : DS} {L : List Ab} (h : s.left = 1) : s.chg L = (7, s.boom s.keep) := if_pos h
set_option maxHeartbeats 4000000 in
set_option maxRecDepth 100000 in
theorem chg_0 {s : DS} {L : List Ab} (h : s.left = 0) : s.chg L = (0, ⟨L, 0, s.keep, s.down⟩) := by unfold DS.chg; rw [if_neg (by omega), if_pos h]
set_option maxHeartbeats 4000000 in
set_option maxRecDepth 100000 in
theorem chg_2 {s : DS} {L : List Ab} (h : s.left ≠ 0) (h1 : s.left ≠ 1) : s.chg L = (0, ⟨L, s.left - 1, s.keep, s.down⟩) := by unfold DS.chg; rw [if_neg h1, if_neg h]
attribute [local irreducible] wpC wpO wpD Ex Rd callsK RetP Drop valK
set_option maxHeartbeats 4000000 in
set_option maxRecDepth 100000 in
theorem looks1 (e : World) {d b : Nat} {room fuse : Int} {v : Value} {k : Nat} {down : Bool} {s : ByteArray} {F : Hp} {K : Value → Hp → Prop}
    (h7 : down = true → K (.int .i64 7) ((rblk d room v fuse k down ++ [(b, cellsO [.string s] 9)]) ++ F)) (h20 : down = false → ¬ okN s → K (.int .i64 20) ((rblk d room v fuse k down ++ [(b, cellsO [.string s] 9)]) ++ F))
    (h0 : down = false → okN s → K (.int .i64 0) ((rblk d room v fuse k down ++ [(b, cellsO [.string s] 9)]) ++ F)) :
    callsK Try.prog e 100 #[pv d, .slice (some ⟨b, 0, none⟩) 1 1] ((rblk d room v fuse k down ++ [(b, cellsO [.string s] 9)]) ++ F) K :=
  looks_spec e (inSl_strs b [s] 9) (by simp) h7 (fun h h' => h20 h (by simpa using h')) (fun h h' => h0 h (by simpa using h'))
set_option maxHeartbeats 4000000 in
set_option maxRecDepth 100000 in
theorem rappend_D (e : World) {s : ByteArray} {bs : List UInt8} {vb : Value} {Fn F : Hp} {d : Nat} {x : Rk} {room : Int} {K : Value → Hp → Prop} (hx : x.ok room) (hr : room ≤ 9223372036854775807) (hr0 : 0 ≤ room) (hS : InSl Fn 1 (bs.map byC) vb) (hcap : (bs.length : Int) + totA (x.fs.map Rf.ab) ≤ room → bs.length + totA (x.fs.map Rf.ab) ≤ 140737488355328)
    (hK : ∀ r' : Rk, r'.ok room → r'.ds.F (x.ds.append room s bs).2 → K (.int .i64 (x.ds.append room s bs).1) ((r'.hp d room ++ Fn) ++ F)) :
    callsK Try.prog e 62 #[pv d, .string s, vb] ((x.hp d room ++ Fn) ++ F) K := by
  have hR := hx.s.append s bs
  obtain ⟨hO, hP, hs, hds, hk⟩ := hx
  obtain ⟨fs, v, B, Pl, fuse, k, down⟩ := x
  simp only at hO hP hs hcap hk hK hR ⊢
  have hl : fs.length ≤ 1024 := by have := hds.len; simpa using this
  have ht := hds.tot
  have hf0 := hds.l0
  have hf1 := hds.l1
  have hsy : ∀ f ∈ fs, f.syn ≤ f.bs.length := fun f hf => hds.syn f.ab (List.mem_map.2 ⟨f, hf, rfl⟩)
  simp only at ht hf0 hf1
  have ht2 : totA (fs.map Rf.ab) ≤ 9223372036854775807 := by omega
  refine calls_body (N := 57) (args := [pv d, .string s, vb]) Try.func62 rfl rfl rfl (by simp) ?_
  repeat' ((fail_if_success (show wpO _ _ _ (⟨_, .call ⟨.value (.func 103), _, _⟩, _, _, _, _⟩ :: _) _ _ _)); first | (show wpO _ _ _ _ _ _ _; first | refine wpO_nil ?_ | (show wpO _ _ _ (⟨_, .binOp _ _ _ _ _, _, _, _, _⟩ :: _) _ _ _; first | refine s_tt ?_ | refine s_ff ?_ | refine s_rdp ?_ | (refine s_cmp (fun _ => ?_) (fun _ => ?_) <;> (first | (exfalso; omega) | contradiction | skip)) | (refine s_cb (fun _ => ?_) (fun _ => ?_) <;> (first | (exfalso; omega) | contradiction | skip)) | refine s_sks ?_ | (refine s_g (fun _ => ?_) (fun _ => ?_) <;> (first | (exfalso; omega) | contradiction | skip))) | (show wpO _ _ _ (⟨_, .pick _ _ _, _, _, _, _⟩ :: _) _ _ _; first | refine s_rdp ?_ | (refine s_p (fun _ => ?_) (fun _ => ?_) <;> (first | (exfalso; omega) | contradiction | skip)) | refine s_sks ?_ | (refine s_g (fun _ => ?_) (fun _ => ?_) <;> (first | (exfalso; omega) | contradiction | skip))) | refine s_rdp ?_ | refine s_rdm ?_ | refine s_exq ?_ | refine s_exm ?_ | refine s_sks ?_ | refine s_skn ?_ | (refine s_g (fun _ => ?_) (fun _ => ?_) <;> (first | (exfalso; omega) | contradiction | skip))) | (show Ex _ _ _ _ _; first | (show Ex _ ⟨_, .call ⟨.value (.func _), _, _⟩, _, _, _, _⟩ _ _ _; refine e_call ?_; first | (apply p_pcs; apply looks1 _; (try case hS => assumption); (case hpcs => (repeat (first | exact Pcs.blk (by infer_instance) | exact Pcs.nil | (apply Pcs.cons; infer_instance) | apply Pcs.app)))) | (apply p_pcs; apply find_spec _ hO hl hs; (try case hS => assumption); (case hpcs => (repeat (first | exact Pcs.blk (by infer_instance) | exact Pcs.nil | (apply Pcs.cons; infer_instance) | apply Pcs.app)))) | (apply p_pcs; apply rused_spec _ hO ht2 hl; (try case hS => assumption); (case hpcs => (repeat (first | exact Pcs.blk (by infer_instance) | exact Pcs.nil | (apply Pcs.cons; infer_instance) | apply Pcs.app)))) | (apply p_pcs; apply blows_spec _ hf0 hf1; (try case hS => assumption); (case hpcs => (repeat (first | exact Pcs.blk (by infer_instance) | exact Pcs.nil | (apply Pcs.cons; infer_instance) | apply Pcs.app))))) | (show Ex _ ⟨_, .buildSlice _ _ _, _, _, _, _⟩ _ _ _; first | (refine e_buildSlice ?_; intro _) | (refine e_buildNil ?_; intro _ _ _))) | (show wpC _ _ _ _ _ _; first | refine wpC_seq ?_ | refine wpC_region ?_ | refine c_true ?_ | refine c_false ?_ | (refine c_b (fun _ => ?_) (fun _ => ?_) <;> (first | (exfalso; omega) | contradiction | skip)) | refine wpC_ret ?_ | refine wpC_skip ?_ | refine wpC_label ?_ | (apply wpC_drawX (id := 7) ([]) [0, 1, 2, 3, 4, 5, 6, 7, 8, 9] rfl (by kernel_rfl); (case hpk => (repeat (first | exact Pcs.blk (by infer_instance) | exact Pcs.nil | (apply Pcs.cons; infer_instance) | apply Pcs.app))))) | (show Then _ _ _ _ _ _ _; first | refine then_normal ?_ | refine then_ret ?_) | (show wpD _ _ _ _ _ _ _ _; first | refine wpD_nil ?_ | refine d_rdp ?_ | refine d_rdm ?_ | refine d_sks ?_ | refine d_tt ?_ | refine d_ff ?_ | (refine d_cmp (fun _ => ?_) (fun _ => ?_) <;> (first | (exfalso; omega) | contradiction | skip)) | (refine d_cb (fun _ => ?_) (fun _ => ?_) <;> (first | (exfalso; omega) | contradiction | skip)) | refine d_exs ?_ | refine d_exn ?_ | (refine d_p (fun _ => ?_) (fun _ => ?_) <;> (first | (exfalso; omega) | contradiction | skip)) | (refine d_g (fun _ => ?_) (fun _ => ?_) <;> (first | (exfalso; omega) | contradiction | skip))) | (show (_ ∨ Subs _ _) ∧ _; first | refine d_sub ?_ | refine d_cov ?_) | (show RetP _ _ _ _ _ _ _ _; first | refine r_1 ?_) | assumption | intro _)
  · exact q_drop (Rk.fin (fun H => (H ++ Fn) ++ F) hK hR hO hP hs hk (append_down ‹_›) (.rfl _))
  · exact q_drop (Rk.fin (fun H => (H ++ Fn) ++ F) hK hR hO hP hs hk (append_name ‹_› ‹_›) (.rfl _))
  · rename_i hd hn l1 f l2 hfs hnm hc
    exact q_drop (Rk.fin (fun H => (H ++ Fn) ++ F) hK hR hO hP hs hk (append_big hd hn (.inl (by rw [hfs]; exact hasR_mid hnm)) (by show room < (bs.length : Int) + totA (fs.map Rf.ab); omega)) (.rfl _))
  · rename_i hd hn l1 f l2 hfs hnm hc hf
    have hhas : hasA (fs.map Rf.ab) s ∨ (fs.map Rf.ab).length < 1024 := .inl (by rw [hfs]; exact hasR_mid hnm)
    have hfit : (bs.length : Int) + totA (fs.map Rf.ab) ≤ room := by omega
    have hcp := hcap hfit
    repeat' (first | (show wpO _ _ _ _ _ _ _; first | refine wpO_nil ?_ | (show wpO _ _ _ (⟨_, .binOp _ _ _ _ _, _, _, _, _⟩ :: _) _ _ _; first | refine s_tt ?_ | refine s_ff ?_ | refine s_rdp ?_ | (refine s_cmp (fun _ => ?_) (fun _ => ?_) <;> (first | (exfalso; omega) | contradiction | skip)) | (refine s_cb (fun _ => ?_) (fun _ => ?_) <;> (first | (exfalso; omega) | contradiction | skip)) | refine s_sks ?_ | (refine s_g (fun _ => ?_) (fun _ => ?_) <;> (first | (exfalso; omega) | contradiction | skip))) | (show wpO _ _ _ (⟨_, .pick _ _ _, _, _, _, _⟩ :: _) _ _ _; first | refine s_rdp ?_ | (refine s_p (fun _ => ?_) (fun _ => ?_) <;> (first | (exfalso; omega) | contradiction | skip)) | refine s_sks ?_ | (refine s_g (fun _ => ?_) (fun _ => ?_) <;> (first | (exfalso; omega) | contradiction | skip))) | refine s_rdp ?_ | refine s_rdm ?_ | refine s_exq ?_ | refine s_exm ?_ | refine s_sks ?_ | refine s_skn ?_ | (refine s_g (fun _ => ?_) (fun _ => ?_) <;> (first | (exfalso; omega) | contradiction | skip))) | (show Ex _ _ _ _ _; first | (show Ex _ ⟨_, .call ⟨.value (.func _), _, _⟩, _, _, _, _⟩ _ _ _; refine e_call ?_; first | (apply p_pcs; apply put_spec _ hO hP hl hs hS hcp; (try case hS => assumption); (case hpcs => (repeat (first | exact Pcs.blk (by infer_instance) | exact Pcs.nil | (apply Pcs.cons; infer_instance) | apply Pcs.app))))) | (show Ex _ ⟨_, .buildSlice _ _ _, _, _, _, _⟩ _ _ _; first | (refine e_buildSlice ?_; intro _) | (refine e_buildNil ?_; intro _ _ _))) | (show wpC _ _ _ _ _ _; first | refine wpC_seq ?_ | refine wpC_region ?_ | refine c_true ?_ | refine c_false ?_ | (refine c_b (fun _ => ?_) (fun _ => ?_) <;> (first | (exfalso; omega) | contradiction | skip)) | refine wpC_ret ?_ | refine wpC_skip ?_ | refine wpC_label ?_ | (apply wpC_drawX (id := 7) ([]) [0, 1, 2, 3, 4, 5, 6, 7, 8, 9] rfl (by kernel_rfl); (case hpk => (repeat (first | exact Pcs.blk (by infer_instance) | exact Pcs.nil | (apply Pcs.cons; infer_instance) | apply Pcs.app))))) | (show Then _ _ _ _ _ _ _; first | refine then_normal ?_ | refine then_ret ?_) | (show wpD _ _ _ _ _ _ _ _; first | refine wpD_nil ?_ | refine d_rdp ?_ | refine d_rdm ?_ | refine d_sks ?_ | refine d_tt ?_ | refine d_ff ?_ | (refine d_cmp (fun _ => ?_) (fun _ => ?_) <;> (first | (exfalso; omega) | contradiction | skip)) | (refine d_cb (fun _ => ?_) (fun _ => ?_) <;> (first | (exfalso; omega) | contradiction | skip)) | refine d_exs ?_ | refine d_exn ?_ | (refine d_p (fun _ => ?_) (fun _ => ?_) <;> (first | (exfalso; omega) | contradiction | skip)) | (refine d_g (fun _ => ?_) (fun _ => ?_) <;> (first | (exfalso; omega) | contradiction | skip))) | (show (_ ∨ Subs _ _) ∧ _; first | refine d_sub ?_ | refine d_cov ?_) | (show RetP _ _ _ _ _ _ _ _; first | refine r_1 ?_) | assumption | intro _)
    rename_i v' B' Pl' fs' hO' hP' hs' hab
    exact q_drop (Rk.fin (fun H => (H ++ Fn) ++ F) hK hR hO' hP' hs' hk (s' := ⟨appd (fs.map Rf.ab) s bs, 0, k, down⟩) (by rw [append_good hd hn hhas hfit, chg_0 hf]) ⟨hab, hf, .inr rfl, rfl⟩)
  · rename_i hd hn l1 f l2 hfs hnm hc hf
    have hhas : hasA (fs.map Rf.ab) s ∨ (fs.map Rf.ab).length < 1024 := .inl (by rw [hfs]; exact hasR_mid hnm)
    have hfit : (bs.length : Int) + totA (fs.map Rf.ab) ≤ room := by omega
    have hcp := hcap hfit
    have hsyA : ∀ fs' : List Rf, (fs'.map Rf.ab).Perm (appd (fs.map Rf.ab) s bs) → (∀ f ∈ fs', f.syn ≤ f.bs.length) ∧ totA (fs'.map Rf.ab) ≤ 140737488355328 ∧ fs'.length ≤ 1024 := fun fs' hp => by
      refine ⟨fun f hf => appd_syn (n := s) (bs := bs) hds.syn f.ab (hp.mem_iff.1 (List.mem_map.2 ⟨f, hf, rfl⟩)), ?_, ?_⟩
      · rw [totA_perm hp, totA_appd]
        omega
      · have h1 := hp.length_eq
        rw [appd_len, List.length_map, List.length_map] at h1
        rw [h1]
        split
        · exact hl
        · rename_i hno
          have := hhas.resolve_left hno
          simp only [List.length_map] at this
          omega
    repeat' ((fail_if_success (show wpO _ _ _ (⟨_, .call ⟨.value (.func 69), _, _⟩, _, _, _, _⟩ :: _) _ _ _)); first | (show wpO _ _ _ _ _ _ _; first | refine wpO_nil ?_ | (show wpO _ _ _ (⟨_, .binOp _ _ _ _ _, _, _, _, _⟩ :: _) _ _ _; first | refine s_tt ?_ | refine s_ff ?_ | refine s_rdp ?_ | (refine s_cmp (fun _ => ?_) (fun _ => ?_) <;> (first | (exfalso; omega) | contradiction | skip)) | (refine s_cb (fun _ => ?_) (fun _ => ?_) <;> (first | (exfalso; omega) | contradiction | skip)) | refine s_sks ?_ | (refine s_g (fun _ => ?_) (fun _ => ?_) <;> (first | (exfalso; omega) | contradiction | skip))) | (show wpO _ _ _ (⟨_, .pick _ _ _, _, _, _, _⟩ :: _) _ _ _; first | refine s_rdp ?_ | (refine s_p (fun _ => ?_) (fun _ => ?_) <;> (first | (exfalso; omega) | contradiction | skip)) | refine s_sks ?_ | (refine s_g (fun _ => ?_) (fun _ => ?_) <;> (first | (exfalso; omega) | contradiction | skip))) | refine s_rdp ?_ | refine s_rdm ?_ | refine s_exq ?_ | refine s_exm ?_ | refine s_sks ?_ | refine s_skn ?_ | (refine s_g (fun _ => ?_) (fun _ => ?_) <;> (first | (exfalso; omega) | contradiction | skip))) | (show Ex _ _ _ _ _; first | (show Ex _ ⟨_, .call ⟨.value (.func _), _, _⟩, _, _, _, _⟩ _ _ _; refine e_call ?_; first | (apply p_pcs; apply put_spec _ hO hP hl hs hS hcp; (try case hS => assumption); (case hpcs => (repeat (first | exact Pcs.blk (by infer_instance) | exact Pcs.nil | (apply Pcs.cons; infer_instance) | apply Pcs.app))))) | (show Ex _ ⟨_, .buildSlice _ _ _, _, _, _, _⟩ _ _ _; first | (refine e_buildSlice ?_; intro _) | (refine e_buildNil ?_; intro _ _ _))) | (show wpC _ _ _ _ _ _; first | refine wpC_seq ?_ | refine wpC_region ?_ | refine c_true ?_ | refine c_false ?_ | (refine c_b (fun _ => ?_) (fun _ => ?_) <;> (first | (exfalso; omega) | contradiction | skip)) | refine wpC_ret ?_ | refine wpC_skip ?_ | refine wpC_label ?_ | (apply wpC_drawX (id := 7) ([]) [0, 1, 2, 3, 4, 5, 6, 7, 8, 9] rfl (by kernel_rfl); (case hpk => (repeat (first | exact Pcs.blk (by infer_instance) | exact Pcs.nil | (apply Pcs.cons; infer_instance) | apply Pcs.app))))) | (show Then _ _ _ _ _ _ _; first | refine then_normal ?_ | refine then_ret ?_) | (show wpD _ _ _ _ _ _ _ _; first | refine wpD_nil ?_ | refine d_rdp ?_ | refine d_rdm ?_ | refine d_sks ?_ | refine d_tt ?_ | refine d_ff ?_ | (refine d_cmp (fun _ => ?_) (fun _ => ?_) <;> (first | (exfalso; omega) | contradiction | skip)) | (refine d_cb (fun _ => ?_) (fun _ => ?_) <;> (first | (exfalso; omega) | contradiction | skip)) | refine d_exs ?_ | refine d_exn ?_ | (refine d_p (fun _ => ?_) (fun _ => ?_) <;> (first | (exfalso; omega) | contradiction | skip)) | (refine d_g (fun _ => ?_) (fun _ => ?_) <;> (first | (exfalso; omega) | contradiction | skip))) | (show (_ ∨ Subs _ _) ∧ _; first | refine d_sub ?_ | refine d_cov ?_) | (show RetP _ _ _ _ _ _ _ _; first | refine r_1 ?_) | assumption | intro _)
    rename_i v' B' Pl' fs' hO' hP' hs' hab
    obtain ⟨g1, g2, g3⟩ := hsyA fs' hab
    repeat' (first | (show wpO _ _ _ _ _ _ _; first | refine wpO_nil ?_ | (show wpO _ _ _ (⟨_, .binOp _ _ _ _ _, _, _, _, _⟩ :: _) _ _ _; first | refine s_tt ?_ | refine s_ff ?_ | refine s_rdp ?_ | (refine s_cmp (fun _ => ?_) (fun _ => ?_) <;> (first | (exfalso; omega) | contradiction | skip)) | (refine s_cb (fun _ => ?_) (fun _ => ?_) <;> (first | (exfalso; omega) | contradiction | skip)) | refine s_sks ?_ | (refine s_g (fun _ => ?_) (fun _ => ?_) <;> (first | (exfalso; omega) | contradiction | skip))) | (show wpO _ _ _ (⟨_, .pick _ _ _, _, _, _, _⟩ :: _) _ _ _; first | refine s_rdp ?_ | (refine s_p (fun _ => ?_) (fun _ => ?_) <;> (first | (exfalso; omega) | contradiction | skip)) | refine s_sks ?_ | (refine s_g (fun _ => ?_) (fun _ => ?_) <;> (first | (exfalso; omega) | contradiction | skip))) | refine s_rdp ?_ | refine s_rdm ?_ | refine s_exq ?_ | refine s_exm ?_ | refine s_sks ?_ | refine s_skn ?_ | (refine s_g (fun _ => ?_) (fun _ => ?_) <;> (first | (exfalso; omega) | contradiction | skip))) | (show Ex _ _ _ _ _; first | (show Ex _ ⟨_, .call ⟨.value (.func _), _, _⟩, _, _, _, _⟩ _ _ _; refine e_call ?_; first | (apply p_pcs; apply rcrash_spec _ hO' hP' g3 g1 g2 hk; (try case hS => assumption); (case hpcs => (repeat (first | exact Pcs.blk (by infer_instance) | exact Pcs.nil | (apply Pcs.cons; infer_instance) | apply Pcs.app))))) | (show Ex _ ⟨_, .buildSlice _ _ _, _, _, _, _⟩ _ _ _; first | (refine e_buildSlice ?_; intro _) | (refine e_buildNil ?_; intro _ _ _))) | (show wpC _ _ _ _ _ _; first | refine wpC_seq ?_ | refine wpC_region ?_ | refine c_true ?_ | refine c_false ?_ | (refine c_b (fun _ => ?_) (fun _ => ?_) <;> (first | (exfalso; omega) | contradiction | skip)) | refine wpC_ret ?_ | refine wpC_skip ?_ | refine wpC_label ?_ | (apply wpC_drawX (id := 7) ([]) [0, 1, 2, 3, 4, 5, 6, 7, 8, 9] rfl (by kernel_rfl); (case hpk => (repeat (first | exact Pcs.blk (by infer_instance) | exact Pcs.nil | (apply Pcs.cons; infer_instance) | apply Pcs.app))))) | (show Then _ _ _ _ _ _ _; first | refine then_normal ?_ | refine then_ret ?_) | (show wpD _ _ _ _ _ _ _ _; first | refine wpD_nil ?_ | refine d_rdp ?_ | refine d_rdm ?_ | refine d_sks ?_ | refine d_tt ?_ | refine d_ff ?_ | (refine d_cmp (fun _ => ?_) (fun _ => ?_) <;> (first | (exfalso; omega) | contradiction | skip)) | (refine d_cb (fun _ => ?_) (fun _ => ?_) <;> (first | (exfalso; omega) | contradiction | skip)) | refine d_exs ?_ | refine d_exn ?_ | (refine d_p (fun _ => ?_) (fun _ => ?_) <;> (first | (exfalso; omega) | contradiction | skip)) | (refine d_g (fun _ => ?_) (fun _ => ?_) <;> (first | (exfalso; omega) | contradiction | skip))) | (show (_ ∨ Subs _ _) ∧ _; first | refine d_sub ?_ | refine d_cov ?_) | (show RetP _ _ _ _ _ _ _ _; first | refine r_1 ?_) | assumption | intro _)
    · omega
    · exact absurd (hd ▸ ‹_ = true› : false = true) (by simp)
    · rename_i n hnn _ v2 B2 fs2 hO2 hP2 hnm2 hab2
      obtain rfl : k = n := by omega
      exact q_drop (Rk.fin (fun H => (H ++ Fn) ++ F) hK hR hO2 hP2 (nm_sorted hs' hnm2) hk (s' := ⟨(appd (fs.map Rf.ab) s bs).map (fell k), 0, 0, true⟩) (by rw [append_good hd hn hhas hfit, chg_boom hf]; rfl) ⟨by rw [hab2]; exact hab.map _, rfl, .inl rfl, rfl⟩)
  · rename_i hd hn l1 f l2 hfs hnm hc hf hf2
    have hhas : hasA (fs.map Rf.ab) s ∨ (fs.map Rf.ab).length < 1024 := .inl (by rw [hfs]; exact hasR_mid hnm)
    have hfit : (bs.length : Int) + totA (fs.map Rf.ab) ≤ room := by omega
    have hcp := hcap hfit
    repeat' (first | (show wpO _ _ _ _ _ _ _; first | refine wpO_nil ?_ | (show wpO _ _ _ (⟨_, .binOp _ _ _ _ _, _, _, _, _⟩ :: _) _ _ _; first | refine s_tt ?_ | refine s_ff ?_ | refine s_rdp ?_ | (refine s_cmp (fun _ => ?_) (fun _ => ?_) <;> (first | (exfalso; omega) | contradiction | skip)) | (refine s_cb (fun _ => ?_) (fun _ => ?_) <;> (first | (exfalso; omega) | contradiction | skip)) | refine s_sks ?_ | (refine s_g (fun _ => ?_) (fun _ => ?_) <;> (first | (exfalso; omega) | contradiction | skip))) | (show wpO _ _ _ (⟨_, .pick _ _ _, _, _, _, _⟩ :: _) _ _ _; first | refine s_rdp ?_ | (refine s_p (fun _ => ?_) (fun _ => ?_) <;> (first | (exfalso; omega) | contradiction | skip)) | refine s_sks ?_ | (refine s_g (fun _ => ?_) (fun _ => ?_) <;> (first | (exfalso; omega) | contradiction | skip))) | refine s_rdp ?_ | refine s_rdm ?_ | refine s_exq ?_ | refine s_exm ?_ | refine s_sks ?_ | refine s_skn ?_ | (refine s_g (fun _ => ?_) (fun _ => ?_) <;> (first | (exfalso; omega) | contradiction | skip))) | (show Ex _ _ _ _ _; first | (show Ex _ ⟨_, .call ⟨.value (.func _), _, _⟩, _, _, _, _⟩ _ _ _; refine e_call ?_; first | (apply p_pcs; apply put_spec _ hO hP hl hs hS hcp; (try case hS => assumption); (case hpcs => (repeat (first | exact Pcs.blk (by infer_instance) | exact Pcs.nil | (apply Pcs.cons; infer_instance) | apply Pcs.app))))) | (show Ex _ ⟨_, .buildSlice _ _ _, _, _, _, _⟩ _ _ _; first | (refine e_buildSlice ?_; intro _) | (refine e_buildNil ?_; intro _ _ _))) | (show wpC _ _ _ _ _ _; first | refine wpC_seq ?_ | refine wpC_region ?_ | refine c_true ?_ | refine c_false ?_ | (refine c_b (fun _ => ?_) (fun _ => ?_) <;> (first | (exfalso; omega) | contradiction | skip)) | refine wpC_ret ?_ | refine wpC_skip ?_ | refine wpC_label ?_ | (apply wpC_drawX (id := 7) ([]) [0, 1, 2, 3, 4, 5, 6, 7, 8, 9] rfl (by kernel_rfl); (case hpk => (repeat (first | exact Pcs.blk (by infer_instance) | exact Pcs.nil | (apply Pcs.cons; infer_instance) | apply Pcs.app))))) | (show Then _ _ _ _ _ _ _; first | refine then_normal ?_ | refine then_ret ?_) | (show wpD _ _ _ _ _ _ _ _; first | refine wpD_nil ?_ | refine d_rdp ?_ | refine d_rdm ?_ | refine d_sks ?_ | refine d_tt ?_ | refine d_ff ?_ | (refine d_cmp (fun _ => ?_) (fun _ => ?_) <;> (first | (exfalso; omega) | contradiction | skip)) | (refine d_cb (fun _ => ?_) (fun _ => ?_) <;> (first | (exfalso; omega) | contradiction | skip)) | refine d_exs ?_ | refine d_exn ?_ | (refine d_p (fun _ => ?_) (fun _ => ?_) <;> (first | (exfalso; omega) | contradiction | skip)) | (refine d_g (fun _ => ?_) (fun _ => ?_) <;> (first | (exfalso; omega) | contradiction | skip))) | (show (_ ∨ Subs _ _) ∧ _; first | refine d_sub ?_ | refine d_cov ?_) | (show RetP _ _ _ _ _ _ _ _; first | refine r_1 ?_) | assumption | intro _)
    rename_i v' B' Pl' fs' hO' hP' hs' hab
    exact q_drop (Rk.fin (fun H => (H ++ Fn) ++ F) hK hR hO' hP' hs' hk (s' := ⟨appd (fs.map Rf.ab) s bs, fuse - 1, k, down⟩) (by rw [append_good hd hn hhas hfit, chg_2 hf hf2]) ⟨hab, rfl, .inr rfl, rfl⟩)
  · rename_i hd hn l1 l2 hfs hlt hgt hmany
    exact q_drop (Rk.fin (fun H => (H ++ Fn) ++ F) hK hR hO hP hs hk (append_many hd hn (by rw [hfs]; exact hasR_none hlt hgt) (by simp only [List.length_map]; omega)) (.rfl _))
  · rename_i hd hn l1 l2 hfs hlt hgt hmany hc
    exact q_drop (Rk.fin (fun H => (H ++ Fn) ++ F) hK hR hO hP hs hk (append_big hd hn (.inr (by simp only [List.length_map]; omega)) (by show room < (bs.length : Int) + totA (fs.map Rf.ab); omega)) (.rfl _))
  · rename_i hd hn l1 l2 hfs hlt hgt hmany hc hf
    have hhas : hasA (fs.map Rf.ab) s ∨ (fs.map Rf.ab).length < 1024 := .inr (by simp only [List.length_map]; omega)
    have hfit : (bs.length : Int) + totA (fs.map Rf.ab) ≤ room := by omega
    have hcp := hcap hfit
    repeat' (first | (show wpO _ _ _ _ _ _ _; first | refine wpO_nil ?_ | (show wpO _ _ _ (⟨_, .binOp _ _ _ _ _, _, _, _, _⟩ :: _) _ _ _; first | refine s_tt ?_ | refine s_ff ?_ | refine s_rdp ?_ | (refine s_cmp (fun _ => ?_) (fun _ => ?_) <;> (first | (exfalso; omega) | contradiction | skip)) | (refine s_cb (fun _ => ?_) (fun _ => ?_) <;> (first | (exfalso; omega) | contradiction | skip)) | refine s_sks ?_ | (refine s_g (fun _ => ?_) (fun _ => ?_) <;> (first | (exfalso; omega) | contradiction | skip))) | (show wpO _ _ _ (⟨_, .pick _ _ _, _, _, _, _⟩ :: _) _ _ _; first | refine s_rdp ?_ | (refine s_p (fun _ => ?_) (fun _ => ?_) <;> (first | (exfalso; omega) | contradiction | skip)) | refine s_sks ?_ | (refine s_g (fun _ => ?_) (fun _ => ?_) <;> (first | (exfalso; omega) | contradiction | skip))) | refine s_rdp ?_ | refine s_rdm ?_ | refine s_exq ?_ | refine s_exm ?_ | refine s_sks ?_ | refine s_skn ?_ | (refine s_g (fun _ => ?_) (fun _ => ?_) <;> (first | (exfalso; omega) | contradiction | skip))) | (show Ex _ _ _ _ _; first | (show Ex _ ⟨_, .call ⟨.value (.func _), _, _⟩, _, _, _, _⟩ _ _ _; refine e_call ?_; first | (apply p_pcs; apply put_spec _ hO hP hl hs hS hcp; (try case hS => assumption); (case hpcs => (repeat (first | exact Pcs.blk (by infer_instance) | exact Pcs.nil | (apply Pcs.cons; infer_instance) | apply Pcs.app))))) | (show Ex _ ⟨_, .buildSlice _ _ _, _, _, _, _⟩ _ _ _; first | (refine e_buildSlice ?_; intro _) | (refine e_buildNil ?_; intro _ _ _))) | (show wpC _ _ _ _ _ _; first | refine wpC_seq ?_ | refine wpC_region ?_ | refine c_true ?_ | refine c_false ?_ | (refine c_b (fun _ => ?_) (fun _ => ?_) <;> (first | (exfalso; omega) | contradiction | skip)) | refine wpC_ret ?_ | refine wpC_skip ?_ | refine wpC_label ?_ | (apply wpC_drawX (id := 7) ([]) [0, 1, 2, 3, 4, 5, 6, 7, 8, 9] rfl (by kernel_rfl); (case hpk => (repeat (first | exact Pcs.blk (by infer_instance) | exact Pcs.nil | (apply Pcs.cons; infer_instance) | apply Pcs.app))))) | (show Then _ _ _ _ _ _ _; first | refine then_normal ?_ | refine then_ret ?_) | (show wpD _ _ _ _ _ _ _ _; first | refine wpD_nil ?_ | refine d_rdp ?_ | refine d_rdm ?_ | refine d_sks ?_ | refine d_tt ?_ | refine d_ff ?_ | (refine d_cmp (fun _ => ?_) (fun _ => ?_) <;> (first | (exfalso; omega) | contradiction | skip)) | (refine d_cb (fun _ => ?_) (fun _ => ?_) <;> (first | (exfalso; omega) | contradiction | skip)) | refine d_exs ?_ | refine d_exn ?_ | (refine d_p (fun _ => ?_) (fun _ => ?_) <;> (first | (exfalso; omega) | contradiction | skip)) | (refine d_g (fun _ => ?_) (fun _ => ?_) <;> (first | (exfalso; omega) | contradiction | skip))) | (show (_ ∨ Subs _ _) ∧ _; first | refine d_sub ?_ | refine d_cov ?_) | (show RetP _ _ _ _ _ _ _ _; first | refine r_1 ?_) | assumption | intro _)
    rename_i v' B' Pl' fs' hO' hP' hs' hab
    exact q_drop (Rk.fin (fun H => (H ++ Fn) ++ F) hK hR hO' hP' hs' hk (s' := ⟨appd (fs.map Rf.ab) s bs, 0, k, down⟩) (by rw [append_good hd hn hhas hfit, chg_0 hf]) ⟨hab, hf, .inr rfl, rfl⟩)
  · rename_i hd hn l1 l2 hfs hlt hgt hmany hc hf
    have hhas : hasA (fs.map Rf.ab) s ∨ (fs.map Rf.ab).length < 1024 := .inr (by simp only [List.length_map]; omega)
    have hfit : (bs.length : Int) + totA (fs.map Rf.ab) ≤ room := by omega
    have hcp := hcap hfit
    have hsyA : ∀ fs' : List Rf, (fs'.map Rf.ab).Perm (appd (fs.map Rf.ab) s bs) → (∀ f ∈ fs', f.syn ≤ f.bs.length) ∧ totA (fs'.map Rf.ab) ≤ 140737488355328 ∧ fs'.length ≤ 1024 := fun fs' hp => by
      refine ⟨fun f hf => appd_syn (n := s) (bs := bs) hds.syn f.ab (hp.mem_iff.1 (List.mem_map.2 ⟨f, hf, rfl⟩)), ?_, ?_⟩
      · rw [totA_perm hp, totA_appd]
        omega
      · have h1 := hp.length_eq
        rw [appd_len, List.length_map, List.length_map] at h1
        rw [h1]
        split
        · exact hl
        · rename_i hno
          have := hhas.resolve_left hno
          simp only [List.length_map] at this
          omega
    repeat' ((fail_if_success (show wpO _ _ _ (⟨_, .call ⟨.value (.func 69), _, _⟩, _, _, _, _⟩ :: _) _ _ _)); first | (show wpO _ _ _ _ _ _ _; first | refine wpO_nil ?_ | (show wpO _ _ _ (⟨_, .binOp _ _ _ _ _, _, _, _, _⟩ :: _) _ _ _; first | refine s_tt ?_ | refine s_ff ?_ | refine s_rdp ?_ | (refine s_cmp (fun _ => ?_) (fun _ => ?_) <;> (first | (exfalso; omega) | contradiction | skip)) | (refine s_cb (fun _ => ?_) (fun _ => ?_) <;> (first | (exfalso; omega) | contradiction | skip)) | refine s_sks ?_ | (refine s_g (fun _ => ?_) (fun _ => ?_) <;> (first | (exfalso; omega) | contradiction | skip))) | (show wpO _ _ _ (⟨_, .pick _ _ _, _, _, _, _⟩ :: _) _ _ _; first | refine s_rdp ?_ | (refine s_p (fun _ => ?_) (fun _ => ?_) <;> (first | (exfalso; omega) | contradiction | skip)) | refine s_sks ?_ | (refine s_g (fun _ => ?_) (fun _ => ?_) <;> (first | (exfalso; omega) | contradiction | skip))) | refine s_rdp ?_ | refine s_rdm ?_ | refine s_exq ?_ | refine s_exm ?_ | refine s_sks ?_ | refine s_skn ?_ | (refine s_g (fun _ => ?_) (fun _ => ?_) <;> (first | (exfalso; omega) | contradiction | skip))) | (show Ex _ _ _ _ _; first | (show Ex _ ⟨_, .call ⟨.value (.func _), _, _⟩, _, _, _, _⟩ _ _ _; refine e_call ?_; first | (apply p_pcs; apply put_spec _ hO hP hl hs hS hcp; (try case hS => assumption); (case hpcs => (repeat (first | exact Pcs.blk (by infer_instance) | exact Pcs.nil | (apply Pcs.cons; infer_instance) | apply Pcs.app))))) | (show Ex _ ⟨_, .buildSlice _ _ _, _, _, _, _⟩ _ _ _; first | (refine e_buildSlice ?_; intro _) | (refine e_buildNil ?_; intro _ _ _))) | (show wpC _ _ _ _ _ _; first | refine wpC_seq ?_ | refine wpC_region ?_ | refine c_true ?_ | refine c_false ?_ | (refine c_b (fun _ => ?_) (fun _ => ?_) <;> (first | (exfalso; omega) | contradiction | skip)) | refine wpC_ret ?_ | refine wpC_skip ?_ | refine wpC_label ?_ | (apply wpC_drawX (id := 7) ([]) [0, 1, 2, 3, 4, 5, 6, 7, 8, 9] rfl (by kernel_rfl); (case hpk => (repeat (first | exact Pcs.blk (by infer_instance) | exact Pcs.nil | (apply Pcs.cons; infer_instance) | apply Pcs.app))))) | (show Then _ _ _ _ _ _ _; first | refine then_normal ?_ | refine then_ret ?_) | (show wpD _ _ _ _ _ _ _ _; first | refine wpD_nil ?_ | refine d_rdp ?_ | refine d_rdm ?_ | refine d_sks ?_ | refine d_tt ?_ | refine d_ff ?_ | (refine d_cmp (fun _ => ?_) (fun _ => ?_) <;> (first | (exfalso; omega) | contradiction | skip)) | (refine d_cb (fun _ => ?_) (fun _ => ?_) <;> (first | (exfalso; omega) | contradiction | skip)) | refine d_exs ?_ | refine d_exn ?_ | (refine d_p (fun _ => ?_) (fun _ => ?_) <;> (first | (exfalso; omega) | contradiction | skip)) | (refine d_g (fun _ => ?_) (fun _ => ?_) <;> (first | (exfalso; omega) | contradiction | skip))) | (show (_ ∨ Subs _ _) ∧ _; first | refine d_sub ?_ | refine d_cov ?_) | (show RetP _ _ _ _ _ _ _ _; first | refine r_1 ?_) | assumption | intro _)
    rename_i v' B' Pl' fs' hO' hP' hs' hab
    obtain ⟨g1, g2, g3⟩ := hsyA fs' hab
    repeat' (first | (show wpO _ _ _ _ _ _ _; first | refine wpO_nil ?_ | (show wpO _ _ _ (⟨_, .binOp _ _ _ _ _, _, _, _, _⟩ :: _) _ _ _; first | refine s_tt ?_ | refine s_ff ?_ | refine s_rdp ?_ | (refine s_cmp (fun _ => ?_) (fun _ => ?_) <;> (first | (exfalso; omega) | contradiction | skip)) | (refine s_cb (fun _ => ?_) (fun _ => ?_) <;> (first | (exfalso; omega) | contradiction | skip)) | refine s_sks ?_ | (refine s_g (fun _ => ?_) (fun _ => ?_) <;> (first | (exfalso; omega) | contradiction | skip))) | (show wpO _ _ _ (⟨_, .pick _ _ _, _, _, _, _⟩ :: _) _ _ _; first | refine s_rdp ?_ | (refine s_p (fun _ => ?_) (fun _ => ?_) <;> (first | (exfalso; omega) | contradiction | skip)) | refine s_sks ?_ | (refine s_g (fun _ => ?_) (fun _ => ?_) <;> (first | (exfalso; omega) | contradiction | skip))) | refine s_rdp ?_ | refine s_rdm ?_ | refine s_exq ?_ | refine s_exm ?_ | refine s_sks ?_ | refine s_skn ?_ | (refine s_g (fun _ => ?_) (fun _ => ?_) <;> (first | (exfalso; omega) | contradiction | skip))) | (show Ex _ _ _ _ _; first | (show Ex _ ⟨_, .call ⟨.value (.func _), _, _⟩, _, _, _, _⟩ _ _ _; refine e_call ?_; first | (apply p_pcs; apply rcrash_spec _ hO' hP' g3 g1 g2 hk; (try case hS => assumption); (case hpcs => (repeat (first | exact Pcs.blk (by infer_instance) | exact Pcs.nil | (apply Pcs.cons; infer_instance) | apply Pcs.app))))) | (show Ex _ ⟨_, .buildSlice _ _ _, _, _, _, _⟩ _ _ _; first | (refine e_buildSlice ?_; intro _) | (refine e_buildNil ?_; intro _ _ _))) | (show wpC _ _ _ _ _ _; first | refine wpC_seq ?_ | refine wpC_region ?_ | refine c_true ?_ | refine c_false ?_ | (refine c_b (fun _ => ?_) (fun _ => ?_) <;> (first | (exfalso; omega) | contradiction | skip)) | refine wpC_ret ?_ | refine wpC_skip ?_ | refine wpC_label ?_ | (apply wpC_drawX (id := 7) ([]) [0, 1, 2, 3, 4, 5, 6, 7, 8, 9] rfl (by kernel_rfl); (case hpk => (repeat (first | exact Pcs.blk (by infer_instance) | exact Pcs.nil | (apply Pcs.cons; infer_instance) | apply Pcs.app))))) | (show Then _ _ _ _ _ _ _; first | refine then_normal ?_ | refine then_ret ?_) | (show wpD _ _ _ _ _ _ _ _; first | refine wpD_nil ?_ | refine d_rdp ?_ | refine d_rdm ?_ | refine d_sks ?_ | refine d_tt ?_ | refine d_ff ?_ | (refine d_cmp (fun _ => ?_) (fun _ => ?_) <;> (first | (exfalso; omega) | contradiction | skip)) | (refine d_cb (fun _ => ?_) (fun _ => ?_) <;> (first | (exfalso; omega) | contradiction | skip)) | refine d_exs ?_ | refine d_exn ?_ | (refine d_p (fun _ => ?_) (fun _ => ?_) <;> (first | (exfalso; omega) | contradiction | skip)) | (refine d_g (fun _ => ?_) (fun _ => ?_) <;> (first | (exfalso; omega) | contradiction | skip))) | (show (_ ∨ Subs _ _) ∧ _; first | refine d_sub ?_ | refine d_cov ?_) | (show RetP _ _ _ _ _ _ _ _; first | refine r_1 ?_) | assumption | intro _)
    · omega
    · exact absurd (hd ▸ ‹_ = true› : false = true) (by simp)
    · rename_i n hnn _ v2 B2 fs2 hO2 hP2 hnm2 hab2
      obtain rfl : k = n := by omega
      exact q_drop (Rk.fin (fun H => (H ++ Fn) ++ F) hK hR hO2 hP2 (nm_sorted hs' hnm2) hk (s' := ⟨(appd (fs.map Rf.ab) s bs).map (fell k), 0, 0, true⟩) (by rw [append_good hd hn hhas hfit, chg_boom hf]; rfl) ⟨by rw [hab2]; exact hab.map _, rfl, .inl rfl, rfl⟩)
  · rename_i hd hn l1 l2 hfs hlt hgt hmany hc hf hf2
    have hhas : hasA (fs.map Rf.ab) s ∨ (fs.map Rf.ab).length < 1024 := .inr (by simp only [List.length_map]; omega)
    have hfit : (bs.length : Int) + totA (fs.map Rf.ab) ≤ room := by omega
    have hcp := hcap hfit
    repeat' (first | (show wpO _ _ _ _ _ _ _; first | refine wpO_nil ?_ | (show wpO _ _ _ (⟨_, .binOp _ _ _ _ _, _, _, _, _⟩ :: _) _ _ _; first | refine s_tt ?_ | refine s_ff ?_ | refine s_rdp ?_ | (refine s_cmp (fun _ => ?_) (fun _ => ?_) <;> (first | (exfalso; omega) | contradiction | skip)) | (refine s_cb (fun _ => ?_) (fun _ => ?_) <;> (first | (exfalso; omega) | contradiction | skip)) | refine s_sks ?_ | (refine s_g (fun _ => ?_) (fun _ => ?_) <;> (first | (exfalso; omega) | contradiction | skip))) | (show wpO _ _ _ (⟨_, .pick _ _ _, _, _, _, _⟩ :: _) _ _ _; first | refine s_rdp ?_ | (refine s_p (fun _ => ?_) (fun _ => ?_) <;> (first | (exfalso; omega) | contradiction | skip)) | refine s_sks ?_ | (refine s_g (fun _ => ?_) (fun _ => ?_) <;> (first | (exfalso; omega) | contradiction | skip))) | refine s_rdp ?_ | refine s_rdm ?_ | refine s_exq ?_ | refine s_exm ?_ | refine s_sks ?_ | refine s_skn ?_ | (refine s_g (fun _ => ?_) (fun _ => ?_) <;> (first | (exfalso; omega) | contradiction | skip))) | (show Ex _ _ _ _ _; first | (show Ex _ ⟨_, .call ⟨.value (.func _), _, _⟩, _, _, _, _⟩ _ _ _; refine e_call ?_; first | (apply p_pcs; apply put_spec _ hO hP hl hs hS hcp; (try case hS => assumption); (case hpcs => (repeat (first | exact Pcs.blk (by infer_instance) | exact Pcs.nil | (apply Pcs.cons; infer_instance) | apply Pcs.app))))) | (show Ex _ ⟨_, .buildSlice _ _ _, _, _, _, _⟩ _ _ _; first | (refine e_buildSlice ?_; intro _) | (refine e_buildNil ?_; intro _ _ _))) | (show wpC _ _ _ _ _ _; first | refine wpC_seq ?_ | refine wpC_region ?_ | refine c_true ?_ | refine c_false ?_ | (refine c_b (fun _ => ?_) (fun _ => ?_) <;> (first | (exfalso; omega) | contradiction | skip)) | refine wpC_ret ?_ | refine wpC_skip ?_ | refine wpC_label ?_ | (apply wpC_drawX (id := 7) ([]) [0, 1, 2, 3, 4, 5, 6, 7, 8, 9] rfl (by kernel_rfl); (case hpk => (repeat (first | exact Pcs.blk (by infer_instance) | exact Pcs.nil | (apply Pcs.cons; infer_instance) | apply Pcs.app))))) | (show Then _ _ _ _ _ _ _; first | refine then_normal ?_ | refine then_ret ?_) | (show wpD _ _ _ _ _ _ _ _; first | refine wpD_nil ?_ | refine d_rdp ?_ | refine d_rdm ?_ | refine d_sks ?_ | refine d_tt ?_ | refine d_ff ?_ | (refine d_cmp (fun _ => ?_) (fun _ => ?_) <;> (first | (exfalso; omega) | contradiction | skip)) | (refine d_cb (fun _ => ?_) (fun _ => ?_) <;> (first | (exfalso; omega) | contradiction | skip)) | refine d_exs ?_ | refine d_exn ?_ | (refine d_p (fun _ => ?_) (fun _ => ?_) <;> (first | (exfalso; omega) | contradiction | skip)) | (refine d_g (fun _ => ?_) (fun _ => ?_) <;> (first | (exfalso; omega) | contradiction | skip))) | (show (_ ∨ Subs _ _) ∧ _; first | refine d_sub ?_ | refine d_cov ?_) | (show RetP _ _ _ _ _ _ _ _; first | refine r_1 ?_) | assumption | intro _)
    rename_i v' B' Pl' fs' hO' hP' hs' hab
    exact q_drop (Rk.fin (fun H => (H ++ Fn) ++ F) hK hR hO' hP' hs' hk (s' := ⟨appd (fs.map Rf.ab) s bs, fuse - 1, k, down⟩) (by rw [append_good hd hn hhas hfit, chg_2 hf hf2]) ⟨hab, rfl, .inr rfl, rfl⟩)
end Go.Vl
