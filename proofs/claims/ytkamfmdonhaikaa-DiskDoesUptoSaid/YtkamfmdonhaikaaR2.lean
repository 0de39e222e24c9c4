/-
  The document's disk: what is wrong; a change; bytes put to a file's end.
-/
import Derived.Test.YtkamfmdonhaikaaR1
import Derived.Test.YtkamfmdonhaikaaVx
namespace Go.Vl
open Go.Proofs
set_option maxHeartbeats 4000000 in
set_option maxRecDepth 100000 in
theorem okN_ne {s : ByteArray} (h : s = ⟨#[]⟩) : ¬ okN s := fun h1 => h1.1 (by rw [h]; rfl)
set_option maxHeartbeats 4000000 in
set_option maxRecDepth 100000 in
theorem ne_okN {s : ByteArray} (h : ¬ s = ⟨#[]⟩) : s.size ≠ 0 := fun h1 => h (by
  obtain ⟨a⟩ := s
  have : a = #[] := Array.eq_empty_of_size_eq_zero h1
  rw [this])
attribute [local irreducible] wpC wpO wpD Ex Rd callsK RetP Drop valK
set_option maxHeartbeats 4000000 in
set_option maxRecDepth 100000 in
theorem looks_spec (e : World) {d : Nat} {room fuse : Int} {v : Value} {k : Nat} {down : Bool} {ns : List ByteArray} {vn : Value} {Fn F : Hp} {K : Value → Hp → Prop} (hin : InSl Fn 1 (ns.map strC) vn) (hnl : ns.length ≤ 2)
    (h7 : down = true → K (.int .i64 7) ((rblk d room v fuse k down ++ Fn) ++ F)) (h20 : down = false → (∃ s ∈ ns, ¬ okN s) → K (.int .i64 20) ((rblk d room v fuse k down ++ Fn) ++ F))
    (h0 : down = false → (∀ s ∈ ns, okN s) → K (.int .i64 0) ((rblk d room v fuse k down ++ Fn) ++ F)) :
    callsK Try.prog e 100 #[pv d, vn] ((rblk d room v fuse k down ++ Fn) ++ F) K := by
  refine calls_body (N := 29) (args := [pv d, vn]) Try.func100 rfl rfl rfl (by simp) ?_
  repeat' (first | (show wpO _ _ _ _ _ _ _; first | refine wpO_nil ?_ | (show wpO _ _ _ (⟨_, .binOp _ _ _ _ _, _, _, _, _⟩ :: _) _ _ _; first | refine s_tt ?_ | refine s_ff ?_ | refine s_rdp ?_ | (refine s_cmp (fun _ => ?_) (fun _ => ?_) <;> (first | (exfalso; omega) | contradiction | skip)) | (refine s_cb (fun _ => ?_) (fun _ => ?_) <;> (first | (exfalso; omega) | contradiction | skip)) | refine s_sks ?_ | (refine s_g (fun _ => ?_) (fun _ => ?_) <;> (first | (exfalso; omega) | contradiction | skip))) | (show wpO _ _ _ (⟨_, .indexAddr _ _ _, _, _, _, _⟩ :: _) _ _ _; first | refine s_rdp ?_ | refine s_idx (fun _ _ _ _ _ _ _ => ?_) | refine s_sks ?_ | (refine s_g (fun _ => ?_) (fun _ => ?_) <;> (first | (exfalso; omega) | contradiction | skip))) | (show wpO _ _ _ (⟨_, .pick _ _ _, _, _, _, _⟩ :: _) _ _ _; first | refine s_rdp ?_ | (refine s_p (fun _ => ?_) (fun _ => ?_) <;> (first | (exfalso; omega) | contradiction | skip)) | refine s_sks ?_ | (refine s_g (fun _ => ?_) (fun _ => ?_) <;> (first | (exfalso; omega) | contradiction | skip))) | refine s_rdp ?_ | refine s_rdm ?_ | refine s_exq ?_ | refine s_exm ?_ | refine s_sks ?_ | refine s_skn ?_ | (refine s_g (fun _ => ?_) (fun _ => ?_) <;> (first | (exfalso; omega) | contradiction | skip))) | (show wpC _ _ _ _ _ _; first | refine wpC_seq ?_ | refine wpC_region ?_ | refine c_true ?_ | refine c_false ?_ | (refine c_b (fun _ => ?_) (fun _ => ?_) <;> (first | (exfalso; omega) | contradiction | skip)) | refine wpC_block ?_ | refine wpC_ret ?_ | refine wpC_skip ?_ | refine wpC_exit ?_ | refine wpC_label ?_) | (show Then _ _ _ _ _ _ _; first | refine then_normal ?_ | refine then_ret ?_ | refine then_exit ?_) | (show InBlock _ _ _ _ _ _; first | refine inBlock_normal ?_ | refine inBlock_ret ?_ | refine inBlock_same ?_ | refine b_other ?_) | (show LoopPost _ _ _ _ _ _; first | refine loop_ret ?_ | refine loop_exit ?_) | (show RetP _ _ _ _ _ _ _ _; first | refine r_1 ?_))
  · exact q_drop (h7 ‹_›)
  · refine wpC_loopA (κ := Nat) [4, 5, 10, 11, 12, 13, 14, 15, 16, 17, 18, 19, 20, 21, 22, 23, 24, 25, 26, 27, 28] (fun i => [(5, .int .i64 (i : Int))]) (fun _ => (rblk d room v fuse k down ++ Fn) ++ F)
      (fun i => i ≤ ns.length ∧ ∀ s ∈ ns.take i, okN s) (fun i => ns.length - i) 0 ⟨Nat.zero_le _, by simp⟩ ⟨rfl, trivial⟩ q_drp ?_
    rintro i ρx ⟨hi, hall⟩
    simp only at hi hall ⊢
    cases hr : ns[i]? with
    | none =>
      have hge : ns.length ≤ i := List.getElem?_eq_none_iff.1 hr
      repeat' (first | (show wpO _ _ _ _ _ _ _; first | refine wpO_nil ?_ | (show wpO _ _ _ (⟨_, .binOp _ _ _ _ _, _, _, _, _⟩ :: _) _ _ _; first | refine s_tt ?_ | refine s_ff ?_ | refine s_rdp ?_ | (refine s_cmp (fun _ => ?_) (fun _ => ?_) <;> (first | (exfalso; omega) | contradiction | skip)) | (refine s_cb (fun _ => ?_) (fun _ => ?_) <;> (first | (exfalso; omega) | contradiction | skip)) | refine s_sks ?_ | (refine s_g (fun _ => ?_) (fun _ => ?_) <;> (first | (exfalso; omega) | contradiction | skip))) | (show wpO _ _ _ (⟨_, .indexAddr _ _ _, _, _, _, _⟩ :: _) _ _ _; first | refine s_rdp ?_ | refine s_idx (fun _ _ _ _ _ _ _ => ?_) | refine s_sks ?_ | (refine s_g (fun _ => ?_) (fun _ => ?_) <;> (first | (exfalso; omega) | contradiction | skip))) | (show wpO _ _ _ (⟨_, .pick _ _ _, _, _, _, _⟩ :: _) _ _ _; first | refine s_rdp ?_ | (refine s_p (fun _ => ?_) (fun _ => ?_) <;> (first | (exfalso; omega) | contradiction | skip)) | refine s_sks ?_ | (refine s_g (fun _ => ?_) (fun _ => ?_) <;> (first | (exfalso; omega) | contradiction | skip))) | refine s_rdp ?_ | refine s_rdm ?_ | refine s_exq ?_ | refine s_exm ?_ | refine s_sks ?_ | refine s_skn ?_ | (refine s_g (fun _ => ?_) (fun _ => ?_) <;> (first | (exfalso; omega) | contradiction | skip))) | (show wpC _ _ _ _ _ _; first | refine wpC_seq ?_ | refine wpC_region ?_ | refine c_true ?_ | refine c_false ?_ | (refine c_b (fun _ => ?_) (fun _ => ?_) <;> (first | (exfalso; omega) | contradiction | skip)) | refine wpC_block ?_ | refine wpC_ret ?_ | refine wpC_skip ?_ | refine wpC_exit ?_ | refine wpC_label ?_) | (show Then _ _ _ _ _ _ _; first | refine then_normal ?_ | refine then_ret ?_ | refine then_exit ?_) | (show InBlock _ _ _ _ _ _; first | refine inBlock_normal ?_ | refine inBlock_ret ?_ | refine inBlock_same ?_ | refine b_other ?_) | (show LoopPost _ _ _ _ _ _; first | refine loop_ret ?_ | refine loop_exit ?_) | (show RetP _ _ _ _ _ _ _ _; first | refine r_1 ?_))
      rw [List.take_of_length_le hge] at hall
      exact q_drop (h0 ‹_› hall)
    | some s =>
      have hlt := (List.getElem?_eq_some_iff.1 hr).1
      have hms := List.mem_of_getElem? hr
      repeat' (first | (show wpO _ _ _ _ _ _ _; first | refine wpO_nil ?_ | (show wpO _ _ _ (⟨_, .binOp _ _ _ _ _, _, _, _, _⟩ :: _) _ _ _; first | refine s_tt ?_ | refine s_ff ?_ | refine s_rdp ?_ | (refine s_cmp (fun _ => ?_) (fun _ => ?_) <;> (first | (exfalso; omega) | contradiction | skip)) | (refine s_cb (fun _ => ?_) (fun _ => ?_) <;> (first | (exfalso; omega) | contradiction | skip)) | refine s_sks ?_ | (refine s_g (fun _ => ?_) (fun _ => ?_) <;> (first | (exfalso; omega) | contradiction | skip))) | (show wpO _ _ _ (⟨_, .indexAddr _ _ _, _, _, _, _⟩ :: _) _ _ _; first | refine s_rdp ?_ | refine s_idx (fun _ _ _ _ _ _ _ => ?_) | refine s_sks ?_ | (refine s_g (fun _ => ?_) (fun _ => ?_) <;> (first | (exfalso; omega) | contradiction | skip))) | (show wpO _ _ _ (⟨_, .pick _ _ _, _, _, _, _⟩ :: _) _ _ _; first | refine s_rdp ?_ | (refine s_p (fun _ => ?_) (fun _ => ?_) <;> (first | (exfalso; omega) | contradiction | skip)) | refine s_sks ?_ | (refine s_g (fun _ => ?_) (fun _ => ?_) <;> (first | (exfalso; omega) | contradiction | skip))) | refine s_rdp ?_ | refine s_rdm ?_ | refine s_exq ?_ | refine s_exm ?_ | refine s_sks ?_ | refine s_skn ?_ | (refine s_g (fun _ => ?_) (fun _ => ?_) <;> (first | (exfalso; omega) | contradiction | skip))) | (show wpC _ _ _ _ _ _; first | refine wpC_seq ?_ | refine wpC_region ?_ | refine c_true ?_ | refine c_false ?_ | (refine c_b (fun _ => ?_) (fun _ => ?_) <;> (first | (exfalso; omega) | contradiction | skip)) | refine wpC_block ?_ | refine wpC_ret ?_ | refine wpC_skip ?_ | refine wpC_exit ?_ | refine wpC_label ?_) | (show Then _ _ _ _ _ _ _; first | refine then_normal ?_ | refine then_ret ?_ | refine then_exit ?_) | (show InBlock _ _ _ _ _ _; first | refine inBlock_normal ?_ | refine inBlock_ret ?_ | refine inBlock_same ?_ | refine b_other ?_) | (show LoopPost _ _ _ _ _ _; first | refine loop_ret ?_ | refine loop_exit ?_) | (show RetP _ _ _ _ _ _ _ _; first | refine r_1 ?_))
      · exact q_drop (h20 ‹_› ⟨s, hms, okN_ne ‹_›⟩)
      · exact q_drop (h20 ‹_› ⟨s, hms, fun h => by have := h.2; omega⟩)
      · have hne := ne_okN ‹_›
        refine lp_end (i + 1) (by omega) ⟨hlt, fun x hx => ?_⟩
        rw [List.take_add_one, hr] at hx
        rcases List.mem_append.1 hx with hx | hx
        · exact hall x hx
        · obtain rfl : x = s := by simpa using hx
          exact ⟨hne, by omega⟩
set_option maxHeartbeats 4000000 in
set_option maxRecDepth 100000 in
theorem rthere_spec (e : World) {d b : Nat} {room fuse : Int} {v : Value} {k : Nat} {down : Bool} {fs : List Rf} {s : ByteArray} {ss : List ByteArray} {B F : Hp} {K : Value → Hp → Prop} (hO : FsO v fs B) (hl : fs.length ≤ 1024) (hs : fs.Pairwise fun f g => ltN f.nm g.nm) (hnl : ss.length ≤ 1)
    (h7 : down = true → K (.tuple #[.int .i64 0, .int .i64 7]) (((rblk d room v fuse k down ++ B) ++ [(b, cellsO ((s :: ss).map Value.string) 9)]) ++ F)) (h20 : down = false → (∃ x ∈ s :: ss, ¬ okN x) → K (.tuple #[.int .i64 0, .int .i64 20]) (((rblk d room v fuse k down ++ B) ++ [(b, cellsO ((s :: ss).map Value.string) 9)]) ++ F))
    (h4 : down = false → (∀ x ∈ s :: ss, okN x) → (∀ f ∈ fs, f.nm ≠ s) → K (.tuple #[.int .i64 0, .int .i64 4]) (((rblk d room v fuse k down ++ B) ++ [(b, cellsO ((s :: ss).map Value.string) 9)]) ++ F))
    (h0 : ∀ l1 f l2, down = false → (∀ x ∈ s :: ss, okN x) → fs = l1 ++ f :: l2 → f.nm = s → K (.tuple #[.int .i64 (l1.length : Int), .int .i64 0]) (((rblk d room v fuse k down ++ B) ++ [(b, cellsO ((s :: ss).map Value.string) 9)]) ++ F)) :
    callsK Try.prog e 104 #[pv d, .slice (some ⟨b, 0, none⟩) (ss.length + 1) (ss.length + 1)] (((rblk d room v fuse k down ++ B) ++ [(b, cellsO ((s :: ss).map Value.string) 9)]) ++ F) K := by
  have hin := inSl_strs b (s :: ss) 9
  have hidx : (s :: ss)[0]? = some s := rfl
  refine calls_body (N := 26) (args := [pv d, .slice (some ⟨b, 0, none⟩) (ss.length + 1) (ss.length + 1)]) Try.func104 rfl rfl rfl (by simp) ?_
  repeat' (first | (show wpO _ _ _ _ _ _ _; first | refine wpO_nil ?_ | (show wpO _ _ _ (⟨_, .binOp _ _ _ _ _, _, _, _, _⟩ :: _) _ _ _; first | refine s_tt ?_ | refine s_ff ?_ | refine s_rdp ?_ | (refine s_cmp (fun _ => ?_) (fun _ => ?_) <;> (first | (exfalso; omega) | contradiction | skip)) | (refine s_cb (fun _ => ?_) (fun _ => ?_) <;> (first | (exfalso; omega) | contradiction | skip))) | (show wpO _ _ _ (⟨_, .indexAddr _ _ _, _, _, _, _⟩ :: _) _ _ _; first | refine s_rdp ?_ | refine s_idx (fun _ _ _ _ _ _ _ => ?_)) | refine s_rdp ?_ | refine s_rdm ?_ | refine s_exq ?_ | refine s_exm ?_) | (show Ex _ _ _ _ _; first | (show Ex _ ⟨_, .call ⟨.value (.func _), _, _⟩, _, _, _, _⟩ _ _ _; refine e_call ?_; first | (apply p_pcs; apply looks_spec _ hin (by simp; omega); (try case hS => assumption); (case hpcs => (repeat (first | exact Pcs.blk (by infer_instance) | exact Pcs.nil | (apply Pcs.cons; infer_instance) | apply Pcs.app)))) | (apply p_pcs; apply find_spec _ hO hl hs; (try case hS => assumption); (case hpcs => (repeat (first | exact Pcs.blk (by infer_instance) | exact Pcs.nil | (apply Pcs.cons; infer_instance) | apply Pcs.app)))))) | (show wpC _ _ _ _ _ _; first | refine wpC_seq ?_ | refine wpC_region ?_ | refine c_true ?_ | refine c_false ?_ | (refine c_b (fun _ => ?_) (fun _ => ?_) <;> (first | (exfalso; omega) | contradiction | skip)) | refine wpC_ret ?_ | refine wpC_skip ?_ | refine wpC_label ?_) | (show Then _ _ _ _ _ _ _; first | refine then_normal ?_ | refine then_ret ?_) | (show RetP _ _ _ _ _ _ _ _; first | refine r_2 ?_) | assumption | intro _)
  · exact q_drop (h7 ‹_›)
  · exact q_drop (h20 ‹_› ‹_›)
  · exact q_drop (h0 _ _ _ ‹_› ‹_› ‹_› ‹_›)
  · rename_i l1 l2 hl12 hlt hgt
    refine q_drop (h4 ‹_› ‹_› (fun f hf he => ?_))
    rw [hl12] at hf
    rcases List.mem_append.1 hf with hf | hf
    · exact ltN_irrefl _ (he ▸ hlt f hf)
    · exact ltN_irrefl _ (he ▸ hgt f hf)
set_option maxHeartbeats 4000000 in
set_option maxRecDepth 100000 in
theorem blows_spec (e : World) {d : Nat} {room fuse : Int} {v : Value} {k : Nat} {down : Bool} {F : Hp} {K : Value → Hp → Prop} (h0 : 0 ≤ fuse) (h1 : fuse ≤ 9223372036854775807)
    (hK0 : fuse = 0 → K (.bool false) (rblk d room v fuse k down ++ F)) (hK1 : fuse = 1 → K (.bool true) (rblk d room v (fuse - 1) k down ++ F)) (hK2 : fuse ≠ 0 → fuse ≠ 1 → K (.bool false) (rblk d room v (fuse - 1) k down ++ F)) :
    callsK Try.prog e 102 #[pv d] (rblk d room v fuse k down ++ F) K := by
  refine calls_body (N := 20) (args := [pv d]) Try.func102 rfl rfl rfl (by simp) ?_
  repeat' (first | (show wpO _ _ _ _ _ _ _; first | refine wpO_nil ?_ | (show wpO _ _ _ (⟨_, .binOp _ _ _ _ _, _, _, _, _⟩ :: _) _ _ _; first | refine s_tt ?_ | refine s_ff ?_ | refine s_rdp ?_ | (refine s_cmp (fun _ => ?_) (fun _ => ?_) <;> (first | (exfalso; omega) | contradiction | skip)) | (refine s_cb (fun _ => ?_) (fun _ => ?_) <;> (first | (exfalso; omega) | contradiction | skip))) | refine s_rdp ?_ | refine s_rdm ?_ | refine s_exq ?_ | refine s_exm ?_) | (show Ex _ _ _ _ _; first | (show Ex _ ⟨_, .store _ _ _, _, _, _, _⟩ _ _ _; first | refine e_store1 ?_ | refine e_storeA ?_ | (refine e_storeO ?_; intro _ _))) | (show wpC _ _ _ _ _ _; first | refine wpC_seq ?_ | refine wpC_region ?_ | refine c_true ?_ | refine c_false ?_ | (refine c_b (fun _ => ?_) (fun _ => ?_) <;> (first | (exfalso; omega) | contradiction | skip)) | refine wpC_ret ?_ | refine wpC_skip ?_ | refine wpC_label ?_) | (show Then _ _ _ _ _ _ _; first | refine then_normal ?_ | refine then_ret ?_) | (show RetP _ _ _ _ _ _ _ _; first | refine r_1 ?_))
  · exact q_drop (hK0 ‹_›)
  · exact q_drop (hK1 (by omega))
  · exact q_drop (hK2 ‹_› (by omega))
end Go.Vl
