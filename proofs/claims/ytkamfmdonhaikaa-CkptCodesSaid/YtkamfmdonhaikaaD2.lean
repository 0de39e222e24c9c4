/-
  The disk: what is wrong ahead of a change; a crash.
-/
import Derived.Test.YtkamfmdonhaikaaD1
namespace Go.Vl
open Go.Proofs
attribute [local irreducible] wpC wpO wpD Ex Rd callsK RetP Drop valK
abbrev strC (s : ByteArray) : List Value := [.string s]
def okN (s : ByteArray) : Prop := s.size ≠ 0 ∧ s.size ≤ 64
set_option maxHeartbeats 4000000 in
set_option maxRecDepth 100000 in
theorem BytO.len {v : Value} {bs : List UInt8} {B : Hp} (h : BytO v bs B) : bs.length ≤ 9223372036854775807 := by
  rcases h with ⟨_, ⟨_, _, h, _⟩ | ⟨_, _, _, _, _, h1, h2, _⟩⟩
  · omega
  · unfold maxLen at h2; omega

set_option maxHeartbeats 4000000 in
set_option maxRecDepth 100000 in
theorem wrong_spec (e : World) {d m clk : Nat} {es : Array MapEntry} {left keep room : Int} {down : Bool} {ns : List ByteArray} {v : Value} {Fn F : Hp} {K : Value → Hp → Prop} (hin : InSl Fn 1 (ns.map strC) v) (hnl : ns.length ≤ 2)
    (h7 : down = true → K (.int .i64 7) ((dskO d m es clk left keep room down ++ Fn) ++ F)) (h20 : down = false → (∃ s ∈ ns, ¬ okN s) → K (.int .i64 20) ((dskO d m es clk left keep room down ++ Fn) ++ F))
    (h0 : down = false → (∀ s ∈ ns, okN s) → K (.int .i64 0) ((dskO d m es clk left keep room down ++ Fn) ++ F)) :
    callsK Try.prog e 45 #[pv d, v] ((dskO d m es clk left keep room down ++ Fn) ++ F) K := by
  refine calls_body (N := 28) (args := [pv d, v]) Try.func45 rfl rfl rfl (by simp) ?_
  repeat' (first | (show wpO _ _ _ _ _ _ _; first | refine wpO_nil ?_ | (show wpO _ _ _ (⟨_, .binOp _ _ _ _ _, _, _, _, _⟩ :: _) _ _ _; first | refine s_tt ?_ | refine s_ff ?_ | refine s_rdp ?_ | (refine s_cmp (fun _ => ?_) (fun _ => ?_) <;> (first | (exfalso; omega) | contradiction | skip)) | (refine s_cb (fun _ => ?_) (fun _ => ?_) <;> (first | (exfalso; omega) | contradiction | skip)) | refine s_sks ?_ | (refine s_g (fun _ => ?_) (fun _ => ?_) <;> (first | (exfalso; omega) | contradiction | skip))) | (show wpO _ _ _ (⟨_, .indexAddr _ _ _, _, _, _, _⟩ :: _) _ _ _; first | refine s_rdp ?_ | refine s_idx (fun _ _ _ _ _ _ _ => ?_) | refine s_sks ?_ | (refine s_g (fun _ => ?_) (fun _ => ?_) <;> (first | (exfalso; omega) | contradiction | skip))) | (show wpO _ _ _ (⟨_, .pick _ _ _, _, _, _, _⟩ :: _) _ _ _; first | refine s_rdp ?_ | (refine s_p (fun _ => ?_) (fun _ => ?_) <;> (first | (exfalso; omega) | contradiction | skip)) | refine s_sks ?_ | (refine s_g (fun _ => ?_) (fun _ => ?_) <;> (first | (exfalso; omega) | contradiction | skip))) | refine s_rdp ?_ | refine s_rdm ?_ | refine s_exq ?_ | refine s_exm ?_ | refine s_sks ?_ | refine s_skn ?_ | (refine s_g (fun _ => ?_) (fun _ => ?_) <;> (first | (exfalso; omega) | contradiction | skip))) | (show Ex _ _ _ _ _; first | (show Ex _ ⟨_, .call ⟨.value (.func _), _, _⟩, _, _, _, _⟩ _ _ _; refine e_call ?_; first | (apply p_pcs; apply none_f; (try case hS => assumption); (case hpcs => (repeat (first | exact Pcs.blk (by infer_instance) | exact Pcs.nil | (apply Pcs.cons; infer_instance) | apply Pcs.app)))))) | (show wpC _ _ _ _ _ _; first | refine wpC_seq ?_ | refine wpC_region ?_ | refine c_true ?_ | refine c_false ?_ | (refine c_b (fun _ => ?_) (fun _ => ?_) <;> (first | (exfalso; omega) | contradiction | skip)) | refine wpC_block ?_ | refine wpC_ret ?_ | refine wpC_skip ?_ | refine wpC_exit ?_ | refine wpC_label ?_) | (show Then _ _ _ _ _ _ _; first | refine then_normal ?_ | refine then_ret ?_ | refine then_exit ?_) | (show InBlock _ _ _ _ _ _; first | refine inBlock_normal ?_ | refine inBlock_ret ?_ | refine inBlock_same ?_ | refine b_other ?_) | (show LoopPost _ _ _ _ _ _; first | refine loop_ret ?_ | refine loop_exit ?_) | (show RetP _ _ _ _ _ _ _ _; first | refine r_1 ?_) | assumption | intro _)
  · exact q_drop (h7 ‹_›)
  · refine wpC_loopA (κ := Nat) [4, 6, 15, 16, 17, 18, 19, 20, 21, 22, 23, 24, 25, 26, 27] (fun k => [(15, .int .i64 (k : Int))]) (fun _ => (dskO d m es clk left keep room down ++ Fn) ++ F)
      (fun k => k ≤ ns.length ∧ ∀ s ∈ ns.take k, okN s) (fun k => ns.length - k) 0 ⟨Nat.zero_le _, by simp⟩ ⟨rfl, trivial⟩ q_drp ?_
    rintro i ρx ⟨hi, hall⟩
    simp only at hi hall ⊢
    cases hr : ns[i]? with
    | none =>
      have hge : ns.length ≤ i := List.getElem?_eq_none_iff.1 hr
      repeat' (first | (show wpO _ _ _ _ _ _ _; first | refine wpO_nil ?_ | (show wpO _ _ _ (⟨_, .binOp _ _ _ _ _, _, _, _, _⟩ :: _) _ _ _; first | refine s_tt ?_ | refine s_ff ?_ | refine s_rdp ?_ | (refine s_cmp (fun _ => ?_) (fun _ => ?_) <;> (first | (exfalso; omega) | contradiction | skip)) | (refine s_cb (fun _ => ?_) (fun _ => ?_) <;> (first | (exfalso; omega) | contradiction | skip)) | refine s_sks ?_ | (refine s_g (fun _ => ?_) (fun _ => ?_) <;> (first | (exfalso; omega) | contradiction | skip))) | (show wpO _ _ _ (⟨_, .indexAddr _ _ _, _, _, _, _⟩ :: _) _ _ _; first | refine s_rdp ?_ | refine s_idx (fun _ _ _ _ _ _ _ => ?_) | refine s_sks ?_ | (refine s_g (fun _ => ?_) (fun _ => ?_) <;> (first | (exfalso; omega) | contradiction | skip))) | (show wpO _ _ _ (⟨_, .pick _ _ _, _, _, _, _⟩ :: _) _ _ _; first | refine s_rdp ?_ | (refine s_p (fun _ => ?_) (fun _ => ?_) <;> (first | (exfalso; omega) | contradiction | skip)) | refine s_sks ?_ | (refine s_g (fun _ => ?_) (fun _ => ?_) <;> (first | (exfalso; omega) | contradiction | skip))) | refine s_rdp ?_ | refine s_rdm ?_ | refine s_exq ?_ | refine s_exm ?_ | refine s_sks ?_ | refine s_skn ?_ | (refine s_g (fun _ => ?_) (fun _ => ?_) <;> (first | (exfalso; omega) | contradiction | skip))) | (show wpC _ _ _ _ _ _; first | refine wpC_seq ?_ | refine wpC_region ?_ | refine c_true ?_ | refine c_false ?_ | (refine c_b (fun _ => ?_) (fun _ => ?_) <;> (first | (exfalso; omega) | contradiction | skip)) | refine wpC_block ?_ | refine wpC_ret ?_ | refine wpC_skip ?_ | refine wpC_exit ?_ | refine wpC_label ?_) | (show Then _ _ _ _ _ _ _; first | refine then_normal ?_ | refine then_ret ?_ | refine then_exit ?_) | (show InBlock _ _ _ _ _ _; first | refine inBlock_normal ?_ | refine inBlock_ret ?_ | refine inBlock_same ?_ | refine b_other ?_) | (show LoopPost _ _ _ _ _ _; first | refine loop_ret ?_ | refine loop_exit ?_) | (show RetP _ _ _ _ _ _ _ _; first | refine r_1 ?_))
      rw [List.take_of_length_le hge] at hall
      exact q_drop (h0 ‹_› hall)
    | some s =>
      have hlt := (List.getElem?_eq_some_iff.1 hr).1
      have hms := List.mem_of_getElem? hr
      repeat' (first | (show wpO _ _ _ _ _ _ _; first | refine wpO_nil ?_ | (show wpO _ _ _ (⟨_, .binOp _ _ _ _ _, _, _, _, _⟩ :: _) _ _ _; first | refine s_tt ?_ | refine s_ff ?_ | refine s_rdp ?_ | (refine s_cmp (fun _ => ?_) (fun _ => ?_) <;> (first | (exfalso; omega) | contradiction | skip)) | (refine s_cb (fun _ => ?_) (fun _ => ?_) <;> (first | (exfalso; omega) | contradiction | skip)) | refine s_sks ?_ | (refine s_g (fun _ => ?_) (fun _ => ?_) <;> (first | (exfalso; omega) | contradiction | skip))) | (show wpO _ _ _ (⟨_, .indexAddr _ _ _, _, _, _, _⟩ :: _) _ _ _; first | refine s_rdp ?_ | refine s_idx (fun _ _ _ _ _ _ _ => ?_) | refine s_sks ?_ | (refine s_g (fun _ => ?_) (fun _ => ?_) <;> (first | (exfalso; omega) | contradiction | skip))) | (show wpO _ _ _ (⟨_, .pick _ _ _, _, _, _, _⟩ :: _) _ _ _; first | refine s_rdp ?_ | (refine s_p (fun _ => ?_) (fun _ => ?_) <;> (first | (exfalso; omega) | contradiction | skip)) | refine s_sks ?_ | (refine s_g (fun _ => ?_) (fun _ => ?_) <;> (first | (exfalso; omega) | contradiction | skip))) | refine s_rdp ?_ | refine s_rdm ?_ | refine s_exq ?_ | refine s_exm ?_ | refine s_sks ?_ | refine s_skn ?_ | (refine s_g (fun _ => ?_) (fun _ => ?_) <;> (first | (exfalso; omega) | contradiction | skip))) | (show wpC _ _ _ _ _ _; first | refine wpC_seq ?_ | refine wpC_region ?_ | refine c_true ?_ | refine c_false ?_ | (refine c_b (fun _ => ?_) (fun _ => ?_) <;> (first | (exfalso; omega) | contradiction | skip)) | refine wpC_block ?_ | refine wpC_ret ?_ | refine wpC_skip ?_ | refine wpC_exit ?_ | refine wpC_label ?_) | (show Then _ _ _ _ _ _ _; first | refine then_normal ?_ | refine then_ret ?_ | refine then_exit ?_) | (show InBlock _ _ _ _ _ _; first | refine inBlock_normal ?_ | refine inBlock_ret ?_ | refine inBlock_same ?_ | refine b_other ?_) | (show LoopPost _ _ _ _ _ _; first | refine loop_ret ?_ | refine loop_exit ?_) | (show RetP _ _ _ _ _ _ _ _; first | refine r_1 ?_))
      · exact q_drop (h20 ‹_› ⟨s, hms, fun h => h.1 (by omega)⟩)
      · exact q_drop (h20 ‹_› ⟨s, hms, fun h => by have := h.2; omega⟩)
      · refine lp_end (i + 1) (by omega) ⟨hlt, fun x hx => ?_⟩
        rw [List.take_add_one, hr] at hx
        rcases List.mem_append.1 hx with hx | hx
        · exact hall x hx
        · obtain rfl : x = s := by simpa using hx
          exact ⟨by omega, by omega⟩
set_option maxHeartbeats 4000000 in
set_option maxRecDepth 100000 in
theorem inSl_strs (b : Nat) (ns : List ByteArray) (T : TypeId) : InSl [(b, cellsO (ns.map Value.string) T)] 1 (ns.map strC) (.slice (some ⟨b, 0, none⟩) ns.length ns.length) := by
  have hf : (ns.map strC).flatten = ns.map Value.string := by induction ns with
    | nil => rfl
    | cons a l ih => simp [ih]
  refine ⟨_, ns.length, by rw [List.length_map], by rw [List.length_map]; exact Nat.le_refl _, fun r hr => ?_, .inr ⟨b, 0, _, T, (0, 0), rfl, List.mem_singleton.2 rfl, ?_⟩⟩
  · obtain ⟨x, _, rfl⟩ := List.mem_map.1 hr
    exact ⟨rfl, rfl⟩
  · rw [hf]
    refine ⟨by simp, fun j v hj => ?_⟩
    simpa using hj
set_option maxHeartbeats 4000000 in
set_option maxRecDepth 100000 in
theorem wrong1 (e : World) {d m clk b : Nat} {es : Array MapEntry} {left keep room : Int} {down : Bool} {s : ByteArray} {F : Hp} {K : Value → Hp → Prop}
    (h7 : down = true → K (.int .i64 7) ((dskO d m es clk left keep room down ++ [(b, cellsO [.string s] 9)]) ++ F)) (h20 : down = false → ¬ okN s → K (.int .i64 20) ((dskO d m es clk left keep room down ++ [(b, cellsO [.string s] 9)]) ++ F))
    (h0 : down = false → okN s → K (.int .i64 0) ((dskO d m es clk left keep room down ++ [(b, cellsO [.string s] 9)]) ++ F)) :
    callsK Try.prog e 45 #[pv d, .slice (some ⟨b, 0, none⟩) 1 1] ((dskO d m es clk left keep room down ++ [(b, cellsO [.string s] 9)]) ++ F) K :=
  wrong_spec e (inSl_strs b [s] 9) (by simp) h7 (fun h h' => h20 h (by simpa using h')) (fun h h' => h0 h (by simpa using h'))
set_option maxHeartbeats 4000000 in
set_option maxRecDepth 100000 in
theorem there_spec (e : World) {d m clk b : Nat} {es : Array MapEntry} {left keep room : Int} {down : Bool} {s : ByteArray} {ss : List ByteArray} {l : List Fl} {F : Hp} {K : Value → Hp → Prop} (hM : MapF es clk l) (hnl : ss.length ≤ 1)
    (h7 : down = true → K (.int .i64 7) ((dskO d m es clk left keep room down ++ [(b, cellsO ((s :: ss).map Value.string) 9)]) ++ F)) (h20 : down = false → (∃ x ∈ s :: ss, ¬ okN x) → K (.int .i64 20) ((dskO d m es clk left keep room down ++ [(b, cellsO ((s :: ss).map Value.string) 9)]) ++ F))
    (h4 : down = false → (∀ x ∈ s :: ss, okN x) → (∀ f ∈ l, f.nm ≠ s) → K (.int .i64 4) ((dskO d m es clk left keep room down ++ [(b, cellsO ((s :: ss).map Value.string) 9)]) ++ F))
    (h0 : down = false → (∀ x ∈ s :: ss, okN x) → (∃ f ∈ l, f.nm = s) → K (.int .i64 0) ((dskO d m es clk left keep room down ++ [(b, cellsO ((s :: ss).map Value.string) 9)]) ++ F)) :
    callsK Try.prog e 50 #[pv d, .slice (some ⟨b, 0, none⟩) (ss.length + 1) (ss.length + 1)] ((dskO d m es clk left keep room down ++ [(b, cellsO ((s :: ss).map Value.string) 9)]) ++ F) K := by
  have hin := inSl_strs b (s :: ss) 9
  have hidx : (s :: ss)[0]? = some s := rfl
  refine calls_body (N := 21) (args := [pv d, .slice (some ⟨b, 0, none⟩) (ss.length + 1) (ss.length + 1)]) Try.func50 rfl rfl rfl (by simp) ?_
  repeat' (first | (show wpO _ _ _ _ _ _ _; first | refine wpO_nil ?_ | (show wpO _ _ _ (⟨_, .binOp _ _ _ _ _, _, _, _, _⟩ :: _) _ _ _; first | refine s_tt ?_ | refine s_ff ?_ | refine s_rdp ?_ | (refine s_cmp (fun _ => ?_) (fun _ => ?_) <;> (first | (exfalso; omega) | contradiction | skip)) | (refine s_cb (fun _ => ?_) (fun _ => ?_) <;> (first | (exfalso; omega) | contradiction | skip))) | (show wpO _ _ _ (⟨_, .lookup _ _ _ _, _, _, _, _⟩ :: _) _ _ _; first | refine s_rdm ?_ | refine s_look (fun _ _ => ?_) (fun _ => ?_)) | (show wpO _ _ _ (⟨_, .indexAddr _ _ _, _, _, _, _⟩ :: _) _ _ _; first | refine s_rdp ?_ | refine s_idx (fun _ _ _ _ _ _ _ => ?_)) | refine s_rdp ?_ | refine s_rdm ?_ | refine s_exq ?_ | refine s_exm ?_) | (show Ex _ _ _ _ _; first | (show Ex _ ⟨_, .call ⟨.value (.func _), _, _⟩, _, _, _, _⟩ _ _ _; refine e_call ?_; first | (apply p_pcs; apply wrong_spec _ hin (by simp; omega); (try case hS => assumption); (case hpcs => (repeat (first | exact Pcs.blk (by infer_instance) | exact Pcs.nil | (apply Pcs.cons; infer_instance) | apply Pcs.app)))))) | (show wpC _ _ _ _ _ _; first | refine wpC_seq ?_ | refine wpC_region ?_ | refine c_true ?_ | refine c_false ?_ | (refine c_b (fun _ => ?_) (fun _ => ?_) <;> (first | (exfalso; omega) | contradiction | skip)) | refine wpC_ret ?_ | refine wpC_skip ?_ | refine wpC_label ?_ | (apply wpC_drawX (id := 4) ([]) [0, 1, 2, 3, 4, 5, 6, 7, 8] rfl (by kernel_rfl); (case hpk => (repeat (first | exact Pcs.blk (by infer_instance) | exact Pcs.nil | (apply Pcs.cons; infer_instance) | apply Pcs.app))))) | (show Then _ _ _ _ _ _ _; first | refine then_normal ?_ | refine then_ret ?_) | (show wpD _ _ _ _ _ _ _ _; first | refine wpD_nil ?_ | refine d_rdp ?_ | refine d_rdm ?_ | refine d_tt ?_ | refine d_ff ?_ | (refine d_cmp (fun _ => ?_) (fun _ => ?_) <;> (first | (exfalso; omega) | contradiction | skip)) | (refine d_cb (fun _ => ?_) (fun _ => ?_) <;> (first | (exfalso; omega) | contradiction | skip)) | refine d_look (fun _ _ => ?_) (fun _ => ?_) | refine d_idx (fun _ _ _ _ _ _ _ => ?_) | refine d_exs ?_ | refine d_exn ?_) | (show (_ ∨ Subs _ _) ∧ _; first | refine d_sub ?_ | refine d_cov ?_) | (show RetP _ _ _ _ _ _ _ _; first | refine r_1 ?_) | assumption | intro _)
  · exact q_drop (h7 ‹_›)
  · exact q_drop (h20 ‹_› ‹_›)
  · rename_i n hn
    exact q_drop (h0 ‹_› ‹_› (by
      obtain ⟨f, hf, he⟩ := List.mem_map.1 (aget_some_mem hn)
      exact ⟨f, hf, congrArg Prod.fst he⟩))
  · rename_i hn
    exact q_drop (h4 ‹_› ‹_› (fun f hf he => aget_none.1 hn (kp f) (List.mem_map.2 ⟨f, hf, rfl⟩) he))
set_option maxHeartbeats 4000000 in
set_option maxRecDepth 100000 in
theorem get_fl {l : List Fl} (hn : (l.map fun f => f.nm).Nodup) {f : Fl} (hf : f ∈ l) : aget (l.map kp) f.nm = some f.ptr :=
  aget_of_mem (by rw [names_kp]; exact hn) (List.mem_map.2 ⟨f, hf, rfl⟩)
set_option maxHeartbeats 4000000 in
set_option maxRecDepth 100000 in
theorem split_fl {l : List Fl} {s : ByteArray} {n : Nat} (h : aget (l.map kp) s = some n) : ∃ f l1 l2, l = l1 ++ f :: l2 ∧ s = f.nm ∧ n = f.ptr := by
  obtain ⟨f, hf, he⟩ := List.mem_map.1 (aget_some_mem h)
  obtain ⟨l1, l2, rfl⟩ := List.append_of_mem hf
  exact ⟨f, l1, l2, rfl, (congrArg Prod.fst he).symm, (congrArg Prod.snd he).symm⟩
set_option maxHeartbeats 4000000 in
set_option maxRecDepth 100000 in
theorem fl_in {l : List Fl} {f : Fl} (hf : f ∈ l) (hok : f.ok) : InSl (fsH l) 1 (f.bs.map byC) f.v := by
  have h := SlO.inB (rows := f.bs.map byC) (sz := 1) (by rw [List.length_map]; exact hok.s) (fun r hr => by obtain ⟨u, _, rfl⟩ := List.mem_map.1 hr; exact ⟨rfl, rfl⟩)
  obtain ⟨a, c, h1, h2, h3, h4⟩ := h
  refine ⟨a, c, h1, h2, h3, h4.imp id fun ⟨b, o, cs, T, fz, g1, g2, g3⟩ => ⟨b, o, cs, T, fz, g1, (fsH_sub hf).sub _ g2, g3⟩⟩
set_option maxHeartbeats 4000000 in
set_option maxRecDepth 100000 in
theorem tot_le {f : Fl} : ∀ {l : List Fl}, f ∈ l → f.bs.length ≤ tot l
  | g :: l, h => by
    rw [tot_cons]
    rcases List.mem_cons.1 h with rfl | h
    · omega
    · have := tot_le h; omega
set_option maxHeartbeats 4000000 in
set_option maxRecDepth 100000 in
theorem there1 (e : World) {d m clk b : Nat} {es : Array MapEntry} {left keep room : Int} {down : Bool} {s : ByteArray} {l : List Fl} {F : Hp} {K : Value → Hp → Prop} (hM : MapF es clk l) (hok : ∀ f ∈ l, f.ok)
    (h7 : down = true → K (.int .i64 7) ((dskO d m es clk left keep room down ++ [(b, cellsO [.string s] 9)]) ++ F)) (h20 : down = false → ¬ okN s → K (.int .i64 20) ((dskO d m es clk left keep room down ++ [(b, cellsO [.string s] 9)]) ++ F))
    (h4 : down = false → okN s → (∀ f ∈ l, f.nm ≠ s) → K (.int .i64 4) ((dskO d m es clk left keep room down ++ [(b, cellsO [.string s] 9)]) ++ F))
    (h0 : ∀ f l1 l2, down = false → okN s → l = l1 ++ f :: l2 → f.nm = s → aget (l.map kp) s = some f.ptr → Has (fsH l) f.ptr f.obj → InSl (fsH l) 1 (f.bs.map byC) f.v → f.ok → f.bs.length ≤ tot l → f ∈ l → K (.int .i64 0) ((dskO d m es clk left keep room down ++ [(b, cellsO [.string s] 9)]) ++ F)) :
    callsK Try.prog e 50 #[pv d, .slice (some ⟨b, 0, none⟩) 1 1] ((dskO d m es clk left keep room down ++ [(b, cellsO [.string s] 9)]) ++ F) K := by
  refine there_spec (ss := []) e hM (by simp) (fun h => h7 h) (fun h h' => h20 h (by simpa using h')) (fun h h' => h4 h (by simpa using h')) (fun h h' ⟨f, hf, hs⟩ => ?_)
  have hnd : (l.map fun f => f.nm).Nodup := by have := hM.keys; rwa [names_kp] at this
  have hg := get_fl hnd hf
  obtain ⟨l1, l2, hl⟩ := List.append_of_mem hf
  exact h0 f l1 l2 h (by simpa using h') hl hs (by rw [← hs]; exact hg) (fsH_has hf) (fl_in hf (hok f hf)) (hok f hf) (tot_le hf) hf
set_option maxHeartbeats 4000000 in
set_option maxRecDepth 100000 in
theorem there2 (e : World) {d m clk b : Nat} {es : Array MapEntry} {left keep room : Int} {down : Bool} {s r : ByteArray} {l : List Fl} {F : Hp} {K : Value → Hp → Prop} (hM : MapF es clk l) (hok : ∀ f ∈ l, f.ok)
    (h7 : down = true → K (.int .i64 7) ((dskO d m es clk left keep room down ++ [(b, cellsO [.string s, .string r] 9)]) ++ F)) (h20 : down = false → ¬ (okN s ∧ okN r) → K (.int .i64 20) ((dskO d m es clk left keep room down ++ [(b, cellsO [.string s, .string r] 9)]) ++ F))
    (h4 : down = false → okN s → okN r → (∀ f ∈ l, f.nm ≠ s) → K (.int .i64 4) ((dskO d m es clk left keep room down ++ [(b, cellsO [.string s, .string r] 9)]) ++ F))
    (h0 : ∀ f l1 l2, down = false → okN s → okN r → l = l1 ++ f :: l2 → f.nm = s → aget (l.map kp) s = some f.ptr → Has (fsH l) f.ptr f.obj → InSl (fsH l) 1 (f.bs.map byC) f.v → f.ok → f.bs.length ≤ tot l → f ∈ l → K (.int .i64 0) ((dskO d m es clk left keep room down ++ [(b, cellsO [.string s, .string r] 9)]) ++ F)) :
    callsK Try.prog e 50 #[pv d, .slice (some ⟨b, 0, none⟩) 2 2] ((dskO d m es clk left keep room down ++ [(b, cellsO [.string s, .string r] 9)]) ++ F) K := by
  have hand : (∀ x ∈ [s, r], okN x) ↔ okN s ∧ okN r := by simp
  refine there_spec (ss := [r]) e hM (by simp) (fun h => h7 h) (fun h h' => h20 h (fun h2 => by obtain ⟨x, hx, hn⟩ := h'; exact hn (hand.2 h2 x hx))) (fun h h' => h4 h (hand.1 h').1 (hand.1 h').2) (fun h h' ⟨f, hf, hs⟩ => ?_)
  have hnd : (l.map fun f => f.nm).Nodup := by have := hM.keys; rwa [names_kp] at this
  have hg := get_fl hnd hf
  obtain ⟨l1, l2, hl⟩ := List.append_of_mem hf
  exact h0 f l1 l2 h (hand.1 h').1 (hand.1 h').2 hl hs (by rw [← hs]; exact hg) (fsH_has hf) (fl_in hf (hok f hf)) (hok f hf) (tot_le hf) hf

set_option maxHeartbeats 4000000 in
set_option maxRecDepth 100000 in
theorem clip_spec (e : World) {v : Value} {m : Nat} {xs : List Value} {B H : Hp} {K : Value → Hp → Prop} (hS : SlO 5 1 v m xs B) (hK : ∀ v', SlO 5 1 v' m xs B → K v' H) : callsK Try.prog e 97 #[v] H K := by
  refine calls_body (N := 9) (args := [v]) Try.func97 rfl rfl rfl (by simp) ?_
  repeat' (first | (show wpO _ _ _ _ _ _ _; first | refine wpO_nil ?_ | (show wpO _ _ _ (⟨_, .slice _ _ _ _ _, _, _, _, _⟩ :: _) _ _ _; first | refine s_rdp ?_ | refine s_sliceHiT (fun _ _ => ?_) | refine s_clipO (fun _ _ => ?_) | refine s_sliceHi (fun _ _ => ?_) | refine s_sliceLo (fun _ _ => ?_)) | refine s_rdp ?_ | refine s_rdm ?_ | refine s_exq ?_ | refine s_exm ?_) | (show wpC _ _ _ _ _ _; first | refine wpC_seq ?_ | refine wpC_region ?_ | refine wpC_ret ?_ | refine wpC_skip ?_ | refine wpC_label ?_) | (show Then _ _ _ _ _ _ _; first | refine then_normal ?_ | refine then_ret ?_) | (show RetP _ _ _ _ _ _ _ _; first | refine r_1 ?_))
  rename_i v' hv'
  exact q_drop (hK v' hv')

/-- what a file says of itself -/
abbrev Fl.ab (f : Fl) : ByteArray × List UInt8 × Nat := (f.nm, f.bs, f.syn)
def fell (keep : Nat) (a : ByteArray × List UInt8 × Nat) : ByteArray × List UInt8 × Nat := (a.1, a.2.1.take (a.2.2 + min keep (a.2.1.length - a.2.2)), a.2.2 + min keep (a.2.1.length - a.2.2))
open Classical in
noncomputable def half (left : List ByteArray) (keep : Nat) (a : ByteArray × List UInt8 × Nat) : ByteArray × List UInt8 × Nat := if a.1 ∈ left then a else fell keep a
set_option maxHeartbeats 4000000 in
set_option maxRecDepth 100000 in
theorem half_del {keep : Nat} {lf : List (ByteArray × Nat)} {k : ByteArray} (hk : k ∈ lf.map Prod.fst) (a : ByteArray × List UInt8 × Nat) : half ((adel lf k).map Prod.fst) keep a = (if a.1 = k then fell keep (half (lf.map Prod.fst) keep a) else half (lf.map Prod.fst) keep a) := by
  have hmem : a.1 ∈ (adel lf k).map Prod.fst ↔ a.1 ∈ lf.map Prod.fst ∧ a.1 ≠ k := by
    unfold adel
    simp only [List.mem_map, List.mem_filter, decide_eq_true_eq]
    constructor
    · rintro ⟨p, ⟨h1, h2⟩, h3⟩
      exact ⟨⟨p, h1, h3⟩, by rw [← h3]; exact h2⟩
    · rintro ⟨⟨p, h1, h3⟩, h2⟩
      exact ⟨p, ⟨h1, by rw [h3]; exact h2⟩, h3⟩
  unfold half
  by_cases h : a.1 = k
  · rw [if_neg (fun h' => (hmem.1 h').2 h), if_pos h, if_pos (by rw [h]; exact hk)]
  · rw [if_neg h]
    by_cases h2 : a.1 ∈ lf.map Prod.fst
    · rw [if_pos (hmem.2 ⟨h2, h⟩), if_pos h2]
    · rw [if_neg (fun h' => h2 (hmem.1 h').1), if_neg h2]
set_option maxHeartbeats 4000000 in
set_option maxRecDepth 100000 in
theorem half_fst (left : List ByteArray) (keep : Nat) (a : ByteArray × List UInt8 × Nat) : (half left keep a).1 = a.1 := by
  unfold half; split <;> rfl
set_option maxHeartbeats 4000000 in
set_option maxRecDepth 100000 in
theorem ab_step {keep : Nat} {l1 l2 l : List Fl} {f f' : Fl} {lf : List (ByteArray × Nat)} (hk : f.nm ∈ lf.map Prod.fst) (hn : ((l1 ++ f :: l2).map fun x => x.nm).Nodup) (hf : f'.ab = fell keep f.ab)
    (h : (l1 ++ f :: l2).map Fl.ab = l.map (fun f => half (lf.map Prod.fst) keep f.ab)) : (l1 ++ f' :: l2).map Fl.ab = l.map (fun f' => half ((adel lf f.nm).map Prod.fst) keep f'.ab) := by
  have h2 : (l1 ++ f' :: l2).map Fl.ab = ((l1 ++ f :: l2).map Fl.ab).map fun a => if a.1 = f.nm then fell keep a else a := by
    rw [List.map_append, List.map_append, List.map_append, List.map_cons, List.map_cons, List.map_cons]
    rw [List.map_append, List.map_cons, List.nodup_append, List.nodup_cons] at hn
    obtain ⟨_, ⟨hn2, _⟩, hn3⟩ := hn
    have e1 : l1.map Fl.ab = (l1.map Fl.ab).map fun a => if a.1 = f.nm then fell keep a else a := by
      rw [List.map_map]
      refine List.map_congr_left fun x hx => ?_
      exact (if_neg (hn3 x.nm (List.mem_map.2 ⟨x, hx, rfl⟩) f.nm (by simp))).symm
    have e2 : l2.map Fl.ab = (l2.map Fl.ab).map fun a => if a.1 = f.nm then fell keep a else a := by
      rw [List.map_map]
      refine List.map_congr_left fun x hx => ?_
      exact (if_neg (fun he => hn2 (List.mem_map.2 ⟨x, hx, he⟩))).symm
    have e3 : f'.ab = (if f.ab.1 = f.nm then fell keep f.ab else f.ab) := by rw [if_pos rfl]; exact hf
    rw [← e1, ← e2, ← e3]
  rw [h2, h, List.map_map]
  refine List.map_congr_left fun x _ => ?_
  rw [half_del hk]
  show (if (half _ keep x.ab).1 = f.nm then _ else _) = _
  rw [half_fst]
structure FaS where
  cur : List Fl
  last : Option (ByteArray × Nat)
  left : List (ByteArray × Nat)
  o : Obj
set_option maxHeartbeats 4000000 in
set_option maxRecDepth 100000 in
theorem falls_spec (e : World) {d m clk : Nat} {es : Array MapEntry} {left room : Int} {k keep : Nat} {down : Bool} {l : List Fl} {F : Hp} {K : Value → Hp → Prop} (hM : MapF es clk l) (hok : ∀ f ∈ l, f.ok)
    (hK : ∀ l', MapF es clk l' → (∀ f ∈ l', f.ok) → l'.map Fl.ab = l.map (fun f => fell keep f.ab) → K (.tuple #[]) ((dskO d m es clk 0 0 room true ++ fsH l') ++ F)) :
    callsK Try.prog e 59 #[pv d, .int .i64 (keep : Int)] ((dskO d m es clk left k room down ++ fsH l) ++ F) K := by
  refine calls_body (N := 54) (args := [pv d, .int .i64 (keep : Int)]) Try.func59 rfl rfl rfl (by simp) ?_
  repeat' (first | (show wpO _ _ _ _ _ _ _; first | refine wpO_nil ?_ | (show wpO _ _ _ (⟨_, .binOp _ _ _ _ _, _, _, _, _⟩ :: _) _ _ _; first | refine s_tt ?_ | refine s_ff ?_ | refine s_rdp ?_ | (refine s_cmp (fun _ => ?_) (fun _ => ?_) <;> (first | (exfalso; omega) | contradiction | skip)) | (refine s_cb (fun _ => ?_) (fun _ => ?_) <;> (first | (exfalso; omega) | contradiction | skip))) | (show wpO _ _ _ (⟨_, .slice _ _ _ _ _, _, _, _, _⟩ :: _) _ _ _; first | refine s_rdp ?_ | refine s_sliceHiT (fun _ _ => ?_) | refine s_clipO (fun _ _ => ?_) | refine s_sliceHi (fun _ _ => ?_) | refine s_sliceLo (fun _ _ => ?_)) | refine s_rdp ?_ | refine s_rdm ?_ | refine s_exq ?_ | refine s_exm ?_) | (show Ex _ _ _ _ _; first | (show Ex _ ⟨_, .store _ _ _, _, _, _, _⟩ _ _ _; first | refine e_store1 ?_ | refine e_storeA ?_ | (refine e_storeO ?_; intro _ _)) | (show Ex _ ⟨_, .range _ _, _, _, _, _⟩ _ _ _; refine e_range ?_; intro _ _ _) | (show Ex _ ⟨_, .next _ _, _, _, _, _⟩ _ _ _; refine e_next (fun _ => ?_) (fun _ _ _ _ => ?_))) | (show wpC _ _ _ _ _ _; first | refine wpC_seq ?_ | refine wpC_region ?_ | refine c_true ?_ | refine c_false ?_ | (refine c_b (fun _ => ?_) (fun _ => ?_) <;> (first | (exfalso; omega) | contradiction | skip)) | refine wpC_block ?_ | refine wpC_ret ?_ | refine wpC_skip ?_ | refine wpC_exit ?_ | refine wpC_label ?_ | (apply wpC_drawX (id := 3) ([]) [0, 1, 2, 3, 4, 5, 6, 7, 8, 9, 10, 11, 12, 13, 14, 15, 16, 17] rfl (by kernel_rfl); (case hpk => (repeat (first | exact Pcs.blk (by infer_instance) | exact Pcs.nil | (apply Pcs.cons; infer_instance) | apply Pcs.app))))) | (show Then _ _ _ _ _ _ _; first | refine then_normal ?_ | refine then_ret ?_ | refine then_exit ?_) | (show InBlock _ _ _ _ _ _; first | refine inBlock_normal ?_ | refine inBlock_ret ?_ | refine inBlock_same ?_ | refine b_other ?_) | (show LoopPost _ _ _ _ _ _; first | refine loop_ret ?_ | refine loop_exit ?_) | (show wpD _ _ _ _ _ _ _ _; first | refine wpD_nil ?_ | refine d_rdp ?_ | refine d_rdm ?_ | refine d_tt ?_ | refine d_ff ?_ | (refine d_cmp (fun _ => ?_) (fun _ => ?_) <;> (first | (exfalso; omega) | contradiction | skip)) | (refine d_cb (fun _ => ?_) (fun _ => ?_) <;> (first | (exfalso; omega) | contradiction | skip)) | refine d_sliceHiT (fun _ _ => ?_) | refine d_clipO (fun _ _ => ?_) | refine d_sliceHi (fun _ _ => ?_) | refine d_sliceLo (fun _ _ => ?_) | refine d_exs ?_ | refine d_exn ?_) | (show (_ ∨ Subs _ _) ∧ _; first | refine d_sub ?_ | refine d_cov ?_) | (show RetP _ _ _ _ _ _ _ _; first | refine r_0 ?_))
  rename_i bi oi hI0
  have hnd : (l.map fun f => f.nm).Nodup := by have := hM.keys; rwa [names_kp] at this
  refine wpC_loopA (κ := FaS) [5, 6, 12, 13, 14, 15, 16, 17, 18, 19, 20, 21, 22, 23, 24, 25, 26, 27, 28, 29, 30, 31, 32, 33, 34, 35, 36, 37, 38, 39, 40, 41, 42, 43, 44, 45, 46] (fun k => []) (fun s => [(bi, s.o)] ++ ((dskO d m es clk left k room down ++ fsH s.cur) ++ F))
    (fun s => IterK Value.string pv m es clk s.last s.left s.o ∧ (s.left.map Prod.fst).Nodup ∧ (∀ p ∈ s.left, p ∈ s.cur.map kp) ∧ s.cur.map kp = l.map kp ∧ (∀ f ∈ s.cur, f.ok) ∧ s.cur.map Fl.ab = l.map (fun f => half (s.left.map Prod.fst) keep f.ab)) (fun s => s.left.length) ⟨l, none, l.map kp, oi⟩
    ⟨hI0, hM.keys, fun p h => h, rfl, hok, List.map_congr_left fun f hf => (if_pos (by rw [names_kp]; exact List.mem_map.2 ⟨f, hf, rfl⟩)).symm⟩ trivial q_drp ?_
  rintro ⟨cur, la, lf, oi⟩ ρx ⟨hI, hn, hs, hk, ho, hab⟩
  simp only at hI hn hs hk ho hab ⊢
  repeat' (first | (show wpO _ _ _ _ _ _ _; first | refine wpO_nil ?_ | (show wpO _ _ _ (⟨_, .binOp _ _ _ _ _, _, _, _, _⟩ :: _) _ _ _; first | refine s_tt ?_ | refine s_ff ?_ | refine s_rdp ?_ | (refine s_cmp (fun _ => ?_) (fun _ => ?_) <;> (first | (exfalso; omega) | contradiction | skip)) | (refine s_cb (fun _ => ?_) (fun _ => ?_) <;> (first | (exfalso; omega) | contradiction | skip))) | (show wpO _ _ _ (⟨_, .slice _ _ _ _ _, _, _, _, _⟩ :: _) _ _ _; first | refine s_rdp ?_ | refine s_sliceHiT (fun _ _ => ?_) | refine s_clipO (fun _ _ => ?_) | refine s_sliceHi (fun _ _ => ?_) | refine s_sliceLo (fun _ _ => ?_)) | refine s_rdp ?_ | refine s_rdm ?_ | refine s_exq ?_ | refine s_exm ?_) | (show Ex _ _ _ _ _; first | (refine e_next (fun h0 => ?_) (fun p hp o' hI' => ?_); rotate_left; obtain ⟨f, hf, rfl⟩ := List.mem_map.1 (hs p hp); have hff := ho f hf; have hfs := hff.s; have hfy := hff.y; have hfl := hfs.len; obtain ⟨l1, l2, rfl⟩ := List.append_of_mem hf; rw [fsH_app, fsH_cons]) | (show Ex _ ⟨_, .call ⟨.value (.func _), _, _⟩, _, _, _, _⟩ _ _ _; refine e_call ?_; first | (apply clip_spec)) | (show Ex _ ⟨_, .store _ _ _, _, _, _, _⟩ _ _ _; first | refine e_store1 ?_ | refine e_storeA ?_ | (refine e_storeO ?_; intro _ _)) | (show Ex _ ⟨_, .range _ _, _, _, _, _⟩ _ _ _; refine e_range ?_; intro _ _ _) | (show Ex _ ⟨_, .next _ _, _, _, _, _⟩ _ _ _; refine e_next (fun _ => ?_) (fun _ _ _ _ => ?_))) | (show wpC _ _ _ _ _ _; first | refine wpC_seq ?_ | refine wpC_region ?_ | refine c_true ?_ | refine c_false ?_ | (refine c_b (fun _ => ?_) (fun _ => ?_) <;> (first | (exfalso; omega) | contradiction | skip)) | refine wpC_block ?_ | refine wpC_ret ?_ | refine wpC_skip ?_ | refine wpC_exit ?_ | refine wpC_label ?_ | (apply wpC_drawX (id := 3) ([]) [0, 1, 2, 3, 4, 5, 6, 7, 8, 9, 10, 11, 12, 13, 14, 15, 16, 17] rfl (by kernel_rfl); (case hpk => (repeat (first | exact Pcs.blk (by infer_instance) | exact Pcs.nil | (apply Pcs.cons; infer_instance) | apply Pcs.app))))) | (show Then _ _ _ _ _ _ _; first | refine then_normal ?_ | refine then_ret ?_ | refine then_exit ?_) | (show InBlock _ _ _ _ _ _; first | refine inBlock_normal ?_ | refine inBlock_ret ?_ | refine inBlock_same ?_ | refine b_other ?_) | (show LoopPost _ _ _ _ _ _; first | refine loop_ret ?_ | refine loop_exit ?_) | (show wpD _ _ _ _ _ _ _ _; first | refine wpD_nil ?_ | refine d_rdp ?_ | refine d_rdm ?_ | refine d_tt ?_ | refine d_ff ?_ | (refine d_cmp (fun _ => ?_) (fun _ => ?_) <;> (first | (exfalso; omega) | contradiction | skip)) | (refine d_cb (fun _ => ?_) (fun _ => ?_) <;> (first | (exfalso; omega) | contradiction | skip)) | refine d_sliceHiT (fun _ _ => ?_) | refine d_clipO (fun _ _ => ?_) | refine d_sliceHi (fun _ _ => ?_) | refine d_sliceLo (fun _ _ => ?_) | refine d_exs ?_ | refine d_exn ?_) | (show (_ ∨ Subs _ _) ∧ _; first | refine d_sub ?_ | refine d_cov ?_) | (show RetP _ _ _ _ _ _ _ _; first | refine r_0 ?_) | assumption | intro _)
  · rename_i v1 hv1 v' hv'
    have hnc : ((l1 ++ f :: l2).map fun x => x.nm).Nodup := by rw [← names_kp, hk, names_kp]; exact hnd
    have hlen := (perm_take hn hp).length_eq
    have hmk : (l1 ++ (⟨f.nm, f.ptr, v', f.bs.take (f.syn + min keep (f.bs.length - f.syn)), f.syn + min keep (f.bs.length - f.syn), f.B⟩ : Fl) :: l2).map kp = (l1 ++ f :: l2).map kp := by simp
    refine lp_end ⟨l1 ++ (⟨f.nm, f.ptr, v', f.bs.take (f.syn + min keep (f.bs.length - f.syn)), f.syn + min keep (f.bs.length - f.syn), f.B⟩ : Fl) :: l2, some (kp f), adel lf f.nm, o'⟩ (by simp only [List.length_cons] at hlen ⊢; omega)
      ⟨hI', hn.sublist (List.filter_sublist.map _), fun p hpm => ?_, hmk.trans hk, fun x hx => ?_, ab_step (List.mem_map.2 ⟨_, hp, rfl⟩) hnc rfl hab⟩ (h6 := by simp only [fsH_app, fsH_cons]; exact q_drp)
    · simp only
      rw [hmk]
      exact hs p (List.mem_filter.1 hpm).1
    · rcases List.mem_append.1 hx with hx | hx
      · exact ho x (List.mem_append_left _ hx)
      · rcases List.mem_cons.1 hx with rfl | hx
        · exact ⟨hv', by simp only [List.length_take]; omega⟩
        · exact ho x (List.mem_append_right _ (List.mem_cons_of_mem _ hx))
  · rename_i h0
    subst h0
    have hMc : MapF es clk cur := by unfold MapF; rw [hk]; exact hM
    refine q_drop (hK cur hMc ho (by rw [hab]; exact List.map_congr_left fun x _ => if_neg (by simp)))
end Go.Vl
