/-
  The disk: its changes.
-/
import Derived.Test.YtkamfmdonhaikaaD2
namespace Go.Vl
open Go.Proofs
attribute [local irreducible] wpC wpO wpD Ex Rd callsK RetP Drop valK
set_option maxHeartbeats 4000000 in
set_option maxRecDepth 100000 in
theorem new_spec (e : World) {room : Int} {F : Hp} {K : Value → Hp → Prop} (h1 : room < 0 → K (.tuple #[.pointer none, .int .i64 1]) F) (h0 : 0 ≤ room → ∀ d m, K (.tuple #[pv d, .int .i64 0]) (dskO d m #[] 0 0 0 room false ++ F)) :
    callsK Try.prog e 13 #[.int .i64 room] F K := by
  refine calls_body (N := 10) (args := [.int .i64 room]) Try.func13 rfl rfl rfl (by simp) ?_
  repeat' (first | (show wpO _ _ _ _ _ _ _; first | refine wpO_nil ?_ | (show wpO _ _ _ (⟨_, .binOp _ _ _ _ _, _, _, _, _⟩ :: _) _ _ _; first | refine s_tt ?_ | refine s_ff ?_ | refine s_rdp ?_ | (refine s_cmp (fun _ => ?_) (fun _ => ?_) <;> (first | (exfalso; omega) | contradiction | skip)) | (refine s_cb (fun _ => ?_) (fun _ => ?_) <;> (first | (exfalso; omega) | contradiction | skip))) | refine s_rdp ?_ | refine s_rdm ?_ | refine s_exq ?_ | refine s_exm ?_) | (show Ex _ _ _ _ _; first | (show Ex _ ⟨_, .box _ _, _, _, _, _⟩ _ _ _; first | (refine e_boxA ?_; intro _) | (refine e_box1 ?_; intro _)) | (refine ex_makeMap ?_; intro _)) | (show wpC _ _ _ _ _ _; first | refine wpC_seq ?_ | refine wpC_region ?_ | refine c_true ?_ | refine c_false ?_ | (refine c_b (fun _ => ?_) (fun _ => ?_) <;> (first | (exfalso; omega) | contradiction | skip)) | refine wpC_ret ?_ | refine wpC_skip ?_ | refine wpC_label ?_) | (show Then _ _ _ _ _ _ _; first | refine then_normal ?_ | refine then_ret ?_) | (show RetP _ _ _ _ _ _ _ _; first | refine r_2 ?_))
  · exact q_drop (h1 ‹_›)
  · exact q_drop (h0 (by omega) _ _)
set_option maxHeartbeats 4000000 in
set_option maxRecDepth 100000 in
theorem clone_spec (e : World) {v : Value} {bs : List UInt8} {Bs F : Hp} {K : Value → Hp → Prop} (hS : InSl Bs 1 (bs.map byC) v) (hb : bs.length ≤ 140737488355328) (hK : ∀ v' B', BytO v' bs B' → K v' (B' ++ (Bs ++ F))) :
    callsK Try.prog e 49 #[v] (Bs ++ F) K := by
  have hin := hS
  obtain ⟨a, c, rfl, _⟩ := hS
  cases a with
  | none =>
    refine calls_body (N := 8) (args := [.slice none (bs.map byC).length c]) Try.func49 rfl rfl rfl (by simp) ?_
    repeat' (first | (show wpO _ _ _ _ _ _ _; first | refine wpO_nil ?_ | (show wpO _ _ _ (⟨_, .binOp _ _ _ _ _, _, _, _, _⟩ :: _) _ _ _; first | refine s_tt ?_ | refine s_ff ?_ | refine s_rdp ?_ | (refine s_cmp (fun _ => ?_) (fun _ => ?_) <;> (first | (exfalso; omega) | contradiction | skip)) | (refine s_cb (fun _ => ?_) (fun _ => ?_) <;> (first | (exfalso; omega) | contradiction | skip))) | refine s_rdp ?_ | refine s_rdm ?_ | refine s_exq ?_ | refine s_exm ?_) | (show Ex _ _ _ _ _; first | (show Ex _ ⟨_, .buildSlice _ _ _, _, _, _, _⟩ _ _ _; first | (refine e_buildSlice ?_; intro _) | (refine e_buildNil ?_; intro _ _ _)) | (show Ex _ ⟨_, .call ⟨.builtin .append, _, _⟩, _, _, _, _⟩ _ _ _; (first | refine e_append ?_ | refine e_appendIn ?_); intro _ _ _)) | (show wpC _ _ _ _ _ _; first | refine wpC_seq ?_ | refine wpC_region ?_ | refine c_true ?_ | refine c_false ?_ | (refine c_b (fun _ => ?_) (fun _ => ?_) <;> (first | (exfalso; omega) | contradiction | skip)) | refine wpC_ret ?_ | refine wpC_skip ?_ | refine wpC_label ?_) | (show Then _ _ _ _ _ _ _; first | refine then_normal ?_ | refine then_ret ?_) | (show RetP _ _ _ _ _ _ _ _; first | refine r_1 ?_))
    have hb0 : bs = [] := by
      rcases hin with ⟨_, _, hv, _, _, h | ⟨_, _, _, _, _, ha, _⟩⟩
      · simpa using h
      · subst ha; simp at hv
    subst hb0
    exact q_drop (hK _ _ (SlO.nil 5 1))
  | some a =>
    refine calls_body (N := 8) (args := [.slice (some a) (bs.map byC).length c]) Try.func49 rfl rfl rfl (by simp) ?_
    repeat' (first | (show wpO _ _ _ _ _ _ _; first | refine wpO_nil ?_ | (show wpO _ _ _ (⟨_, .binOp _ _ _ _ _, _, _, _, _⟩ :: _) _ _ _; first | refine s_tt ?_ | refine s_ff ?_ | refine s_rdp ?_ | (refine s_cmp (fun _ => ?_) (fun _ => ?_) <;> (first | (exfalso; omega) | contradiction | skip)) | (refine s_cb (fun _ => ?_) (fun _ => ?_) <;> (first | (exfalso; omega) | contradiction | skip))) | refine s_rdp ?_ | refine s_rdm ?_ | refine s_exq ?_ | refine s_exm ?_) | (show Ex _ _ _ _ _; first | (show Ex _ ⟨_, .buildSlice _ _ _, _, _, _, _⟩ _ _ _; first | (refine e_buildSlice ?_; intro _) | (refine e_buildNil ?_; intro _ _ _)) | (show Ex _ ⟨_, .call ⟨.builtin .append, _, _⟩, _, _, _, _⟩ _ _ _; (first | refine e_append ?_ | refine e_appendIn ?_); intro _ _ _)) | (show wpC _ _ _ _ _ _; first | refine wpC_seq ?_ | refine wpC_region ?_ | refine c_true ?_ | refine c_false ?_ | (refine c_b (fun _ => ?_) (fun _ => ?_) <;> (first | (exfalso; omega) | contradiction | skip)) | refine wpC_ret ?_ | refine wpC_skip ?_ | refine wpC_label ?_) | (show Then _ _ _ _ _ _ _; first | refine then_normal ?_ | refine then_ret ?_) | (show RetP _ _ _ _ _ _ _ _; first | refine r_1 ?_))
    rename_i v0 B0 h0 v1 B1 h1
    exact q_drop (hK v1 B1 (by simpa using h1))
set_option maxHeartbeats 4000000 in
set_option maxRecDepth 100000 in
theorem changes_spec (e : World) {d m clk : Nat} {es : Array MapEntry} {left room : Int} {k : Nat} {down : Bool} {l : List Fl} {F : Hp} {K : Value → Hp → Prop} (hM : MapF es clk l) (hok : ∀ f ∈ l, f.ok) (hl0 : 0 ≤ left) (hl1 : left ≤ 9223372036854775807)
    (hK0 : left = 0 → K (.int .i64 0) ((dskO d m es clk left k room down ++ fsH l) ++ F)) (hK2 : left ≠ 0 → left ≠ 1 → K (.int .i64 0) ((dskO d m es clk (left - 1) k room down ++ fsH l) ++ F))
    (hK1 : left = 1 → ∀ l', MapF es clk l' → (∀ f ∈ l', f.ok) → l'.map Fl.ab = l.map (fun f => fell k f.ab) → K (.int .i64 7) ((dskO d m es clk 0 0 room true ++ fsH l') ++ F)) :
    callsK Try.prog e 47 #[pv d] ((dskO d m es clk left k room down ++ fsH l) ++ F) K := by
  refine calls_body (N := 16) (args := [pv d]) Try.func47 rfl rfl rfl (by simp) ?_
  repeat' (first | (show wpO _ _ _ _ _ _ _; first | refine wpO_nil ?_ | refine s_rdp ?_ | refine s_rdm ?_ | refine s_exq ?_ | refine s_exm ?_) | (show Ex _ _ _ _ _; first | (show Ex _ ⟨_, .call ⟨.value (.func _), _, _⟩, _, _, _, _⟩ _ _ _; refine e_call ?_; first | (apply p_pcs; apply burns_spec _ hl0 hl1; (try case hS => assumption); (case hpcs => (repeat (first | exact Pcs.blk (by infer_instance) | exact Pcs.nil | (apply Pcs.cons; infer_instance) | apply Pcs.app)))) | (apply p_pcs; apply falls_spec _ hM hok; (try case hS => assumption); (case hpcs => (repeat (first | exact Pcs.blk (by infer_instance) | exact Pcs.nil | (apply Pcs.cons; infer_instance) | apply Pcs.app)))))) | (show wpC _ _ _ _ _ _; first | refine wpC_seq ?_ | refine wpC_region ?_ | refine c_true ?_ | refine c_false ?_ | (refine c_b (fun _ => ?_) (fun _ => ?_) <;> (first | (exfalso; omega) | contradiction | skip)) | refine wpC_ret ?_ | refine wpC_skip ?_ | refine wpC_label ?_) | (show Then _ _ _ _ _ _ _; first | refine then_normal ?_ | refine then_ret ?_) | (show RetP _ _ _ _ _ _ _ _; first | refine r_1 ?_) | assumption | intro _)
  · exact q_drop (hK0 ‹_›)
  · exact q_drop (hK1 ‹_› _ ‹_› ‹_› ‹_›)
  · exact q_drop (hK2 ‹_› ‹_›)
set_option maxHeartbeats 4000000 in
set_option maxRecDepth 100000 in
theorem changes_foc (e : World) {d m clk : Nat} {es : Array MapEntry} {left room : Int} {k : Nat} {down : Bool} {l l1 l2 : List Fl} {f : Fl} {F : Hp} {K : Value → Hp → Prop} (hM : MapF es clk l) (hok : ∀ f ∈ l, f.ok) (hl0 : 0 ≤ left) (hl1 : left ≤ 9223372036854775807) (hl : l = l1 ++ f :: l2)
    (hK0 : left = 0 → K (.int .i64 0) ((dskO d m es clk left k room down ++ (fsH l1 ++ (f.hp ++ fsH l2))) ++ F)) (hK2 : left ≠ 0 → left ≠ 1 → K (.int .i64 0) ((dskO d m es clk (left - 1) k room down ++ (fsH l1 ++ (f.hp ++ fsH l2))) ++ F))
    (hK1 : left = 1 → ∀ l', MapF es clk l' → (∀ f ∈ l', f.ok) → l'.map Fl.ab = l.map (fun f => fell k f.ab) → K (.int .i64 7) ((dskO d m es clk 0 0 room true ++ fsH l') ++ F)) :
    callsK Try.prog e 47 #[pv d] ((dskO d m es clk left k room down ++ fsH l) ++ F) K := by
  have hf : fsH l = fsH l1 ++ (f.hp ++ fsH l2) := by rw [hl, fsH_app, fsH_cons]
  exact changes_spec e hM hok hl0 hl1 (by rw [hf]; exact hK0) (by rw [hf]; exact hK2) hK1
set_option maxHeartbeats 4000000 in
set_option maxRecDepth 100000 in
theorem read_spec (e : World) {s : ByteArray} {d m clk : Nat} {es : Array MapEntry} {left room : Int} {k : Nat} {down : Bool} {l : List Fl} {F : Hp} {K : Value → Hp → Prop} (hM : MapF es clk l) (hok : ∀ f ∈ l, f.ok) (hb : tot l ≤ 140737488355328)
    (h7 : down = true → K (.tuple #[.slice none 0 0, .int .i64 7]) ((dskO d m es clk left k room down ++ fsH l) ++ F)) (h20 : down = false → ¬ okN s → K (.tuple #[.slice none 0 0, .int .i64 20]) ((dskO d m es clk left k room down ++ fsH l) ++ F)) (h4 : down = false → okN s → (∀ f ∈ l, f.nm ≠ s) → K (.tuple #[.slice none 0 0, .int .i64 4]) ((dskO d m es clk left k room down ++ fsH l) ++ F))
    (h0 : ∀ f v' B', down = false → okN s → f ∈ l → f.nm = s → BytO v' f.bs B' → K (.tuple #[v', .int .i64 0]) (B' ++ ((dskO d m es clk left k room down ++ fsH l) ++ F))) :
    callsK Try.prog e 17 #[pv d, .string s] ((dskO d m es clk left k room down ++ fsH l) ++ F) K := by
  refine calls_body (N := 24) (args := [pv d, .string s]) Try.func17 rfl rfl rfl (by simp) ?_
  repeat' (first | (show wpO _ _ _ _ _ _ _; first | refine wpO_nil ?_ | (show wpO _ _ _ (⟨_, .binOp _ _ _ _ _, _, _, _, _⟩ :: _) _ _ _; first | refine s_tt ?_ | refine s_ff ?_ | refine s_rdp ?_ | (refine s_cmp (fun _ => ?_) (fun _ => ?_) <;> (first | (exfalso; omega) | contradiction | skip)) | (refine s_cb (fun _ => ?_) (fun _ => ?_) <;> (first | (exfalso; omega) | contradiction | skip))) | (show wpO _ _ _ (⟨_, .lookup _ _ _ _, _, _, _, _⟩ :: _) _ _ _; first | refine s_rdm ?_ | refine s_look (fun _ _ => ?_) (fun _ => ?_)) | refine s_rdp ?_ | refine s_rdm ?_ | refine s_exq ?_ | refine s_exm ?_) | (show Ex _ _ _ _ _; first | (show Ex _ ⟨_, .call ⟨.value (.func _), _, _⟩, _, _, _, _⟩ _ _ _; refine e_call ?_; first | (apply p_pcs; apply there1 _ hM hok; (try case hS => assumption); (case hpcs => (repeat (first | exact Pcs.blk (by infer_instance) | exact Pcs.nil | (apply Pcs.cons; infer_instance) | apply Pcs.app)))) | (apply p_pcs; apply clone_spec; (try case hS => assumption); (case hpcs => (repeat (first | exact Pcs.blk (by infer_instance) | exact Pcs.nil | (apply Pcs.cons; infer_instance) | apply Pcs.app))))) | (show Ex _ ⟨_, .buildSlice _ _ _, _, _, _, _⟩ _ _ _; first | (refine e_buildSlice ?_; intro _) | (refine e_buildNil ?_; intro _ _ _))) | (show wpC _ _ _ _ _ _; first | refine wpC_seq ?_ | refine wpC_region ?_ | refine c_true ?_ | refine c_false ?_ | (refine c_b (fun _ => ?_) (fun _ => ?_) <;> (first | (exfalso; omega) | contradiction | skip)) | refine wpC_ret ?_ | refine wpC_skip ?_ | refine wpC_label ?_) | (show Then _ _ _ _ _ _ _; first | refine then_normal ?_ | refine then_ret ?_) | (show RetP _ _ _ _ _ _ _ _; first | refine r_2 ?_) | assumption | intro _)
  · exact q_drop (h7 ‹_›)
  · exact q_drop (h20 ‹_› ‹_›)
  · exact q_drop (h4 ‹_› ‹_› ‹_›)
  · omega
  · rename_i f l1 l2 hd hn hl hnm hg hh hin hfo hle hf v' B' hB
    exact q_drop (h0 f v' B' hd hn hf hnm hB)
set_option maxHeartbeats 4000000 in
set_option maxRecDepth 100000 in
theorem size_spec (e : World) {s : ByteArray} {d m clk : Nat} {es : Array MapEntry} {left room : Int} {k : Nat} {down : Bool} {l : List Fl} {F : Hp} {K : Value → Hp → Prop} (hM : MapF es clk l) (hok : ∀ f ∈ l, f.ok) (hb : tot l ≤ 140737488355328)
    (h7 : down = true → K (.tuple #[.int .i64 0, .int .i64 0, .int .i64 7]) ((dskO d m es clk left k room down ++ fsH l) ++ F)) (h20 : down = false → ¬ okN s → K (.tuple #[.int .i64 0, .int .i64 0, .int .i64 20]) ((dskO d m es clk left k room down ++ fsH l) ++ F)) (h4 : down = false → okN s → (∀ f ∈ l, f.nm ≠ s) → K (.tuple #[.int .i64 0, .int .i64 0, .int .i64 4]) ((dskO d m es clk left k room down ++ fsH l) ++ F))
    (h0 : ∀ f, down = false → okN s → f ∈ l → f.nm = s → K (.tuple #[.int .i64 (f.bs.length : Int), .int .i64 (f.syn : Int), .int .i64 0]) ((dskO d m es clk left k room down ++ fsH l) ++ F)) :
    callsK Try.prog e 31 #[pv d, .string s] ((dskO d m es clk left k room down ++ fsH l) ++ F) K := by
  refine calls_body (N := 31) (args := [pv d, .string s]) Try.func31 rfl rfl rfl (by simp) ?_
  repeat' (first | (show wpO _ _ _ _ _ _ _; first | refine wpO_nil ?_ | (show wpO _ _ _ (⟨_, .binOp _ _ _ _ _, _, _, _, _⟩ :: _) _ _ _; first | refine s_tt ?_ | refine s_ff ?_ | refine s_rdp ?_ | (refine s_cmp (fun _ => ?_) (fun _ => ?_) <;> (first | (exfalso; omega) | contradiction | skip)) | (refine s_cb (fun _ => ?_) (fun _ => ?_) <;> (first | (exfalso; omega) | contradiction | skip))) | (show wpO _ _ _ (⟨_, .lookup _ _ _ _, _, _, _, _⟩ :: _) _ _ _; first | refine s_rdm ?_ | refine s_look (fun _ _ => ?_) (fun _ => ?_)) | refine s_rdp ?_ | refine s_rdm ?_ | refine s_exq ?_ | refine s_exm ?_) | (show Ex _ _ _ _ _; first | (show Ex _ ⟨_, .call ⟨.value (.func _), _, _⟩, _, _, _, _⟩ _ _ _; refine e_call ?_; first | (apply p_pcs; apply there1 _ hM hok; (try case hS => assumption); (case hpcs => (repeat (first | exact Pcs.blk (by infer_instance) | exact Pcs.nil | (apply Pcs.cons; infer_instance) | apply Pcs.app))))) | (show Ex _ ⟨_, .buildSlice _ _ _, _, _, _, _⟩ _ _ _; first | (refine e_buildSlice ?_; intro _) | (refine e_buildNil ?_; intro _ _ _))) | (show wpC _ _ _ _ _ _; first | refine wpC_seq ?_ | refine wpC_region ?_ | refine c_true ?_ | refine c_false ?_ | (refine c_b (fun _ => ?_) (fun _ => ?_) <;> (first | (exfalso; omega) | contradiction | skip)) | refine wpC_ret ?_ | refine wpC_skip ?_ | refine wpC_label ?_ | (apply wpC_drawX (id := 5) ([]) [0, 1, 2, 3, 4, 5, 6, 7, 8, 9, 10, 11] rfl (by kernel_rfl); (case hpk => (repeat (first | exact Pcs.blk (by infer_instance) | exact Pcs.nil | (apply Pcs.cons; infer_instance) | apply Pcs.app))))) | (show Then _ _ _ _ _ _ _; first | refine then_normal ?_ | refine then_ret ?_) | (show wpD _ _ _ _ _ _ _ _; first | refine wpD_nil ?_ | refine d_rdp ?_ | refine d_rdm ?_ | refine d_tt ?_ | refine d_ff ?_ | (refine d_cmp (fun _ => ?_) (fun _ => ?_) <;> (first | (exfalso; omega) | contradiction | skip)) | (refine d_cb (fun _ => ?_) (fun _ => ?_) <;> (first | (exfalso; omega) | contradiction | skip)) | refine d_look (fun _ _ => ?_) (fun _ => ?_) | refine d_exs ?_ | refine d_exn ?_) | (show (_ ∨ Subs _ _) ∧ _; first | refine d_sub ?_ | refine d_cov ?_) | (show RetP _ _ _ _ _ _ _ _; first | refine r_3 ?_) | assumption | intro _)
  · exact q_drop (h7 ‹_›)
  · exact q_drop (h20 ‹_› ‹_›)
  · exact q_drop (h4 ‹_› ‹_› ‹_›)
  · rename_i f l1 l2 hd hn hl hnm hg hh hin hfo hle hf
    exact q_drop (h0 f hd hn hf hnm)
set_option maxHeartbeats 4000000 in
set_option maxRecDepth 100000 in
theorem del_fl {l l1 l2 : List Fl} {f : Fl} (hn : (l.map fun f => f.nm).Nodup) (hl : l = l1 ++ f :: l2) : adel (l.map kp) f.nm = (l1 ++ l2).map kp := by
  subst hl
  rw [adel_kp, List.filter_append, List.filter_cons_of_neg (by simp)]
  rw [List.map_append, List.map_cons, List.nodup_append, List.nodup_cons] at hn
  obtain ⟨_, ⟨h2, _⟩, h3⟩ := hn
  rw [List.filter_eq_self.2 fun x hx => by simpa using h3 x.nm (List.mem_map.2 ⟨x, hx, rfl⟩) f.nm (by simp), List.filter_eq_self.2 fun x hx => by
    have : x.nm ≠ f.nm := fun he => h2 (List.mem_map.2 ⟨x, hx, he⟩)
    simpa using this]
/-- a change's take from the fuse, when it isn't the last one -/
def Bn (a b : Int) : Prop := (a = 0 ∧ b = a) ∨ (a ≠ 0 ∧ a ≠ 1 ∧ b = a - 1)
set_option maxHeartbeats 4000000 in
set_option maxRecDepth 100000 in
theorem sync_spec (e : World) {s : ByteArray} {d m clk : Nat} {es : Array MapEntry} {left room : Int} {k : Nat} {down : Bool} {l : List Fl} {F : Hp} {K : Value → Hp → Prop} (hM : MapF es clk l) (hok : ∀ f ∈ l, f.ok) (hb : tot l ≤ 140737488355328) (hl0 : 0 ≤ left) (hl1 : left ≤ 9223372036854775807)
    (h7 : down = true → K (.int .i64 7) ((dskO d m es clk left k room down ++ fsH l) ++ F)) (h20 : down = false → ¬ okN s → K (.int .i64 20) ((dskO d m es clk left k room down ++ fsH l) ++ F)) (h4 : down = false → okN s → (∀ f ∈ l, f.nm ≠ s) → K (.int .i64 4) ((dskO d m es clk left k room down ++ fsH l) ++ F)) (hcr : down = false → okN s → (∃ f ∈ l, f.nm = s) → left = 1 → ∀ l', MapF es clk l' → (∀ f ∈ l', f.ok) → l'.map Fl.ab = l.map (fun f => fell k f.ab) → K (.int .i64 7) ((dskO d m es clk 0 0 room true ++ fsH l') ++ F))
    (h0 : ∀ f l1 l2 left', down = false → okN s → l = l1 ++ f :: l2 → f.nm = s → Bn left left' → K (.int .i64 0) ((dskO d m es clk left' k room down ++ fsH (l1 ++ (⟨f.nm, f.ptr, f.v, f.bs, f.bs.length, f.B⟩ : Fl) :: l2)) ++ F)) :
    callsK Try.prog e 37 #[pv d, .string s] ((dskO d m es clk left k room down ++ fsH l) ++ F) K := by
  refine calls_body (N := 37) (args := [pv d, .string s]) Try.func37 rfl rfl rfl (by simp) ?_
  repeat' (first | (show wpO _ _ _ _ _ _ _; first | refine wpO_nil ?_ | (show wpO _ _ _ (⟨_, .binOp _ _ _ _ _, _, _, _, _⟩ :: _) _ _ _; first | refine s_tt ?_ | refine s_ff ?_ | refine s_rdp ?_ | (refine s_cmp (fun _ => ?_) (fun _ => ?_) <;> (first | (exfalso; omega) | contradiction | skip)) | (refine s_cb (fun _ => ?_) (fun _ => ?_) <;> (first | (exfalso; omega) | contradiction | skip))) | (show wpO _ _ _ (⟨_, .lookup _ _ _ _, _, _, _, _⟩ :: _) _ _ _; first | refine s_rdm ?_ | refine s_look (fun _ _ => ?_) (fun _ => ?_)) | refine s_rdp ?_ | refine s_rdm ?_ | refine s_exq ?_ | refine s_exm ?_) | (show Ex _ _ _ _ _; first | (show Ex _ ⟨_, .call ⟨.value (.func _), _, _⟩, _, _, _, _⟩ _ _ _; refine e_call ?_; first | (apply p_pcs; apply there1 _ hM hok; (try case hS => assumption); (case hpcs => (repeat (first | exact Pcs.blk (by infer_instance) | exact Pcs.nil | (apply Pcs.cons; infer_instance) | apply Pcs.app)))) | (apply p_pcs; apply changes_foc _ hM hok hl0 hl1; (try case hS => assumption); (case hpcs => (repeat (first | exact Pcs.blk (by infer_instance) | exact Pcs.nil | (apply Pcs.cons; infer_instance) | apply Pcs.app))))) | (show Ex _ ⟨_, .store _ _ _, _, _, _, _⟩ _ _ _; first | refine e_store1 ?_ | refine e_storeA ?_ | (refine e_storeO ?_; intro _ _)) | (show Ex _ ⟨_, .buildSlice _ _ _, _, _, _, _⟩ _ _ _; first | (refine e_buildSlice ?_; intro _) | (refine e_buildNil ?_; intro _ _ _))) | (show wpC _ _ _ _ _ _; first | refine wpC_seq ?_ | refine wpC_region ?_ | refine c_true ?_ | refine c_false ?_ | (refine c_b (fun _ => ?_) (fun _ => ?_) <;> (first | (exfalso; omega) | contradiction | skip)) | refine wpC_ret ?_ | refine wpC_skip ?_ | refine wpC_label ?_ | (apply wpC_drawX (id := 7) ([]) [0, 1, 2, 3, 4, 5, 6, 7, 8, 9, 10, 11, 12, 13, 14, 15, 16, 17, 18] rfl (by kernel_rfl); (case hpk => (repeat (first | exact Pcs.blk (by infer_instance) | exact Pcs.nil | (apply Pcs.cons; infer_instance) | apply Pcs.app))))) | (show Then _ _ _ _ _ _ _; first | refine then_normal ?_ | refine then_ret ?_) | (show wpD _ _ _ _ _ _ _ _; first | refine wpD_nil ?_ | refine d_rdp ?_ | refine d_rdm ?_ | refine d_tt ?_ | refine d_ff ?_ | (refine d_cmp (fun _ => ?_) (fun _ => ?_) <;> (first | (exfalso; omega) | contradiction | skip)) | (refine d_cb (fun _ => ?_) (fun _ => ?_) <;> (first | (exfalso; omega) | contradiction | skip)) | refine d_look (fun _ _ => ?_) (fun _ => ?_) | refine d_exs ?_ | refine d_exn ?_) | (show (_ ∨ Subs _ _) ∧ _; first | refine d_sub ?_ | refine d_cov ?_) | (show RetP _ _ _ _ _ _ _ _; first | refine r_1 ?_) | assumption | intro _)
  · exact q_drop (h7 ‹_›)
  · exact q_drop (h20 ‹_› ‹_›)
  · exact q_drop (h4 ‹_› ‹_› ‹_›)
  · rename_i f l1 l2 hd hn hl hnm hg hh hin hfo hle hf h
    have := h0 f l1 l2 left hd hn hl hnm (.inl ⟨h, rfl⟩)
    rw [fsH_app, fsH_cons] at this
    exact q_drop this
  · rename_i f l1 l2 hd hn hl hnm hg hh hin hfo hle hf h h'
    have := h0 f l1 l2 (left - 1) hd hn hl hnm (.inr ⟨h, h', rfl⟩)
    rw [fsH_app, fsH_cons] at this
    exact q_drop this
  · rename_i f l1 l2 hd hn hl hnm hg hh hin hfo hle hf h l' hM' hok' hab'
    exact q_drop (hcr hd hn ⟨f, hf, hnm⟩ h l' hM' hok' hab')
set_option maxHeartbeats 4000000 in
set_option maxRecDepth 100000 in
theorem remove_spec (e : World) {s : ByteArray} {d m clk : Nat} {es : Array MapEntry} {left room : Int} {k : Nat} {down : Bool} {l : List Fl} {F : Hp} {K : Value → Hp → Prop} (hM : MapF es clk l) (hok : ∀ f ∈ l, f.ok) (hb : tot l ≤ 140737488355328) (hl0 : 0 ≤ left) (hl1 : left ≤ 9223372036854775807)
    (h7 : down = true → K (.int .i64 7) ((dskO d m es clk left k room down ++ fsH l) ++ F)) (h20 : down = false → ¬ okN s → K (.int .i64 20) ((dskO d m es clk left k room down ++ fsH l) ++ F)) (h4 : down = false → okN s → (∀ f ∈ l, f.nm ≠ s) → K (.int .i64 4) ((dskO d m es clk left k room down ++ fsH l) ++ F)) (hcr : down = false → okN s → (∃ f ∈ l, f.nm = s) → left = 1 → ∀ l', MapF es clk l' → (∀ f ∈ l', f.ok) → l'.map Fl.ab = l.map (fun f => fell k f.ab) → K (.int .i64 7) ((dskO d m es clk 0 0 room true ++ fsH l') ++ F))
    (h0 : ∀ f l1 l2 es' left', down = false → okN s → l = l1 ++ f :: l2 → f.nm = s → Bn left left' → MapF es' clk (l1 ++ l2) → K (.int .i64 0) ((dskO d m es' clk left' k room down ++ fsH (l1 ++ l2)) ++ F)) :
    callsK Try.prog e 38 #[pv d, .string s] ((dskO d m es clk left k room down ++ fsH l) ++ F) K := by
  refine calls_body (N := 24) (args := [pv d, .string s]) Try.func38 rfl rfl rfl (by simp) ?_
  repeat' (first | (show wpO _ _ _ _ _ _ _; first | refine wpO_nil ?_ | (show wpO _ _ _ (⟨_, .binOp _ _ _ _ _, _, _, _, _⟩ :: _) _ _ _; first | refine s_tt ?_ | refine s_ff ?_ | refine s_rdp ?_ | (refine s_cmp (fun _ => ?_) (fun _ => ?_) <;> (first | (exfalso; omega) | contradiction | skip)) | (refine s_cb (fun _ => ?_) (fun _ => ?_) <;> (first | (exfalso; omega) | contradiction | skip))) | refine s_rdp ?_ | refine s_rdm ?_ | refine s_exq ?_ | refine s_exm ?_) | (show Ex _ _ _ _ _; first | (show Ex _ ⟨_, .call ⟨.value (.func _), _, _⟩, _, _, _, _⟩ _ _ _; refine e_call ?_; first | (apply p_pcs; apply there1 _ hM hok; (try case hS => assumption); (case hpcs => (repeat (first | exact Pcs.blk (by infer_instance) | exact Pcs.nil | (apply Pcs.cons; infer_instance) | apply Pcs.app)))) | (apply p_pcs; apply changes_foc _ hM hok hl0 hl1; (try case hS => assumption); (case hpcs => (repeat (first | exact Pcs.blk (by infer_instance) | exact Pcs.nil | (apply Pcs.cons; infer_instance) | apply Pcs.app))))) | (show Ex _ ⟨_, .buildSlice _ _ _, _, _, _, _⟩ _ _ _; first | (refine e_buildSlice ?_; intro _) | (refine e_buildNil ?_; intro _ _ _)) | (show Ex _ ⟨_, .call ⟨.builtin .delete, _, _⟩, _, _, _, _⟩ _ _ _; refine e_delete ?_; intro _ _ _)) | (show wpC _ _ _ _ _ _; first | refine wpC_seq ?_ | refine wpC_region ?_ | refine c_true ?_ | refine c_false ?_ | (refine c_b (fun _ => ?_) (fun _ => ?_) <;> (first | (exfalso; omega) | contradiction | skip)) | refine wpC_ret ?_ | refine wpC_skip ?_ | refine wpC_label ?_) | (show Then _ _ _ _ _ _ _; first | refine then_normal ?_ | refine then_ret ?_) | (show RetP _ _ _ _ _ _ _ _; first | refine r_1 ?_) | assumption | intro _)
  · exact q_drop (h7 ‹_›)
  · exact q_drop (h20 ‹_› ‹_›)
  · exact q_drop (h4 ‹_› ‹_› ‹_›)
  · rename_i f l1 l2 hd hn hl hnm hg hh hin hfo hle hf h es' hM' _
    have hnd : (l.map fun f => f.nm).Nodup := by have := hM.keys; rwa [names_kp] at this
    rw [← hnm, del_fl hnd hl] at hM'
    have := h0 f l1 l2 es' left hd hn hl hnm (.inl ⟨h, rfl⟩) hM'
    rw [fsH_app] at this
    exact q_drop this
  · rename_i f l1 l2 hd hn hl hnm hg hh hin hfo hle hf h h' es' hM' _
    have hnd : (l.map fun f => f.nm).Nodup := by have := hM.keys; rwa [names_kp] at this
    rw [← hnm, del_fl hnd hl] at hM'
    have := h0 f l1 l2 es' (left - 1) hd hn hl hnm (.inr ⟨h, h', rfl⟩) hM'
    rw [fsH_app] at this
    exact q_drop this
  · rename_i f l1 l2 hd hn hl hnm hg hh hin hfo hle hf h l' hM' hok' hab'
    exact q_drop (hcr hd hn ⟨f, hf, hnm⟩ h l' hM' hok' hab')
end Go.Vl
