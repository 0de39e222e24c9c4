/-
  The disk: Rename, Append, the fuse, crashes.
-/
import Derived.Test.YtkamfmdonhaikaaD3
namespace Go.Vl
open Go.Proofs
attribute [local irreducible] wpC wpO wpD Ex Rd callsK RetP Drop valK
def putF : List Fl → Fl → List Fl
  | [], x => [x]
  | y :: l, x => if y.nm = x.nm then x :: l else y :: putF l x
set_option maxHeartbeats 4000000 in
set_option maxRecDepth 100000 in
theorem putF_kp (x : Fl) : ∀ l : List Fl, aput (l.map kp) x.nm x.ptr = (putF l x).map kp
  | [] => rfl
  | y :: l => by
    rw [List.map_cons]
    unfold aput putF
    by_cases h : y.nm = x.nm
    · simp [h]
    · simp only [h, if_false, List.map_cons, ← putF_kp x l]
set_option maxHeartbeats 4000000 in
set_option maxRecDepth 100000 in
theorem putF_hp (x : Fl) : ∀ l : List Fl, ∃ R, (fsH l ++ x.hp).Perm (fsH (putF l x) ++ R)
  | [] => ⟨[], by unfold putF; simp [fsH]⟩
  | y :: l => by
    unfold putF
    by_cases h : y.nm = x.nm
    · refine ⟨y.hp, ?_⟩
      rw [if_pos h, fsH_cons, fsH_cons, List.append_assoc y.hp]
      exact (List.perm_append_comm (l₁ := y.hp)).trans ((List.perm_append_comm (l₁ := fsH l) (l₂ := x.hp)).append_right y.hp)
    · obtain ⟨R, hR⟩ := putF_hp x l
      refine ⟨R, ?_⟩
      rw [if_neg h, fsH_cons, fsH_cons, List.append_assoc, List.append_assoc]
      exact hR.append_left _
set_option maxHeartbeats 4000000 in
set_option maxRecDepth 100000 in
theorem setFuse_spec (e : World) {d m clk : Nat} {es : Array MapEntry} {left room : Int} {k : Nat} {down : Bool} {F : Hp} {K : Value → Hp → Prop} {a b : Int}
    (h1 : a < 0 ∨ b < 0 → K (.int .i64 1) (dskO d m es clk left k room down ++ F)) (h7 : 0 ≤ a → 0 ≤ b → down = true → K (.int .i64 7) (dskO d m es clk left k room down ++ F))
    (h0 : 0 ≤ a → 0 ≤ b → down = false → K (.int .i64 0) (dskO d m es clk a b room down ++ F)) :
    callsK Try.prog e 26 #[pv d, .int .i64 a, .int .i64 b] (dskO d m es clk left k room down ++ F) K := by
  refine calls_body (N := 25) (args := [pv d, .int .i64 a, .int .i64 b]) Try.func26 rfl rfl rfl (by simp) ?_
  repeat' (first | (show wpO _ _ _ _ _ _ _; first | refine wpO_nil ?_ | (show wpO _ _ _ (⟨_, .binOp _ _ _ _ _, _, _, _, _⟩ :: _) _ _ _; first | refine s_tt ?_ | refine s_ff ?_ | refine s_rdp ?_ | (refine s_cmp (fun _ => ?_) (fun _ => ?_) <;> (first | (exfalso; omega) | contradiction | skip)) | (refine s_cb (fun _ => ?_) (fun _ => ?_) <;> (first | (exfalso; omega) | contradiction | skip)) | refine s_sks ?_ | (refine s_g (fun _ => ?_) (fun _ => ?_) <;> (first | (exfalso; omega) | contradiction | skip))) | (show wpO _ _ _ (⟨_, .pick _ _ _, _, _, _, _⟩ :: _) _ _ _; first | refine s_rdp ?_ | (refine s_p (fun _ => ?_) (fun _ => ?_) <;> (first | (exfalso; omega) | contradiction | skip)) | refine s_sks ?_ | (refine s_g (fun _ => ?_) (fun _ => ?_) <;> (first | (exfalso; omega) | contradiction | skip))) | refine s_rdp ?_ | refine s_rdm ?_ | refine s_exq ?_ | refine s_exm ?_ | refine s_sks ?_ | refine s_skn ?_ | (refine s_g (fun _ => ?_) (fun _ => ?_) <;> (first | (exfalso; omega) | contradiction | skip))) | (show Ex _ _ _ _ _; first | (show Ex _ ⟨_, .call ⟨.value (.func _), _, _⟩, _, _, _, _⟩ _ _ _; refine e_call ?_; first | (apply p_pcs; apply none_f; (try case hS => assumption); (case hpcs => (repeat (first | exact Pcs.blk (by infer_instance) | exact Pcs.nil | (apply Pcs.cons; infer_instance) | apply Pcs.app))))) | (show Ex _ ⟨_, .store _ _ _, _, _, _, _⟩ _ _ _; first | refine e_store1 ?_ | refine e_storeA ?_ | (refine e_storeO ?_; intro _ _))) | (show wpC _ _ _ _ _ _; first | refine wpC_seq ?_ | refine wpC_region ?_ | refine c_true ?_ | refine c_false ?_ | (refine c_b (fun _ => ?_) (fun _ => ?_) <;> (first | (exfalso; omega) | contradiction | skip)) | refine wpC_ret ?_ | refine wpC_skip ?_ | refine wpC_label ?_) | (show Then _ _ _ _ _ _ _; first | refine then_normal ?_ | refine then_ret ?_) | (show RetP _ _ _ _ _ _ _ _; first | refine r_1 ?_) | assumption | intro _)
  · exact q_drop (h1 (.inl ‹_›))
  · exact q_drop (h1 (.inr ‹_›))
  · exact q_drop (h7 (by omega) (by omega) ‹_›)
  · rename_i hd
    subst hd
    exact q_drop (h0 (by omega) (by omega) rfl)
set_option maxHeartbeats 4000000 in
set_option maxRecDepth 100000 in
theorem crash_spec (e : World) {d m clk : Nat} {es : Array MapEntry} {left room : Int} {k : Nat} {down : Bool} {l : List Fl} {F : Hp} {K : Value → Hp → Prop} {a : Int} (hM : MapF es clk l) (hok : ∀ f ∈ l, f.ok)
    (h1 : a < 0 → K (.int .i64 1) ((dskO d m es clk left k room down ++ fsH l) ++ F)) (h7 : 0 ≤ a → down = true → K (.int .i64 7) ((dskO d m es clk left k room down ++ fsH l) ++ F))
    (h0 : ∀ n : Nat, a = n → down = false → ∀ l', MapF es clk l' → (∀ f ∈ l', f.ok) → l'.map Fl.ab = l.map (fun f => fell n f.ab) → K (.int .i64 0) ((dskO d m es clk 0 0 room true ++ fsH l') ++ F)) :
    callsK Try.prog e 28 #[pv d, .int .i64 a] ((dskO d m es clk left k room down ++ fsH l) ++ F) K := by
  by_cases ha : a < 0
  · refine calls_body (N := 16) (args := [pv d, .int .i64 a]) Try.func28 rfl rfl rfl (by simp) ?_
    repeat' (first | (show wpO _ _ _ _ _ _ _; first | refine wpO_nil ?_ | (show wpO _ _ _ (⟨_, .binOp _ _ _ _ _, _, _, _, _⟩ :: _) _ _ _; first | refine s_tt ?_ | refine s_ff ?_ | refine s_rdp ?_ | (refine s_cmp (fun _ => ?_) (fun _ => ?_) <;> (first | (exfalso; omega) | contradiction | skip)) | (refine s_cb (fun _ => ?_) (fun _ => ?_) <;> (first | (exfalso; omega) | contradiction | skip))) | refine s_rdp ?_ | refine s_rdm ?_ | refine s_exq ?_ | refine s_exm ?_) | (show Ex _ _ _ _ _; first | (show Ex _ ⟨_, .call ⟨.value (.func _), _, _⟩, _, _, _, _⟩ _ _ _; refine e_call ?_; first | (apply p_pcs; apply none_f; (try case hS => assumption); (case hpcs => (repeat (first | exact Pcs.blk (by infer_instance) | exact Pcs.nil | (apply Pcs.cons; infer_instance) | apply Pcs.app)))))) | (show wpC _ _ _ _ _ _; first | refine wpC_seq ?_ | refine wpC_region ?_ | refine c_true ?_ | refine c_false ?_ | (refine c_b (fun _ => ?_) (fun _ => ?_) <;> (first | (exfalso; omega) | contradiction | skip)) | refine wpC_ret ?_ | refine wpC_skip ?_ | refine wpC_label ?_) | (show Then _ _ _ _ _ _ _; first | refine then_normal ?_ | refine then_ret ?_) | (show RetP _ _ _ _ _ _ _ _; first | refine r_1 ?_) | assumption | intro _)
    exact q_drop (h1 ha)
  · obtain ⟨n, rfl⟩ := Int.eq_ofNat_of_zero_le (by omega : 0 ≤ a)
    refine calls_body (N := 16) (args := [pv d, .int .i64 (n : Int)]) Try.func28 rfl rfl rfl (by simp) ?_
    repeat' (first | (show wpO _ _ _ _ _ _ _; first | refine wpO_nil ?_ | (show wpO _ _ _ (⟨_, .binOp _ _ _ _ _, _, _, _, _⟩ :: _) _ _ _; first | refine s_tt ?_ | refine s_ff ?_ | refine s_rdp ?_ | (refine s_cmp (fun _ => ?_) (fun _ => ?_) <;> (first | (exfalso; omega) | contradiction | skip)) | (refine s_cb (fun _ => ?_) (fun _ => ?_) <;> (first | (exfalso; omega) | contradiction | skip))) | refine s_rdp ?_ | refine s_rdm ?_ | refine s_exq ?_ | refine s_exm ?_) | (show Ex _ _ _ _ _; first | (show Ex _ ⟨_, .call ⟨.value (.func _), _, _⟩, _, _, _, _⟩ _ _ _; refine e_call ?_; first | (apply p_pcs; apply none_f; (try case hS => assumption); (case hpcs => (repeat (first | exact Pcs.blk (by infer_instance) | exact Pcs.nil | (apply Pcs.cons; infer_instance) | apply Pcs.app)))) | (apply p_pcs; apply falls_spec _ hM hok; (try case hS => assumption); (case hpcs => (repeat (first | exact Pcs.blk (by infer_instance) | exact Pcs.nil | (apply Pcs.cons; infer_instance) | apply Pcs.app)))))) | (show wpC _ _ _ _ _ _; first | refine wpC_seq ?_ | refine wpC_region ?_ | refine c_true ?_ | refine c_false ?_ | (refine c_b (fun _ => ?_) (fun _ => ?_) <;> (first | (exfalso; omega) | contradiction | skip)) | refine wpC_ret ?_ | refine wpC_skip ?_ | refine wpC_label ?_) | (show Then _ _ _ _ _ _ _; first | refine then_normal ?_ | refine then_ret ?_) | (show RetP _ _ _ _ _ _ _ _; first | refine r_1 ?_) | assumption | intro _)
    · exact q_drop (h7 (by omega) ‹_›)
    · exact q_drop (h0 n rfl ‹_› _ ‹_› ‹_› ‹_›)
set_option maxHeartbeats 4000000 in
set_option maxRecDepth 100000 in
theorem restart_spec (e : World) {d m clk : Nat} {es : Array MapEntry} {left room : Int} {k : Nat} {down : Bool} {F : Hp} {K : Value → Hp → Prop}
    (h1 : down = false → K (.int .i64 1) (dskO d m es clk left k room down ++ F)) (h0 : down = true → K (.int .i64 0) (dskO d m es clk left k room false ++ F)) :
    callsK Try.prog e 29 #[pv d] (dskO d m es clk left k room down ++ F) K := by
  refine calls_body (N := 13) (args := [pv d]) Try.func29 rfl rfl rfl (by simp) ?_
  repeat' (first | (show wpO _ _ _ _ _ _ _; first | refine wpO_nil ?_ | refine s_rdp ?_ | refine s_rdm ?_ | refine s_exq ?_ | refine s_exm ?_) | (show Ex _ _ _ _ _; first | (show Ex _ ⟨_, .call ⟨.value (.func _), _, _⟩, _, _, _, _⟩ _ _ _; refine e_call ?_; first | (apply p_pcs; apply none_f; (try case hS => assumption); (case hpcs => (repeat (first | exact Pcs.blk (by infer_instance) | exact Pcs.nil | (apply Pcs.cons; infer_instance) | apply Pcs.app))))) | (show Ex _ ⟨_, .store _ _ _, _, _, _, _⟩ _ _ _; first | refine e_store1 ?_ | refine e_storeA ?_ | (refine e_storeO ?_; intro _ _))) | (show wpC _ _ _ _ _ _; first | refine wpC_seq ?_ | refine wpC_region ?_ | refine c_true ?_ | refine c_false ?_ | (refine c_b (fun _ => ?_) (fun _ => ?_) <;> (first | (exfalso; omega) | contradiction | skip)) | refine wpC_ret ?_ | refine wpC_skip ?_ | refine wpC_label ?_) | (show Then _ _ _ _ _ _ _; first | refine then_normal ?_ | refine then_ret ?_) | (show RetP _ _ _ _ _ _ _ _; first | refine r_1 ?_) | assumption | intro _)
  · exact q_drop (h1 (by simpa using ‹(!down) = true›))
  · exact q_drop (h0 (by simpa using ‹(!down) = false›))
set_option maxHeartbeats 4000000 in
set_option maxRecDepth 100000 in
theorem down_spec (e : World) {d m clk : Nat} {es : Array MapEntry} {left room : Int} {k : Nat} {down : Bool} {F : Hp} {K : Value → Hp → Prop} (h0 : K (.bool down) (dskO d m es clk left k room down ++ F)) :
    callsK Try.prog e 21 #[pv d] (dskO d m es clk left k room down ++ F) K := by
  refine calls_body (N := 12) (args := [pv d]) Try.func21 rfl rfl rfl (by simp) ?_
  repeat' (first | (show wpO _ _ _ _ _ _ _; first | refine wpO_nil ?_ | (show wpO _ _ _ (⟨_, .pick _ _ _, _, _, _, _⟩ :: _) _ _ _; first | refine s_rdp ?_ | (refine s_p (fun _ => ?_) (fun _ => ?_) <;> (first | (exfalso; omega) | contradiction | skip)) | refine s_sks ?_ | (refine s_g (fun _ => ?_) (fun _ => ?_) <;> (first | (exfalso; omega) | contradiction | skip))) | refine s_rdp ?_ | refine s_rdm ?_ | refine s_exq ?_ | refine s_exm ?_ | refine s_sks ?_ | refine s_skn ?_ | (refine s_g (fun _ => ?_) (fun _ => ?_) <;> (first | (exfalso; omega) | contradiction | skip))) | (show Ex _ _ _ _ _; first | (show Ex _ ⟨_, .call ⟨.value (.func _), _, _⟩, _, _, _, _⟩ _ _ _; refine e_call ?_; first | (apply p_pcs; apply none_f; (try case hS => assumption); (case hpcs => (repeat (first | exact Pcs.blk (by infer_instance) | exact Pcs.nil | (apply Pcs.cons; infer_instance) | apply Pcs.app)))))) | (show wpC _ _ _ _ _ _; first | refine wpC_seq ?_ | refine wpC_region ?_ | refine wpC_ret ?_ | refine wpC_skip ?_ | refine wpC_label ?_) | (show Then _ _ _ _ _ _ _; first | refine then_normal ?_ | refine then_ret ?_) | (show RetP _ _ _ _ _ _ _ _; first | refine r_1 ?_) | assumption | intro _)
  exact q_drop h0
set_option maxHeartbeats 4000000 in
set_option maxRecDepth 100000 in
theorem room_spec (e : World) {d m clk : Nat} {es : Array MapEntry} {left room : Int} {k : Nat} {down : Bool} {F : Hp} {K : Value → Hp → Prop} (h0 : K (.int .i64 room) (dskO d m es clk left k room down ++ F)) :
    callsK Try.prog e 22 #[pv d] (dskO d m es clk left k room down ++ F) K := by
  refine calls_body (N := 9) (args := [pv d]) Try.func22 rfl rfl rfl (by simp) ?_
  repeat' (first | (show wpO _ _ _ _ _ _ _; first | refine wpO_nil ?_ | refine s_rdp ?_ | refine s_rdm ?_ | refine s_exq ?_ | refine s_exm ?_) | (show Ex _ _ _ _ _; first | (show Ex _ ⟨_, .call ⟨.value (.func _), _, _⟩, _, _, _, _⟩ _ _ _; refine e_call ?_; first | (apply p_pcs; apply none_f; (try case hS => assumption); (case hpcs => (repeat (first | exact Pcs.blk (by infer_instance) | exact Pcs.nil | (apply Pcs.cons; infer_instance) | apply Pcs.app)))))) | (show wpC _ _ _ _ _ _; first | refine wpC_seq ?_ | refine wpC_region ?_ | refine c_true ?_ | refine c_false ?_ | (refine c_b (fun _ => ?_) (fun _ => ?_) <;> (first | (exfalso; omega) | contradiction | skip)) | refine wpC_ret ?_ | refine wpC_skip ?_ | refine wpC_label ?_) | (show Then _ _ _ _ _ _ _; first | refine then_normal ?_ | refine then_ret ?_) | (show RetP _ _ _ _ _ _ _ _; first | refine r_1 ?_) | assumption | intro _)
  exact q_drop h0
set_option maxHeartbeats 4000000 in
set_option maxRecDepth 100000 in
theorem dused_spec (e : World) {d m clk : Nat} {es : Array MapEntry} {left room : Int} {k : Nat} {down : Bool} {l : List Fl} {F : Hp} {K : Value → Hp → Prop} (hM : MapF es clk l) (hok : ∀ f ∈ l, f.ok) (hl : tot l ≤ 9223372036854775807)
    (h0 : K (.int .i64 (tot l : Int)) ((dskO d m es clk left k room down ++ fsH l) ++ F)) :
    callsK Try.prog e 20 #[pv d] ((dskO d m es clk left k room down ++ fsH l) ++ F) K := by
  refine calls_body (N := 10) (args := [pv d]) Try.func20 rfl rfl rfl (by simp) ?_
  repeat' (first | (show wpO _ _ _ _ _ _ _; first | refine wpO_nil ?_ | refine s_rdp ?_ | refine s_rdm ?_ | refine s_exq ?_ | refine s_exm ?_) | (show Ex _ _ _ _ _; first | (show Ex _ ⟨_, .call ⟨.value (.func _), _, _⟩, _, _, _, _⟩ _ _ _; refine e_call ?_; first | (apply p_pcs; apply none_f; (try case hS => assumption); (case hpcs => (repeat (first | exact Pcs.blk (by infer_instance) | exact Pcs.nil | (apply Pcs.cons; infer_instance) | apply Pcs.app)))) | (apply p_pcs; apply used_spec _ hM hok hl; (try case hS => assumption); (case hpcs => (repeat (first | exact Pcs.blk (by infer_instance) | exact Pcs.nil | (apply Pcs.cons; infer_instance) | apply Pcs.app)))))) | (show wpC _ _ _ _ _ _; first | refine wpC_seq ?_ | refine wpC_region ?_ | refine c_true ?_ | refine c_false ?_ | (refine c_b (fun _ => ?_) (fun _ => ?_) <;> (first | (exfalso; omega) | contradiction | skip)) | refine wpC_ret ?_ | refine wpC_skip ?_ | refine wpC_label ?_) | (show Then _ _ _ _ _ _ _; first | refine then_normal ?_ | refine then_ret ?_) | (show RetP _ _ _ _ _ _ _ _; first | refine r_1 ?_) | assumption | intro _)
  exact q_drop h0
set_option maxHeartbeats 4000000 in
set_option maxRecDepth 100000 in
theorem rename_spec (e : World) {s r : ByteArray} {d m clk : Nat} {es : Array MapEntry} {left room : Int} {k : Nat} {down : Bool} {l : List Fl} {F : Hp} {K : Value → Hp → Prop} (hM : MapF es clk l) (hok : ∀ f ∈ l, f.ok) (hl0 : 0 ≤ left) (hl1 : left ≤ 9223372036854775807)
    (h7 : down = true → K (.int .i64 7) ((dskO d m es clk left k room down ++ fsH l) ++ F)) (h20 : down = false → ¬ (okN s ∧ okN r) → K (.int .i64 20) ((dskO d m es clk left k room down ++ fsH l) ++ F)) (h4 : down = false → okN s → okN r → (∀ f ∈ l, f.nm ≠ s) → K (.int .i64 4) ((dskO d m es clk left k room down ++ fsH l) ++ F)) (hcr : down = false → okN s → okN r → (∃ f ∈ l, f.nm = s) → left = 1 → ∀ l', MapF es clk l' → (∀ f ∈ l', f.ok) → l'.map Fl.ab = l.map (fun f => fell k f.ab) → K (.int .i64 7) ((dskO d m es clk 0 0 room true ++ fsH l') ++ F))
    (h0 : ∀ f l1 l2 es' clk' left', down = false → okN s → okN r → l = l1 ++ f :: l2 → f.nm = s → Bn left left' → MapF es' clk' (putF (l1 ++ l2) ⟨r, f.ptr, f.v, f.bs, f.syn, f.B⟩) → K (.int .i64 0) ((dskO d m es' clk' left' k room down ++ fsH (putF (l1 ++ l2) ⟨r, f.ptr, f.v, f.bs, f.syn, f.B⟩)) ++ F)) :
    callsK Try.prog e 39 #[pv d, .string s, .string r] ((dskO d m es clk left k room down ++ fsH l) ++ F) K := by
  refine calls_body (N := 40) (args := [pv d, .string s, .string r]) Try.func39 rfl rfl rfl (by simp) ?_
  repeat' (first | (show wpO _ _ _ _ _ _ _; first | refine wpO_nil ?_ | (show wpO _ _ _ (⟨_, .binOp _ _ _ _ _, _, _, _, _⟩ :: _) _ _ _; first | refine s_tt ?_ | refine s_ff ?_ | refine s_rdp ?_ | (refine s_cmp (fun _ => ?_) (fun _ => ?_) <;> (first | (exfalso; omega) | contradiction | skip)) | (refine s_cb (fun _ => ?_) (fun _ => ?_) <;> (first | (exfalso; omega) | contradiction | skip))) | (show wpO _ _ _ (⟨_, .lookup _ _ _ _, _, _, _, _⟩ :: _) _ _ _; first | refine s_rdm ?_ | refine s_look (fun _ _ => ?_) (fun _ => ?_)) | refine s_rdp ?_ | refine s_rdm ?_ | refine s_exq ?_ | refine s_exm ?_) | (show Ex _ _ _ _ _; first | (show Ex _ ⟨_, .call ⟨.value (.func _), _, _⟩, _, _, _, _⟩ _ _ _; refine e_call ?_; first | (apply p_pcs; apply there2 _ hM hok; (try case hS => assumption); (case hpcs => (repeat (first | exact Pcs.blk (by infer_instance) | exact Pcs.nil | (apply Pcs.cons; infer_instance) | apply Pcs.app)))) | (apply p_pcs; apply changes_foc _ hM hok hl0 hl1; (try case hS => assumption); (case hpcs => (repeat (first | exact Pcs.blk (by infer_instance) | exact Pcs.nil | (apply Pcs.cons; infer_instance) | apply Pcs.app))))) | (show Ex _ ⟨_, .mapUpdate _ _ _ _, _, _, _, _⟩ _ _ _; refine e_mapUpdate ?_; intro _ _ _) | (show Ex _ ⟨_, .buildSlice _ _ _, _, _, _, _⟩ _ _ _; first | (refine e_buildSlice ?_; intro _) | (refine e_buildNil ?_; intro _ _ _)) | (show Ex _ ⟨_, .call ⟨.builtin .delete, _, _⟩, _, _, _, _⟩ _ _ _; refine e_delete ?_; intro _ _ _)) | (show wpC _ _ _ _ _ _; first | refine wpC_seq ?_ | refine wpC_region ?_ | refine c_true ?_ | refine c_false ?_ | (refine c_b (fun _ => ?_) (fun _ => ?_) <;> (first | (exfalso; omega) | contradiction | skip)) | refine wpC_ret ?_ | refine wpC_skip ?_ | refine wpC_label ?_) | (show Then _ _ _ _ _ _ _; first | refine then_normal ?_ | refine then_ret ?_) | (show RetP _ _ _ _ _ _ _ _; first | refine r_1 ?_) | assumption | intro _)
  · exact q_drop (h7 ‹_›)
  · exact q_drop (h20 ‹_› ‹_›)
  · exact q_drop (h4 ‹_› ‹_› ‹_› ‹_›)
  · rename_i f l1 l2 hd hn hn2 hl hnm hg hh hin hfo hle hf h es1 hM1 _ es' clk' hM'
    have hnd : (l.map fun f => f.nm).Nodup := by have := hM.keys; rwa [names_kp] at this
    rw [← hnm, del_fl hnd hl, putF_kp ⟨r, f.ptr, f.v, f.bs, f.syn, f.B⟩] at hM'
    obtain ⟨R, hR⟩ := putF_hp ⟨r, f.ptr, f.v, f.bs, f.syn, f.B⟩ (l1 ++ l2)
    rw [fsH_app, List.append_assoc] at hR
    have hp := (((List.perm_append_comm (l₁ := f.hp) (l₂ := fsH l2)).append_left (fsH l1)).trans hR)
    have := h0 f l1 l2 es' clk' left hd hn hn2 hl hnm (.inl ⟨h, rfl⟩) hM'
    generalize fsH (putF (l1 ++ l2) ⟨r, f.ptr, f.v, f.bs, f.syn, f.B⟩) = Z at hp this
    refine drop_perm ((hp.append_left _).append_right _) ?_
    exact q_drop this
  · rename_i f l1 l2 hd hn hn2 hl hnm hg hh hin hfo hle hf h h' es1 hM1 _ es' clk' hM'
    have hnd : (l.map fun f => f.nm).Nodup := by have := hM.keys; rwa [names_kp] at this
    rw [← hnm, del_fl hnd hl, putF_kp ⟨r, f.ptr, f.v, f.bs, f.syn, f.B⟩] at hM'
    obtain ⟨R, hR⟩ := putF_hp ⟨r, f.ptr, f.v, f.bs, f.syn, f.B⟩ (l1 ++ l2)
    rw [fsH_app, List.append_assoc] at hR
    have hp := (((List.perm_append_comm (l₁ := f.hp) (l₂ := fsH l2)).append_left (fsH l1)).trans hR)
    have := h0 f l1 l2 es' clk' (left - 1) hd hn hn2 hl hnm (.inr ⟨h, h', rfl⟩) hM'
    generalize fsH (putF (l1 ++ l2) ⟨r, f.ptr, f.v, f.bs, f.syn, f.B⟩) = Z at hp this
    refine drop_perm ((hp.append_left _).append_right _) ?_
    exact q_drop this
  · rename_i f l1 l2 hd hn hn2 hl hnm hg hh hin hfo hle hf h l' hM' hok' hab'
    exact q_drop (hcr hd hn hn2 ⟨f, hf, hnm⟩ h l' hM' hok' hab')
end Go.Vl
