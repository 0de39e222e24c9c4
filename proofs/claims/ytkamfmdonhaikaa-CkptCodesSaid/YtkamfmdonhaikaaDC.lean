/-
  What a disk answers of itself, as of the plain disk; a look at a file.
-/
import Derived.Test.YtkamfmdonhaikaaDB
namespace Go.Vl
open Go.Proofs
attribute [local irreducible] wpC wpO wpD Ex Rd callsK RetP Drop valK
open Classical in
noncomputable def readA (s : DS) (n : ByteArray) : List UInt8 × Int :=
  if s.down = true then ([], 7) else if ¬ okN n then ([], 20) else match s.L.find? (fun a => decide (a.1 = n)) with
  | none => ([], 4)
  | some a => (a.2.1, 0)
open Classical in
noncomputable def sizeA (s : DS) (n : ByteArray) : Int × Int × Int :=
  if s.down = true then (0, 0, 7) else if ¬ okN n then (0, 0, 20) else match s.L.find? (fun a => decide (a.1 = n)) with
  | none => (0, 0, 4)
  | some a => (a.2.1.length, a.2.2, 0)
set_option maxHeartbeats 4000000 in
set_option maxRecDepth 100000 in
theorem readA_E {s t : DS} (h : s.E t) (hn : NamesA s.L) (n : ByteArray) : readA s n = readA t n := by
  unfold readA
  rw [h.down, find_perm h.L hn]
set_option maxHeartbeats 4000000 in
set_option maxRecDepth 100000 in
theorem sizeA_E {s t : DS} (h : s.E t) (hn : NamesA s.L) (n : ByteArray) : sizeA s n = sizeA t n := by
  unfold sizeA
  rw [h.down, find_perm h.L hn]
set_option maxHeartbeats 4000000 in
set_option maxRecDepth 100000 in
theorem find_fl {l : List Fl} {f : Fl} (hn : (l.map fun f => f.nm).Nodup) (hf : f ∈ l) : (l.map Fl.ab).find? (fun a => decide (a.1 = f.nm)) = some f.ab := by
  induction l with
  | nil => cases hf
  | cons y L ih =>
    rw [List.map_cons, List.nodup_cons] at hn
    rcases List.mem_cons.1 hf with rfl | hf
    · rw [List.map_cons, List.find?_cons_of_pos (by simp)]
    · have : ¬ y.nm = f.nm := fun he => hn.1 (List.mem_map.2 ⟨f, hf, he.symm⟩)
      rw [List.map_cons, List.find?_cons_of_neg (by simpa using this)]
      exact ih hn.2 hf
set_option maxHeartbeats 4000000 in
set_option maxRecDepth 100000 in
theorem find_no {l : List Fl} {n : ByteArray} (h : ∀ f ∈ l, f.nm ≠ n) : (l.map Fl.ab).find? (fun a => decide (a.1 = n)) = none := by
  rw [List.find?_eq_none]
  intro a ha
  obtain ⟨f, hf, rfl⟩ := List.mem_map.1 ha
  simpa using h f hf
set_option maxHeartbeats 4000000 in
set_option maxRecDepth 100000 in
theorem read_D (e : World) {s : ByteArray} {F : Hp} {d m : Nat} {x : Dk} {room : Int} {K : Value → Hp → Prop} (hx : x.ok room) (hb : tot x.l ≤ 140737488355328)
    (hK : ∀ v B, BytO v (readA x.ds s).1 B → K (.tuple #[v, .int .i64 (readA x.ds s).2]) (B ++ (x.hp d m room ++ F))) :
    callsK Try.prog e 17 #[pv d, .string s] (x.hp d m room ++ F) K := by
  have hnil : ∀ r : Int, readA x.ds s = ([], r) → K (.tuple #[.slice none 0 0, .int .i64 r]) (x.hp d m room ++ F) := fun r hr => by
    rw [hr] at hK
    exact hK (.slice none 0 0) [] (SlO.nil 5 1)
  refine read_spec e hx.map hx.fl hb (fun h => hnil 7 (if_pos h)) (fun h h2 => hnil 20 ?_) (fun h h2 h3 => hnil 4 ?_) (fun f v' B' h h2 hf hn hB => ?_)
  · unfold readA
    rw [if_neg (by simp [h]), if_pos h2]
  · unfold readA
    rw [if_neg (by simp [h]), if_neg (by simpa using h2), find_no h3]
  · have hr : readA x.ds s = (f.bs, 0) := by
      unfold readA
      rw [if_neg (by simp [h]), if_neg (by simpa using h2), ← hn, find_fl hx.names hf]
    rw [hr] at hK
    exact hK v' B' hB
set_option maxHeartbeats 4000000 in
set_option maxRecDepth 100000 in
theorem size_D (e : World) {s : ByteArray} {F : Hp} {d m : Nat} {x : Dk} {room : Int} {K : Value → Hp → Prop} (hx : x.ok room) (hb : tot x.l ≤ 140737488355328)
    (hK : K (.tuple #[.int .i64 (sizeA x.ds s).1, .int .i64 (sizeA x.ds s).2.1, .int .i64 (sizeA x.ds s).2.2]) (x.hp d m room ++ F)) :
    callsK Try.prog e 31 #[pv d, .string s] (x.hp d m room ++ F) K := by
  refine size_spec e hx.map hx.fl hb (fun h => ?_) (fun h h2 => ?_) (fun h h2 h3 => ?_) (fun f h h2 hf hn => ?_)
  · rw [show sizeA x.ds s = (0, 0, 7) from if_pos h] at hK
    exact hK
  · rw [show sizeA x.ds s = (0, 0, 20) from by unfold sizeA; rw [if_neg (by simp [h]), if_pos h2]] at hK
    exact hK
  · rw [show sizeA x.ds s = (0, 0, 4) from by unfold sizeA; rw [if_neg (by simp [h]), if_neg (by simpa using h2), find_no h3]] at hK
    exact hK
  · rw [show sizeA x.ds s = ((f.bs.length : Int), (f.syn : Int), 0) from by unfold sizeA; rw [if_neg (by simp [h]), if_neg (by simpa using h2), ← hn, find_fl hx.names hf]] at hK
    exact hK
set_option maxHeartbeats 4000000 in
set_option maxRecDepth 100000 in
theorem used_D (e : World) {F : Hp} {d m : Nat} {x : Dk} {room : Int} {K : Value → Hp → Prop} (hx : x.ok room) (hr : room ≤ 9223372036854775807) (hK : K (.int .i64 (tot x.l : Int)) (x.hp d m room ++ F)) :
    callsK Try.prog e 20 #[pv d] (x.hp d m room ++ F) K :=
  dused_spec e hx.map hx.fl (by have := hx.tot; omega) hK
set_option maxHeartbeats 4000000 in
set_option maxRecDepth 100000 in
theorem room_D (e : World) {F : Hp} {d m : Nat} {x : Dk} {room : Int} {K : Value → Hp → Prop} (hK : K (.int .i64 room) (x.hp d m room ++ F)) :
    callsK Try.prog e 22 #[pv d] (x.hp d m room ++ F) K := by
  rw [List.append_assoc] at hK ⊢
  exact room_spec e hK
set_option maxHeartbeats 4000000 in
set_option maxRecDepth 100000 in
theorem down_D (e : World) {F : Hp} {d m : Nat} {x : Dk} {room : Int} {K : Value → Hp → Prop} (hK : K (.bool x.down) (x.hp d m room ++ F)) :
    callsK Try.prog e 21 #[pv d] (x.hp d m room ++ F) K := by
  rw [List.append_assoc] at hK ⊢
  exact down_spec e hK
set_option maxHeartbeats 4000000 in
set_option maxRecDepth 100000 in
theorem restart_up (s : DS) : (s.restart).2.down = false ∧ (s.restart).2.L = s.L := by
  unfold DS.restart
  split
  · exact ⟨rfl, rfl⟩
  · rename_i h
    exact ⟨by simpa using h, rfl⟩
open Classical in
noncomputable def lookA (L : List Ab) (n : ByteArray) : List UInt8 × Int × Bool :=
  if ¬ okN n then ([], 0, false) else match L.find? (fun a => decide (a.1 = n)) with
  | none => ([], 0, false)
  | some a => (a.2.1, a.2.2, true)
set_option maxHeartbeats 4000000 in
set_option maxRecDepth 100000 in
theorem lookA_perm {L M : List Ab} (h : L.Perm M) (hn : NamesA L) (n : ByteArray) : lookA L n = lookA M n := by
  unfold lookA
  rw [find_perm h hn]
set_option maxHeartbeats 4000000 in
set_option maxRecDepth 100000 in
theorem look_read {s : DS} {L : List Ab} (h : s.down = false) (hp : L.Perm s.L) (hn : NamesA L) (n : ByteArray) : (readA s n).1 = (lookA L n).1 ∧ (sizeA s n).2.1 = (lookA L n).2.1 ∧ decide ((readA s n).2 = 0) = (lookA L n).2.2 := by
  rw [lookA_perm hp hn]
  unfold readA sizeA lookA
  rw [h]
  simp only [Bool.false_eq_true, if_false]
  by_cases h2 : okN n
  · rw [if_neg (by simpa using h2), if_neg (by simpa using h2), if_neg (by simpa using h2)]
    split <;> simp
  · rw [if_pos h2, if_pos h2, if_pos h2]
    simp
set_option maxHeartbeats 4000000 in
set_option maxRecDepth 100000 in
theorem look_D (e : World) {s : ByteArray} {F : Hp} {d m : Nat} {x : Dk} {room : Int} {K : Value → Hp → Prop} (hx : x.ok room) (hb : tot x.l ≤ 140737488355328)
    (hK : ∀ v B, BytO v (lookA x.ds.L s).1 B → K (.tuple #[v, .int .i64 (lookA x.ds.L s).2.1, .bool (lookA x.ds.L s).2.2]) (B ++ (x.hp d m room ++ F))) :
    callsK Try.prog e 19 #[pv d, .string s] (x.hp d m room ++ F) K := by
  refine calls_body (N := 36) (args := [pv d, .string s]) Try.func19 rfl rfl rfl (by simp) ?_
  repeat' ((fail_if_success (show wpO _ _ _ (⟨_, .call ⟨.value (.func 29), _, _⟩, _, _, _, _⟩ :: _) _ _ _)); first | (show wpO _ _ _ _ _ _ _; first | refine wpO_nil ?_ | (show wpO _ _ _ (⟨_, .binOp _ _ _ _ _, _, _, _, _⟩ :: _) _ _ _; first | refine s_tt ?_ | refine s_ff ?_ | refine s_rdp ?_ | (refine s_cmp (fun _ => ?_) (fun _ => ?_) <;> (first | (exfalso; omega) | contradiction | skip)) | (refine s_cb (fun _ => ?_) (fun _ => ?_) <;> (first | (exfalso; omega) | contradiction | skip))) | refine s_rdp ?_ | refine s_rdm ?_ | refine s_exq ?_ | refine s_exm ?_) | (show Ex _ _ _ _ _; first | (show Ex _ ⟨_, .call ⟨.value (.func _), _, _⟩, _, _, _, _⟩ _ _ _; refine e_call ?_; first | (apply p_pcs; apply clone_D _ hx hb; (try case hS => assumption); (case hpcs => (repeat (first | exact Pcs.blk (by infer_instance) | exact Pcs.nil | (apply Pcs.cons; infer_instance) | apply Pcs.app)))))) | (show wpC _ _ _ _ _ _; first | refine wpC_seq ?_ | refine wpC_region ?_ | refine c_true ?_ | refine c_false ?_ | (refine c_b (fun _ => ?_) (fun _ => ?_) <;> (first | (exfalso; omega) | contradiction | skip)) | refine wpC_ret ?_ | refine wpC_skip ?_ | refine wpC_label ?_) | (show Then _ _ _ _ _ _ _; first | refine then_normal ?_ | refine then_ret ?_) | (show RetP _ _ _ _ _ _ _ _; first | refine r_3 ?_) | assumption | intro _)
  rename_i c m2 y hy hyE
  have hty : tot y.l = tot x.l := by rw [tot_totA, tot_totA]; exact totA_perm hyE.L
  repeat' ((fail_if_success (show wpO _ _ _ (⟨_, .call ⟨.value (.func 17), _, _⟩, _, _, _, _⟩ :: _) _ _ _)); first | (show wpO _ _ _ _ _ _ _; first | refine wpO_nil ?_ | (show wpO _ _ _ (⟨_, .binOp _ _ _ _ _, _, _, _, _⟩ :: _) _ _ _; first | refine s_tt ?_ | refine s_ff ?_ | refine s_rdp ?_ | (refine s_cmp (fun _ => ?_) (fun _ => ?_) <;> (first | (exfalso; omega) | contradiction | skip)) | (refine s_cb (fun _ => ?_) (fun _ => ?_) <;> (first | (exfalso; omega) | contradiction | skip))) | refine s_rdp ?_ | refine s_rdm ?_ | refine s_exq ?_ | refine s_exm ?_) | (show Ex _ _ _ _ _; first | (show Ex _ ⟨_, .call ⟨.value (.func _), _, _⟩, _, _, _, _⟩ _ _ _; refine e_call ?_; first | (apply p_pcs; apply restart_D _ hy; (try case hS => assumption); (case hpcs => (repeat (first | exact Pcs.blk (by infer_instance) | exact Pcs.nil | (apply Pcs.cons; infer_instance) | apply Pcs.app)))))) | (show wpC _ _ _ _ _ _; first | refine wpC_seq ?_ | refine wpC_region ?_ | refine c_true ?_ | refine c_false ?_ | (refine c_b (fun _ => ?_) (fun _ => ?_) <;> (first | (exfalso; omega) | contradiction | skip)) | refine wpC_ret ?_ | refine wpC_skip ?_ | refine wpC_label ?_) | (show Then _ _ _ _ _ _ _; first | refine then_normal ?_ | refine then_ret ?_) | (show RetP _ _ _ _ _ _ _ _; first | refine r_3 ?_) | assumption | intro _)
  rename_i z hz hzE
  obtain ⟨hu1, hu2⟩ := restart_up y.ds
  have hzd : z.ds.down = false := by rw [hzE.down]; exact hu1
  have hzL : x.ds.L.Perm z.ds.L := by
    have := hzE.L
    rw [hu2] at this
    exact (this.trans hyE.L).symm
  have htz : tot z.l ≤ 140737488355328 := by rw [tot_totA, ← totA_perm hzL, ← tot_totA]; exact hb
  obtain ⟨e1, e2, e3⟩ := look_read hzd hzL hx.s.names s
  repeat' (first | (show wpO _ _ _ _ _ _ _; first | refine wpO_nil ?_ | (show wpO _ _ _ (⟨_, .binOp _ _ _ _ _, _, _, _, _⟩ :: _) _ _ _; first | refine s_tt ?_ | refine s_ff ?_ | refine s_rdp ?_ | (refine s_cmp (fun _ => ?_) (fun _ => ?_) <;> (first | (exfalso; omega) | contradiction | skip)) | (refine s_cb (fun _ => ?_) (fun _ => ?_) <;> (first | (exfalso; omega) | contradiction | skip))) | refine s_rdp ?_ | refine s_rdm ?_ | refine s_exq ?_ | refine s_exm ?_) | (show Ex _ _ _ _ _; first | (show Ex _ ⟨_, .call ⟨.value (.func _), _, _⟩, _, _, _, _⟩ _ _ _; refine e_call ?_; first | (apply p_pcs; apply read_D _ hz htz; (try case hS => assumption); (case hpcs => (repeat (first | exact Pcs.blk (by infer_instance) | exact Pcs.nil | (apply Pcs.cons; infer_instance) | apply Pcs.app)))) | (apply p_pcs; apply size_D _ hz htz; (try case hS => assumption); (case hpcs => (repeat (first | exact Pcs.blk (by infer_instance) | exact Pcs.nil | (apply Pcs.cons; infer_instance) | apply Pcs.app)))))) | (show wpC _ _ _ _ _ _; first | refine wpC_seq ?_ | refine wpC_region ?_ | refine c_true ?_ | refine c_false ?_ | (refine c_b (fun _ => ?_) (fun _ => ?_) <;> (first | (exfalso; omega) | contradiction | skip)) | refine wpC_ret ?_ | refine wpC_skip ?_ | refine wpC_label ?_) | (show Then _ _ _ _ _ _ _; first | refine then_normal ?_ | refine then_ret ?_) | (show RetP _ _ _ _ _ _ _ _; first | refine r_3 ?_) | assumption | intro _)
  · rename_i v B hB h0
    rw [e1] at hB
    refine q_dropE (hK v B hB) ?_
    rw [e2, ← e3, decide_eq_true h0]
  · rename_i v B hB h0
    rw [e1] at hB
    refine q_dropE (hK v B hB) ?_
    rw [e2, ← e3, decide_eq_false h0]
end Go.Vl
