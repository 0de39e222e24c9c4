/-
  What a disk answers of itself, as of the plain disk; a look at a file.
-/
import Derived.Test.YtkamfmdonhaikaaGreatDB
namespace Go.Vl
open Go.Proofs
attribute [local irreducible] wpC wpO wpD Ex Rd callsK RetP Drop valK
open Classical in
noncomputable def readA (s : DS) (n : ByteArray) : List UInt8 × Int :=
  if s.down = true then ([], 7) else if ¬ okN n then ([], 20) else match s.L.find? (fun a => decide (a.1 = n)) with
  | none => ([], 4)
  | some a => (a.2.1, 0)
open Classical in
noncomputable def sizeA (s : DS) (n : ByteArray) : Int × Int × Int :=
  if s.down = true then (0, 0, 7) else if ¬ okN n then (0, 0, 20) else match s.L.find? (fun a => decide (a.1 = n)) with
  | none => (0, 0, 4)
  | some a => (a.2.1.length, a.2.2, 0)
set_option maxHeartbeats 4000000 in
set_option maxRecDepth 100000 in
theorem readA_E {s t : DS} (h : s.E t) (hn : NamesA s.L) (n : ByteArray) : readA s n = readA t n := by
  unfold readA
  rw [h.down, find_perm h.L hn]
set_option maxHeartbeats 4000000 in
set_option maxRecDepth 100000 in
theorem sizeA_E {s t : DS} (h : s.E t) (hn : NamesA s.L) (n : ByteArray) : sizeA s n = sizeA t n := by
  unfold sizeA
  rw [h.down, find_perm h.L hn]
set_option maxHeartbeats 4000000 in
set_option maxRecDepth 100000 in
theorem find_fl {l : List Fl} {f : Fl} (hn : (l.map fun f => f.nm).Nodup) (hf : f ∈ l) : (l.map Fl.ab).find? (fun a => decide (a.1 = f.nm)) = some f.ab := by
  induction l with
  | nil => cases hf
  | cons y L ih =>
    rw [List.map_cons, List.nodup_cons] at hn
    rcases List.mem_cons.1 hf with rfl | hf
    · rw [List.map_cons, List.find?_cons_of_pos (by simp)]
    · have : ¬ y.nm = f.nm := fun he => hn.1 (List.mem_map.2 ⟨f, hf, he.symm⟩)
      rw [List.map_cons, List.find?_cons_of_neg (by simpa using this)]
      exact ih hn.2 hf
set_option maxHeartbeats 4000000 in
set_option maxRecDepth 100000 in
theorem find_no {l : List Fl} {n : ByteArray} (h : ∀ f ∈ l, f.nm ≠ n) : (l.map Fl.ab).find? (fun a => decide (a.1 = n)) = none := by
  rw [List.find?_eq_none]
  intro a ha
  obtain ⟨f, hf, rfl⟩ := List.mem_map.1 ha
  simpa using h f hf
set_option maxHeartbeats 4000000 in
set_option maxRecDepth 100000 in
theorem read_D (e : World) {s : ByteArray} {F : Hp} {d m : Nat} {x : Dk} {room : Int} {K : Value → Hp → Prop} (hx : x.ok room) (hb : tot x.l ≤ 140737488355328)
    (hK : ∀ v B, BytO v (readA x.ds s).1 B → K (.tuple #[v, .int .i64 (readA x.ds s).2]) (B ++ (x.hp d m room ++ F))) :
    callsK Tryz.prog e 44 #[pv d, .string s] (x.hp d m room ++ F) K := by
  have hnil : ∀ r : Int, readA x.ds s = ([], r) → K (.tuple #[.slice none 0 0, .int .i64 r]) (x.hp d m room ++ F) := fun r hr => by
    rw [hr] at hK
    exact hK (.slice none 0 0) [] (SlO.nil 5 1)
  refine read_spec e hx.map hx.fl hb (fun h => hnil 7 (if_pos h)) (fun h h2 => hnil 20 ?_) (fun h h2 h3 => hnil 4 ?_) (fun f v' B' h h2 hf hn hB => ?_)
  · unfold readA
    rw [if_neg (by simp [h]), if_pos h2]
  · unfold readA
    rw [if_neg (by simp [h]), if_neg (by simpa using h2), find_no h3]
  · have hr : readA x.ds s = (f.bs, 0) := by
      unfold readA
      rw [if_neg (by simp [h]), if_neg (by simpa using h2), ← hn, find_fl hx.names hf]
    rw [hr] at hK
    exact hK v' B' hB
set_option maxHeartbeats 4000000 in
set_option maxRecDepth 100000 in
theorem used_D (e : World) {F : Hp} {d m : Nat} {x : Dk} {room : Int} {K : Value → Hp → Prop} (hx : x.ok room) (hr : room ≤ 9223372036854775807) (hK : K (.int .i64 (tot x.l : Int)) (x.hp d m room ++ F)) :
    callsK Tryz.prog e 8 #[pv d] (x.hp d m room ++ F) K :=
  dused_spec e hx.map hx.fl (by have := hx.tot; omega) hK
set_option maxHeartbeats 4000000 in
set_option maxRecDepth 100000 in
theorem down_D (e : World) {F : Hp} {d m : Nat} {x : Dk} {room : Int} {K : Value → Hp → Prop} (hK : K (.bool x.down) (x.hp d m room ++ F)) :
    callsK Tryz.prog e 10 #[pv d] (x.hp d m room ++ F) K := by
  rw [List.append_assoc] at hK ⊢
  exact down_spec e hK
set_option maxHeartbeats 4000000 in
set_option maxRecDepth 100000 in
theorem restart_up (s : DS) : (s.restart).2.down = false ∧ (s.restart).2.L = s.L := by
  unfold DS.restart
  split
  · exact ⟨rfl, rfl⟩
  · rename_i h
    exact ⟨by simpa using h, rfl⟩
open Classical in
noncomputable def lookA (L : List Ab) (n : ByteArray) : List UInt8 × Int × Bool :=
  if ¬ okN n then ([], 0, false) else match L.find? (fun a => decide (a.1 = n)) with
  | none => ([], 0, false)
  | some a => (a.2.1, a.2.2, true)
set_option maxHeartbeats 4000000 in
set_option maxRecDepth 100000 in
theorem lookA_perm {L M : List Ab} (h : L.Perm M) (hn : NamesA L) (n : ByteArray) : lookA L n = lookA M n := by
  unfold lookA
  rw [find_perm h hn]
set_option maxHeartbeats 4000000 in
set_option maxRecDepth 100000 in
theorem look_read {s : DS} {L : List Ab} (h : s.down = false) (hp : L.Perm s.L) (hn : NamesA L) (n : ByteArray) : (readA s n).1 = (lookA L n).1 ∧ (sizeA s n).2.1 = (lookA L n).2.1 ∧ decide ((readA s n).2 = 0) = (lookA L n).2.2 := by
  rw [lookA_perm hp hn]
  unfold readA sizeA lookA
  rw [h]
  simp only [Bool.false_eq_true, if_false]
  by_cases h2 : okN n
  · rw [if_neg (by simpa using h2), if_neg (by simpa using h2), if_neg (by simpa using h2)]
    split <;> simp
  · rw [if_pos h2, if_pos h2, if_pos h2]
    simp
end Go.Vl
