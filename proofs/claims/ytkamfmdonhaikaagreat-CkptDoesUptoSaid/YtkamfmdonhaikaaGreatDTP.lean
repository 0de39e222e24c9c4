/-
  The plain disk: its names are right; what a crash leaves of a file.
-/
import Derived.Test.YtkamfmdonhaikaaGreatDG
namespace Go.Vl
open Go.Proofs
def NOk (L : List Ab) : Prop := ∀ a ∈ L, okN a.1
set_option maxHeartbeats 4000000 in
set_option maxRecDepth 100000 in
theorem nok_fell {L : List Ab} (h : NOk L) (n : Nat) : NOk (L.map (fell n)) := fun a ha => by
  obtain ⟨x, hx, rfl⟩ := List.mem_map.1 ha
  exact h x hx
set_option maxHeartbeats 4000000 in
set_option maxRecDepth 100000 in
theorem nok_chg {s : DS} {L : List Ab} (h : NOk s.L) (g : NOk L) : NOk (s.chg L).2.L := by
  unfold DS.chg
  split
  · exact nok_fell h _
  · exact g
set_option maxHeartbeats 4000000 in
set_option maxRecDepth 100000 in
theorem nok_appd {n : ByteArray} {bs : List UInt8} (hn : okN n) : ∀ {L : List Ab}, NOk L → NOk (appd L n bs)
  | [], _, a, ha => by
    obtain rfl := List.mem_singleton.1 ha
    exact hn
  | x :: L, h, a, ha => by
    unfold appd at ha
    split at ha
    · rcases List.mem_cons.1 ha with rfl | ha
      · exact h x (by simp)
      · exact h a (by simp [ha])
    · rcases List.mem_cons.1 ha with rfl | ha
      · exact h a (by simp)
      · exact nok_appd hn (fun y hy => h y (by simp [hy])) a ha
set_option maxHeartbeats 4000000 in
set_option maxRecDepth 100000 in
theorem nok_there {s : DS} {ok : Prop} {n : ByteArray} {L : List Ab} (h : NOk s.L) (g : ok → NOk L) : NOk (s.there ok n L).2.L := by
  unfold DS.there
  split; exact h
  split; exact h
  rename_i h2
  split; exact h
  exact nok_chg h (g (by simpa using h2))
set_option maxHeartbeats 4000000 in
set_option maxRecDepth 100000 in
theorem nok_run {room : Int} {s : DS} {o : OpD} (h : NOk s.L) : NOk (s.run room o).2.L := by
  unfold DS.run
  split
  · unfold DS.append
    split; exact h
    split; exact h
    rename_i h2
    have h2' : okN o.nm := by simpa using h2
    split; exact h
    split; exact h
    exact nok_chg (nok_appd h2' h) (nok_appd h2' h)
  split
  · refine nok_there h fun _ a ha => ?_
    obtain ⟨x, hx, rfl⟩ := List.mem_map.1 ha
    have := h x hx
    unfold synA
    split <;> exact this
  split; exact nok_there h fun _ a ha => h a (List.mem_filter.1 ha).1
  split
  · refine nok_there h fun hok a ha => ?_
    rcases List.mem_append.1 ha with ha | ha
    · exact h a (List.mem_filter.1 ha).1
    · obtain ⟨x, hx, rfl⟩ := List.mem_map.1 ha
      exact hok.2
  split
  · unfold DS.setFuse
    split; exact h
    split <;> exact h
  split
  · unfold DS.crash
    split; exact h
    split; exact h
    exact nok_fell h _
  split
  · unfold DS.restart
    split <;> exact h
  exact h
set_option maxHeartbeats 4000000 in
set_option maxRecDepth 100000 in
theorem NOk.perm {L M : List Ab} (h : NOk L) (hp : M.Perm L) : NOk M := fun a ha => h a (hp.mem_iff.1 ha)
def getA (L : List Ab) (n : ByteArray) : Ab := (L.find? fun a => decide (a.1 = n)).getD (n, [], 0)
set_option maxHeartbeats 4000000 in
set_option maxRecDepth 100000 in
theorem getA_rows {L : List Ab} (hn : NamesA L) {ks : List ByteArray} (hp : ks.Perm (L.map Prod.fst)) : ∃ M : List Ab, M.Perm L ∧ M.map Prod.fst = ks := by
  have hL : (L.map Prod.fst).map (getA L) = L := by
    rw [List.map_map]
    conv => rhs; rw [← List.map_id L]
    refine List.map_congr_left fun a ha => ?_
    show (L.find? fun x => decide (x.1 = a.1)).getD _ = _
    rw [find_ab hn ha]
    rfl
  have h1 : (ks.map (getA L)).Perm L := by
    have := hp.map (getA L)
    rwa [hL] at this
  refine ⟨ks.map (getA L), h1, ?_⟩
  rw [List.map_map]
  conv => rhs; rw [← List.map_id ks]
  refine List.map_congr_left fun k hk => ?_
  obtain ⟨a, ha, rfl⟩ := List.mem_map.1 (hp.mem_iff.1 hk)
  show ((L.find? fun x => decide (x.1 = a.1)).getD _).1 = _
  rw [find_ab hn ha]
  rfl
set_option maxHeartbeats 4000000 in
set_option maxRecDepth 100000 in
theorem readA_of {s : DS} (hn : NamesA s.L) {a : Ab} (ha : a ∈ s.L) (ho : okN a.1) (hd : s.down = false) : readA s a.1 = (a.2.1, 0) := by
  unfold readA
  rw [if_neg (by simp [hd]), if_neg (by simpa using ho), find_ab hn ha]
set_option maxHeartbeats 4000000 in
set_option maxRecDepth 100000 in
theorem sizeA_of {s : DS} (hn : NamesA s.L) {a : Ab} (ha : a ∈ s.L) (ho : okN a.1) (hd : s.down = false) : sizeA s a.1 = ((a.2.1.length : Int), (a.2.2 : Int), 0) := by
  unfold sizeA
  rw [if_neg (by simp [hd]), if_neg (by simpa using ho), find_ab hn ha]
set_option maxHeartbeats 4000000 in
set_option maxRecDepth 100000 in
theorem totA_mem {a : Ab} : ∀ {L : List Ab}, a ∈ L → a.2.1.length ≤ totA L
  | x :: L, h => by
    rw [totA_cons]
    rcases List.mem_cons.1 h with rfl | h
    · omega
    · have := totA_mem h; omega
structure Fell (k : Nat) (a : Ab) (xs : List UInt8) : Prop where
  len : xs.length = a.2.2 + min k (a.2.1.length - a.2.2)
  pre : a.2.1.take xs.length = xs
  le : xs.length ≤ a.2.1.length
set_option maxHeartbeats 4000000 in
set_option maxRecDepth 100000 in
theorem fell_of {k : Nat} {a : Ab} (h : a.2.2 ≤ a.2.1.length) : Fell k a (fell k a).2.1 := by
  have h1 : (fell k a).2.1.length = a.2.2 + min k (a.2.1.length - a.2.2) := by simp only [fell, List.length_take]; omega
  refine ⟨h1, ?_, by rw [h1]; omega⟩
  rw [h1]
  rfl
end Go.Vl
