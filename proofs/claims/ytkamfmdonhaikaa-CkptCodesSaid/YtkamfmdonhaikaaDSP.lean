/-
  DiskStays, the plain law: an error changes nothing; what is synced stays.
-/
import Derived.Test.YtkamfmdonhaikaaDC
namespace Go.Vl
open Go.Proofs
set_option maxHeartbeats 4000000 in
set_option maxRecDepth 100000 in
theorem chg_one {s : DS} {L : List Ab} (h : (s.chg L).1 ≠ 0) : (s.chg L).1 = 7 := by
  unfold DS.chg at h ⊢
  split
  · rfl
  · rename_i h1
    rw [if_neg h1] at h
    exact absurd rfl h
set_option maxHeartbeats 4000000 in
set_option maxRecDepth 100000 in
theorem append_err {room : Int} {s : DS} {n : ByteArray} {bs : List UInt8} (h : (s.append room n bs).1 ≠ 0) (h7 : ¬ ((s.append room n bs).1 = 7 ∧ s.down = false)) : (s.append room n bs).2 = s := by
  unfold DS.append at h h7 ⊢
  by_cases h1 : s.down = true
  · rw [if_pos h1]
  · rw [if_neg h1] at h h7 ⊢
    by_cases h2 : ¬ okN n
    · rw [if_pos h2]
    · rw [if_neg h2] at h h7 ⊢
      by_cases h3 : ¬ hasA s.L n ∧ 1024 ≤ s.L.length
      · rw [if_pos h3]
      · rw [if_neg h3] at h h7 ⊢
        by_cases h4 : room < (bs.length : Int) + totA s.L
        · rw [if_pos h4]
        · rw [if_neg h4] at h h7 ⊢
          exact absurd ⟨chg_one h, by simpa using h1⟩ h7
set_option maxHeartbeats 4000000 in
set_option maxRecDepth 100000 in
theorem there_err {s : DS} {ok : Prop} {n : ByteArray} {L : List Ab} (h : (s.there ok n L).1 ≠ 0) (h7 : ¬ ((s.there ok n L).1 = 7 ∧ s.down = false)) : (s.there ok n L).2 = s := by
  unfold DS.there at h h7 ⊢
  by_cases h1 : s.down = true
  · rw [if_pos h1]
  · rw [if_neg h1] at h h7 ⊢
    by_cases h2 : ¬ ok
    · rw [if_pos h2]
    · rw [if_neg h2] at h h7 ⊢
      by_cases h3 : ¬ hasA s.L n
      · rw [if_pos h3]
      · rw [if_neg h3] at h h7 ⊢
        exact absurd ⟨chg_one h, by simpa using h1⟩ h7
set_option maxHeartbeats 4000000 in
set_option maxRecDepth 100000 in
theorem run_err {room : Int} {s : DS} {o : OpD} (h : (s.run room o).1 ≠ 0) (h7 : ¬ ((s.run room o).1 = 7 ∧ s.down = false)) : (s.run room o).2 = s := by
  unfold DS.run at h h7 ⊢
  by_cases h0 : o.kind = 0
  · rw [if_pos h0] at h h7 ⊢; exact append_err h h7
  rw [if_neg h0] at h h7 ⊢
  by_cases h0 : o.kind = 1
  · rw [if_pos h0] at h h7 ⊢; exact there_err h h7
  rw [if_neg h0] at h h7 ⊢
  by_cases h0 : o.kind = 3
  · rw [if_pos h0] at h h7 ⊢; exact there_err h h7
  rw [if_neg h0] at h h7 ⊢
  by_cases h0 : o.kind = 4
  · rw [if_pos h0] at h h7 ⊢; exact there_err h h7
  rw [if_neg h0] at h h7 ⊢
  by_cases h0 : o.kind = 6
  · rw [if_pos h0] at h h7 ⊢
    unfold DS.setFuse at h h7 ⊢
    by_cases h1 : o.k < 0 ∨ o.keep < 0
    · rw [if_pos h1]
    · rw [if_neg h1] at h h7 ⊢
      by_cases h2 : s.down = true
      · rw [if_pos h2]
      · rw [if_neg h2] at h; exact absurd rfl h
  rw [if_neg h0] at h h7 ⊢
  by_cases h0 : o.kind = 7
  · rw [if_pos h0] at h h7 ⊢
    unfold DS.crash at h h7 ⊢
    by_cases h1 : o.keep < 0
    · rw [if_pos h1]
    · rw [if_neg h1] at h h7 ⊢
      by_cases h2 : s.down = true
      · rw [if_pos h2]
      · rw [if_neg h2] at h; exact absurd rfl h
  rw [if_neg h0] at h h7 ⊢
  by_cases h0 : o.kind = 8
  · rw [if_pos h0] at h h7 ⊢
    unfold DS.restart at h h7 ⊢
    by_cases h1 : s.down = true
    · rw [if_pos h1] at h; exact absurd rfl h
    · rw [if_neg h1]
  rw [if_neg h0]
structure Grows (a b : Ab) : Prop where
  nm : b.1 = a.1
  syn : a.2.2 ≤ b.2.2
  len : a.2.2 ≤ b.2.1.length
  pre : b.2.1.take a.2.2 = a.2.1.take a.2.2
set_option maxHeartbeats 4000000 in
set_option maxRecDepth 100000 in
theorem Grows.rfl {a : Ab} (h : a.2.2 ≤ a.2.1.length) : Grows a a := ⟨by simp, Nat.le_refl _, h, by simp⟩
set_option maxHeartbeats 4000000 in
set_option maxRecDepth 100000 in
theorem Grows.trans {a b c : Ab} (h : Grows a b) (g : Grows b c) : Grows a c := by
  refine ⟨g.nm.trans h.nm, Nat.le_trans h.syn g.syn, Nat.le_trans h.syn g.len, ?_⟩
  have h1 := congrArg (List.take a.2.2) g.pre
  rw [List.take_take, List.take_take, Nat.min_eq_left h.syn] at h1
  rw [h1, h.pre]
set_option maxHeartbeats 4000000 in
set_option maxRecDepth 100000 in
theorem grows_fell {a : Ab} (k : Nat) (h : a.2.2 ≤ a.2.1.length) : Grows a (fell k a) := by
  refine ⟨by simp [fell], by simp only [fell]; omega, by simp only [fell, List.length_take]; omega, ?_⟩
  simp only [fell, List.take_take]
  congr 1
  omega
set_option maxHeartbeats 4000000 in
set_option maxRecDepth 100000 in
theorem grows_syn {a : Ab} (n : ByteArray) (h : a.2.2 ≤ a.2.1.length) : Grows a (synA n a) := by
  unfold synA
  split
  · exact ⟨by simp, h, h, by simp⟩
  · exact .rfl h
set_option maxHeartbeats 4000000 in
set_option maxRecDepth 100000 in
theorem grows_appd {n : ByteArray} {bs : List UInt8} {a : Ab} : ∀ {L : List Ab}, a ∈ L → a.2.2 ≤ a.2.1.length → ∃ b ∈ appd L n bs, Grows a b ∧ (b.2.2 ≤ b.2.1.length)
  | x :: L, ha, h => by
    unfold appd
    split
    · rcases List.mem_cons.1 ha with rfl | ha
      · refine ⟨_, List.mem_cons_self, ⟨by simp, Nat.le_refl _, by simp only [List.length_append]; omega, ?_⟩, by simp only [List.length_append]; omega⟩
        rw [List.take_append_of_le_length h]
      · exact ⟨a, List.mem_cons_of_mem _ ha, .rfl h, h⟩
    · rcases List.mem_cons.1 ha with rfl | ha
      · exact ⟨a, List.mem_cons_self, .rfl h, h⟩
      · obtain ⟨b, hb, h1⟩ := grows_appd ha h
        exact ⟨b, List.mem_cons_of_mem _ hb, h1⟩
set_option maxHeartbeats 4000000 in
set_option maxRecDepth 100000 in
theorem grows_chg {s : DS} {L : List Ab} {a : Ab} (ha : a ∈ s.L) (h : a.2.2 ≤ a.2.1.length) (hL : ∃ b ∈ L, Grows a b) : ∃ b ∈ (s.chg L).2.L, Grows a b := by
  unfold DS.chg
  split
  · exact ⟨fell s.keep a, List.mem_map.2 ⟨a, ha, rfl⟩, grows_fell _ h⟩
  · exact hL
set_option maxHeartbeats 4000000 in
set_option maxRecDepth 100000 in
theorem grows_there {s : DS} {L : List Ab} {a : Ab} {ok : Prop} {n : ByteArray} (ha : a ∈ s.L) (h : a.2.2 ≤ a.2.1.length) (hL : ∃ b ∈ L, Grows a b) : ∃ b ∈ (s.there ok n L).2.L, Grows a b := by
  unfold DS.there
  split; exact ⟨a, ha, .rfl h⟩
  split; exact ⟨a, ha, .rfl h⟩
  split; exact ⟨a, ha, .rfl h⟩
  exact grows_chg ha h hL
set_option maxHeartbeats 4000000 in
set_option maxRecDepth 100000 in
theorem run_grows {room : Int} {s : DS} {o : OpD} {a : Ab} (hs : ∀ a ∈ s.L, a.2.2 ≤ a.2.1.length) (ha : a ∈ s.L) (h3 : ¬ (o.kind = 3 ∧ o.nm = a.1)) (h4 : ¬ (o.kind = 4 ∧ (o.nm = a.1 ∨ o.to = a.1))) : ∃ b ∈ (s.run room o).2.L, Grows a b := by
  have h := hs a ha
  unfold DS.run
  split
  · unfold DS.append
    split; exact ⟨a, ha, .rfl h⟩
    split; exact ⟨a, ha, .rfl h⟩
    split; exact ⟨a, ha, .rfl h⟩
    split; exact ⟨a, ha, .rfl h⟩
    obtain ⟨b, hb, hg, hb2⟩ := grows_appd (n := o.nm) (bs := o.bs) ha h
    obtain ⟨c, hc, hg2⟩ := grows_chg (s := ⟨appd s.L o.nm o.bs, s.left, s.keep, s.down⟩) (L := appd s.L o.nm o.bs) hb hb2 ⟨b, hb, .rfl hb2⟩
    exact ⟨c, hc, hg.trans hg2⟩
  split; exact grows_there ha h ⟨_, List.mem_map.2 ⟨a, ha, rfl⟩, grows_syn _ h⟩
  split
  · rename_i hk
    refine grows_there ha h ⟨a, List.mem_filter.2 ⟨ha, ?_⟩, .rfl h⟩
    have : ¬ a.1 = o.nm := fun he => h3 ⟨hk, he.symm⟩
    simpa using this
  split
  · rename_i hk
    refine grows_there ha h ⟨a, List.mem_append_left _ (List.mem_filter.2 ⟨ha, ?_⟩), .rfl h⟩
    have h5 : ¬ a.1 = o.nm := fun he => h4 ⟨hk, .inl he.symm⟩
    have h6 : ¬ a.1 = o.to := fun he => h4 ⟨hk, .inr he.symm⟩
    simp [h5, h6]
  split
  · unfold DS.setFuse
    split; exact ⟨a, ha, .rfl h⟩
    split; exact ⟨a, ha, .rfl h⟩
    exact ⟨a, ha, .rfl h⟩
  split
  · unfold DS.crash
    split; exact ⟨a, ha, .rfl h⟩
    split; exact ⟨a, ha, .rfl h⟩
    exact ⟨_, List.mem_map.2 ⟨a, ha, rfl⟩, grows_fell _ h⟩
  split
  · unfold DS.restart
    split <;> exact ⟨a, ha, .rfl h⟩
  exact ⟨a, ha, .rfl h⟩
set_option maxHeartbeats 4000000 in
set_option maxRecDepth 100000 in
theorem find_ab {L : List Ab} (hn : NamesA L) {a : Ab} (ha : a ∈ L) : L.find? (fun x => decide (x.1 = a.1)) = some a := by
  induction L with
  | nil => cases ha
  | cons y L ih =>
    unfold NamesA at hn
    rw [List.map_cons, List.nodup_cons] at hn
    rcases List.mem_cons.1 ha with rfl | ha
    · rw [List.find?_cons_of_pos (by simp)]
    · have : ¬ y.1 = a.1 := fun he => hn.1 (List.mem_map.2 ⟨a, ha, he.symm⟩)
      rw [List.find?_cons_of_neg (by simpa using this)]
      exact ih hn.2 ha
set_option maxHeartbeats 4000000 in
set_option maxRecDepth 100000 in
theorem lookA_of {L : List Ab} (hn : NamesA L) {a : Ab} (ha : a ∈ L) (ho : okN a.1) : lookA L a.1 = (a.2.1, (a.2.2 : Int), true) := by
  unfold lookA
  rw [if_neg (by simpa using ho), find_ab hn ha]
set_option maxHeartbeats 4000000 in
set_option maxRecDepth 100000 in
theorem lookA_true {L : List Ab} {n : ByteArray} (h : (lookA L n).2.2 = true) : ∃ a ∈ L, a.1 = n ∧ okN n := by
  unfold lookA at h
  by_cases ho : okN n
  · rw [if_neg (by simpa using ho)] at h
    cases hf : L.find? (fun a => decide (a.1 = n)) with
    | none => rw [hf] at h; cases h
    | some a => exact ⟨a, List.mem_of_find?_eq_some hf, by simpa using List.find?_some hf, ho⟩
  · rw [if_pos ho] at h; cases h
set_option maxHeartbeats 4000000 in
set_option maxRecDepth 100000 in
theorem stays {room : Int} {s t : DS} {o : OpD} {n : ByteArray} (hs : s.ok room) (ht : t.ok room) (hE : t.E (s.run room o).2) (h : (lookA s.L n).2.2 = true) (h3 : ¬ (o.kind = 3 ∧ o.nm = n)) (h4 : ¬ (o.kind = 4 ∧ (o.nm = n ∨ o.to = n))) :
    ∃ (b c : List UInt8) (k m : Nat), lookA s.L n = (b, (k : Int), true) ∧ lookA t.L n = (c, (m : Int), true) ∧ k ≤ b.length ∧ k ≤ c.length ∧ k ≤ m ∧ b.take k = c.take k := by
  obtain ⟨a, ha, rfl, ho⟩ := lookA_true h
  obtain ⟨b, hb, hg⟩ := run_grows (room := room) (o := o) hs.syn ha h3 h4
  have hb2 : b ∈ t.L := hE.L.mem_iff.2 hb
  refine ⟨a.2.1, b.2.1, a.2.2, b.2.2, lookA_of hs.names ha ho, ?_, hs.syn a ha, hg.len, hg.syn, hg.pre.symm⟩
  have := lookA_of ht.names hb2 (by rw [hg.nm]; exact ho)
  rw [hg.nm] at this
  exact this
end Go.Vl
