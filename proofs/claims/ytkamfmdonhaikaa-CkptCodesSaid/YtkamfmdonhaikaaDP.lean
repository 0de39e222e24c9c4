/-
  The disk as a plain thing: what each change makes of it. No program in sight.
-/
import Derived.Test.YtkamfmdonhaikaaD8
namespace Go.Vl
open Go.Proofs Classical
structure DS where
  L : List Ab
  left : Int
  keep : Nat
  down : Bool
structure DS.E (s t : DS) : Prop where
  L : s.L.Perm t.L
  left : s.left = t.left
  keep : s.keep = t.keep
  down : s.down = t.down
set_option maxHeartbeats 4000000 in
set_option maxRecDepth 100000 in
theorem DS.E.rfl (s : DS) : DS.E s s := ⟨.refl _, by simp, by simp, by simp⟩
set_option maxHeartbeats 4000000 in
set_option maxRecDepth 100000 in
theorem DS.E.trans {s t u : DS} (h : DS.E s t) (g : DS.E t u) : DS.E s u := ⟨h.L.trans g.L, h.left.trans g.left, h.keep.trans g.keep, h.down.trans g.down⟩
set_option maxHeartbeats 4000000 in
set_option maxRecDepth 100000 in
theorem DS.E.symm {s t : DS} (h : DS.E s t) : DS.E t s := ⟨h.L.symm, h.left.symm, h.keep.symm, h.down.symm⟩
def totA (L : List Ab) : Nat := (L.map fun a => a.2.1.length).sum
set_option maxHeartbeats 4000000 in
set_option maxRecDepth 100000 in
theorem totA_perm {a b : List Ab} (h : a.Perm b) : totA a = totA b := (h.map _).sum_nat
set_option maxHeartbeats 4000000 in
set_option maxRecDepth 100000 in
theorem totA_cons (a : Ab) (L : List Ab) : totA (a :: L) = a.2.1.length + totA L := by simp [totA]
set_option maxHeartbeats 4000000 in
set_option maxRecDepth 100000 in
theorem totA_app (a b : List Ab) : totA (a ++ b) = totA a + totA b := by simp [totA]
set_option maxHeartbeats 4000000 in
set_option maxRecDepth 100000 in
theorem tot_totA (l : List Fl) : tot l = totA (l.map Fl.ab) := tot_ab l
def hasA (L : List Ab) (n : ByteArray) : Prop := ∃ a ∈ L, a.1 = n
set_option maxHeartbeats 4000000 in
set_option maxRecDepth 100000 in
theorem hasA_perm {a b : List Ab} (h : a.Perm b) (n : ByteArray) : hasA a n ↔ hasA b n := by unfold hasA; simp [h.mem_iff]
def NamesA (L : List Ab) : Prop := (L.map Prod.fst).Nodup
set_option maxHeartbeats 4000000 in
set_option maxRecDepth 100000 in
theorem NamesA.perm {a b : List Ab} (h : a.Perm b) (hn : NamesA a) : NamesA b := (h.map _).nodup_iff.1 hn
def synA (n : ByteArray) (a : Ab) : Ab := if a.1 = n then (a.1, a.2.1, a.2.1.length) else a
def renA (L : List Ab) (f t : ByteArray) : List Ab := (L.filter fun a => decide (¬ a.1 = f ∧ ¬ a.1 = t)) ++ (L.filter fun a => decide (a.1 = f)).map fun a => (t, a.2)
def delA (L : List Ab) (n : ByteArray) : List Ab := L.filter fun a => decide (a.1 ≠ n)
def DS.boom (s : DS) (n : Nat) : DS := ⟨s.L.map (fell n), 0, 0, true⟩
def DS.chg (s : DS) (L' : List Ab) : Int × DS := if s.left = 1 then (7, s.boom s.keep) else (0, ⟨L', if s.left = 0 then 0 else s.left - 1, s.keep, s.down⟩)
noncomputable def DS.append (room : Int) (s : DS) (n : ByteArray) (bs : List UInt8) : Int × DS :=
  if s.down = true then (7, s) else if ¬ okN n then (20, s) else if ¬ hasA s.L n ∧ 1024 ≤ s.L.length then (3, s) else if room < (bs.length : Int) + totA s.L then (6, s)
  else (⟨appd s.L n bs, s.left, s.keep, s.down⟩ : DS).chg (appd s.L n bs)
noncomputable def DS.there (s : DS) (ok : Prop) (n : ByteArray) (L' : List Ab) : Int × DS :=
  if s.down = true then (7, s) else if ¬ ok then (20, s) else if ¬ hasA s.L n then (4, s) else s.chg L'
noncomputable def DS.sync (s : DS) (n : ByteArray) : Int × DS := s.there (okN n) n (s.L.map (synA n))
noncomputable def DS.remove (s : DS) (n : ByteArray) : Int × DS := s.there (okN n) n (delA s.L n)
noncomputable def DS.rename (s : DS) (n t : ByteArray) : Int × DS := s.there (okN n ∧ okN t) n (renA s.L n t)
def DS.setFuse (s : DS) (a b : Int) : Int × DS := if a < 0 ∨ b < 0 then (1, s) else if s.down = true then (7, s) else (0, ⟨s.L, a, b.toNat, s.down⟩)
def DS.crash (s : DS) (a : Int) : Int × DS := if a < 0 then (1, s) else if s.down = true then (7, s) else (0, s.boom a.toNat)
def DS.restart (s : DS) : Int × DS := if s.down = true then (0, ⟨s.L, s.left, s.keep, false⟩) else (1, s)
structure OpD where
  kind : Int
  nm : ByteArray
  to : ByteArray
  a : Option Addr
  c : Nat
  bs : List UInt8
  k : Int
  keep : Int
abbrev OpD.v (o : OpD) : Value := .slice o.a o.bs.length o.c
abbrev OpD.cells (o : OpD) : List Value := [.int .i64 o.kind, .string o.nm, .string o.to, o.v, .int .i64 o.k, .int .i64 o.keep]
noncomputable def DS.run (room : Int) (s : DS) (o : OpD) : Int × DS :=
  if o.kind = 0 then s.append room o.nm o.bs else if o.kind = 1 then s.sync o.nm else if o.kind = 3 then s.remove o.nm else if o.kind = 4 then s.rename o.nm o.to
  else if o.kind = 6 then s.setFuse o.k o.keep else if o.kind = 7 then s.crash o.keep else if o.kind = 8 then s.restart else (0, s)

/-! names stay apart; sums -/
set_option maxHeartbeats 4000000 in
set_option maxRecDepth 100000 in
theorem totA_fell (n : Nat) : ∀ L : List Ab, totA (L.map (fell n)) ≤ totA L
  | [] => Nat.le_refl _
  | a :: L => by
    rw [List.map_cons, totA_cons, totA_cons]
    have := totA_fell n L
    have h : (fell n a).2.1.length ≤ a.2.1.length := by simp only [fell, List.length_take]; omega
    omega
set_option maxHeartbeats 4000000 in
set_option maxRecDepth 100000 in
theorem totA_syn (n : ByteArray) : ∀ L : List Ab, totA (L.map (synA n)) = totA L
  | [] => rfl
  | a :: L => by
    rw [List.map_cons, totA_cons, totA_cons, totA_syn n L]
    unfold synA
    split <;> rfl
set_option maxHeartbeats 4000000 in
set_option maxRecDepth 100000 in
theorem totA_filter (p : Ab → Bool) : ∀ L : List Ab, totA (L.filter p) ≤ totA L
  | [] => Nat.le_refl _
  | a :: L => by
    rw [List.filter_cons, totA_cons]
    have := totA_filter p L
    split
    · rw [totA_cons]; omega
    · omega
set_option maxHeartbeats 4000000 in
set_option maxRecDepth 100000 in
theorem totA_appd (n : ByteArray) (bs : List UInt8) : ∀ L : List Ab, totA (appd L n bs) = totA L + bs.length
  | [] => by simp [appd, totA]
  | a :: L => by
    unfold appd
    split
    · rw [totA_cons, totA_cons]; simp; omega
    · rw [totA_cons, totA_cons, totA_appd n bs L]; omega
set_option maxHeartbeats 4000000 in
set_option maxRecDepth 100000 in
theorem totA_ren (f t : ByteArray) : ∀ L : List Ab, totA (renA L f t) ≤ totA L
  | [] => Nat.le_refl _
  | a :: L => by
    have ih := totA_ren f t L
    unfold renA at ih ⊢
    rw [totA_app] at ih ⊢
    rw [totA_cons, List.filter_cons, List.filter_cons]
    by_cases h1 : a.1 = f
    · simp only [h1, not_true_eq_false, false_and, decide_false, Bool.false_eq_true, if_false, decide_true, if_true, List.map_cons, totA_cons]
      omega
    · by_cases h2 : a.1 = t
      · simp only [h2, not_true_eq_false, and_false, decide_false, Bool.false_eq_true, if_false]
        have : ¬ t = f := fun h => h1 (h2.trans h)
        simp only [this, decide_false, Bool.false_eq_true, if_false]
        omega
      · simp only [h1, h2, not_false_eq_true, and_self, decide_true, if_true, decide_false, Bool.false_eq_true, if_false, totA_cons]
        omega
set_option maxHeartbeats 4000000 in
set_option maxRecDepth 100000 in
theorem names_fell (n : Nat) (L : List Ab) : (L.map (fell n)).map Prod.fst = L.map Prod.fst := by simp [Function.comp_def, fell]
set_option maxHeartbeats 4000000 in
set_option maxRecDepth 100000 in
theorem names_syn (n : ByteArray) (L : List Ab) : (L.map (synA n)).map Prod.fst = L.map Prod.fst := by
  rw [List.map_map]
  refine List.map_congr_left fun a _ => ?_
  simp only [Function.comp_apply, synA]
  split <;> rfl
/-! the order does not matter -/
set_option maxHeartbeats 4000000 in
set_option maxRecDepth 100000 in
theorem appd_perm' {L : List Ab} {n : ByteArray} {bs : List UInt8} (hn : NamesA L) : (appd L n bs).Perm ((n, (L.find? fun a => decide (a.1 = n)).elim bs (fun a => a.2.1 ++ bs), (L.find? fun a => decide (a.1 = n)).elim 0 (fun a => a.2.2)) :: delA L n) := by
  induction L with
  | nil => exact .refl _
  | cons a L ih =>
    unfold NamesA at hn
    rw [List.map_cons, List.nodup_cons] at hn
    unfold appd delA
    by_cases h : a.1 = n
    · subst h
      have hd : L.filter (fun x => decide (x.1 ≠ a.1)) = L := List.filter_eq_self.2 fun x hx => by
        have : x.1 ≠ a.1 := fun he => hn.1 (List.mem_map.2 ⟨x, hx, he⟩)
        simpa using this
      rw [if_pos rfl, List.filter_cons_of_neg (by simp), hd, List.find?_cons_of_pos (by simp)]
      exact .refl _
    · rw [if_neg h, List.filter_cons_of_pos (by simpa using h), List.find?_cons_of_neg (by simpa using h)]
      exact ((ih hn.2).cons a).trans (.swap _ _ _)
set_option maxHeartbeats 4000000 in
set_option maxRecDepth 100000 in
theorem find_perm {L M : List Ab} (h : L.Perm M) (hn : NamesA L) (n : ByteArray) : L.find? (fun a => decide (a.1 = n)) = M.find? (fun a => decide (a.1 = n)) := by
  cases hf : L.find? (fun a => decide (a.1 = n)) with
  | none =>
    symm
    rw [List.find?_eq_none] at hf ⊢
    exact fun a ha => hf a (h.mem_iff.2 ha)
  | some a =>
    have ha := List.mem_of_find?_eq_some hf
    have han : a.1 = n := by simpa using List.find?_some hf
    cases hg : M.find? (fun a => decide (a.1 = n)) with
    | none =>
      rw [List.find?_eq_none] at hg
      exact absurd (by simpa using han) (hg a (h.mem_iff.1 ha))
    | some b =>
      have hb := h.mem_iff.2 (List.mem_of_find?_eq_some hg)
      have hbn : b.1 = n := by simpa using List.find?_some hg
      have : ∀ {K : List Ab}, (K.map Prod.fst).Nodup → a ∈ K → b ∈ K → a = b := by
        intro K
        induction K with
        | nil => intro _ h; cases h
        | cons x K ih =>
          intro hn ha hb
          rw [List.map_cons, List.nodup_cons] at hn
          rcases List.mem_cons.1 ha with hax | ha
          · rcases List.mem_cons.1 hb with hbx | hb
            · exact hax.trans hbx.symm
            · exact absurd (List.mem_map.2 ⟨b, hb, hbn.trans (han.symm.trans (by rw [hax]))⟩) hn.1
          · rcases List.mem_cons.1 hb with hbx | hb
            · exact absurd (List.mem_map.2 ⟨a, ha, han.trans (hbn.symm.trans (by rw [hbx]))⟩) hn.1
            · exact ih hn.2 ha hb
      rw [this hn ha hb]
set_option maxHeartbeats 4000000 in
set_option maxRecDepth 100000 in
theorem appd_perm {L M : List Ab} (h : L.Perm M) (hn : NamesA L) (n : ByteArray) (bs : List UInt8) : (appd L n bs).Perm (appd M n bs) := by
  refine (appd_perm' hn).trans (.trans ?_ (appd_perm' (hn.perm h)).symm)
  rw [find_perm h hn]
  exact (h.filter _).cons _
set_option maxHeartbeats 4000000 in
set_option maxRecDepth 100000 in
theorem appd_names {L : List Ab} (hn : NamesA L) (n : ByteArray) (bs : List UInt8) : NamesA (appd L n bs) := by
  refine NamesA.perm (appd_perm' hn).symm ?_
  unfold NamesA delA
  rw [List.map_cons, List.nodup_cons]
  refine ⟨fun h => ?_, List.Nodup.sublist (List.filter_sublist.map _) hn⟩
  obtain ⟨a, ha, he⟩ := List.mem_map.1 h
  have := (List.mem_filter.1 ha).2
  simp only [decide_eq_true_eq] at this
  exact this he
set_option maxHeartbeats 4000000 in
set_option maxRecDepth 100000 in
theorem renA_perm {L M : List Ab} (h : L.Perm M) (f t : ByteArray) : (renA L f t).Perm (renA M f t) := (h.filter _).append ((h.filter _).map _)
set_option maxHeartbeats 4000000 in
set_option maxRecDepth 100000 in
theorem delA_names {L : List Ab} (hn : NamesA L) (n : ByteArray) : NamesA (delA L n) := List.Nodup.sublist (List.filter_sublist.map _) hn
set_option maxHeartbeats 4000000 in
set_option maxRecDepth 100000 in
theorem renA_names {L : List Ab} (hn : NamesA L) (f t : ByteArray) : NamesA (renA L f t) := by
  unfold NamesA renA
  rw [List.map_append, List.nodup_append]
  refine ⟨List.Nodup.sublist (List.filter_sublist.map _) hn, ?_, ?_⟩
  · have h1 : ∀ K : List Ab, (K.map Prod.fst).Nodup → (((K.filter fun a => decide (a.1 = f)).map fun a => ((t, a.2) : Ab)).map Prod.fst).Nodup := by
      intro K
      induction K with
      | nil => intro _; simp
      | cons a K ih =>
        intro hk
        rw [List.map_cons, List.nodup_cons] at hk
        by_cases h : a.1 = f
        · have : K.filter (fun x => decide (x.1 = f)) = [] := List.filter_eq_nil_iff.2 fun x hx => by
            have : x.1 ≠ f := fun he => hk.1 (List.mem_map.2 ⟨x, hx, he.trans h.symm⟩)
            simpa using this
          rw [List.filter_cons_of_pos (by simpa using h), this]
          simp
        · rw [List.filter_cons_of_neg (by simpa using h)]
          exact ih hk.2
    exact h1 L hn
  · intro a ha b hb he
    subst he
    obtain ⟨x, hx, rfl⟩ := List.mem_map.1 ha
    rw [List.map_map] at hb
    obtain ⟨y, hy, hye⟩ := List.mem_map.1 hb
    have := (List.mem_filter.1 hx).2
    simp only [decide_eq_true_eq] at this
    exact this.2 hye.symm
set_option maxHeartbeats 4000000 in
set_option maxRecDepth 100000 in
theorem DS.chg_E {s t : DS} (h : s.E t) {L M : List Ab} (hp : L.Perm M) : (s.chg L).1 = (t.chg M).1 ∧ (s.chg L).2.E (t.chg M).2 := by
  unfold DS.chg DS.boom
  rw [h.left, h.keep, h.down]
  split
  · exact ⟨rfl, (h.L.map _), rfl, rfl, rfl⟩
  · exact ⟨rfl, hp, rfl, rfl, rfl⟩
set_option maxHeartbeats 4000000 in
set_option maxRecDepth 100000 in
theorem DS.append_E {room : Int} {s t : DS} (h : s.E t) (hn : NamesA s.L) (n : ByteArray) (bs : List UInt8) : (s.append room n bs).1 = (t.append room n bs).1 ∧ (s.append room n bs).2.E (t.append room n bs).2 := by
  unfold DS.append
  have h1 := hasA_perm h.L n
  rw [totA_perm h.L, h.L.length_eq, propext h1]
  have hd := h.down
  rw [← hd]
  split
  · exact ⟨rfl, h⟩
  · split
    · exact ⟨rfl, h⟩
    · split
      · exact ⟨rfl, h⟩
      · split
        · exact ⟨rfl, h⟩
        · exact DS.chg_E (s := ⟨appd s.L n bs, s.left, s.keep, s.down⟩) (t := ⟨appd t.L n bs, t.left, t.keep, s.down⟩) ⟨appd_perm h.L hn n bs, h.left, h.keep, rfl⟩ (appd_perm h.L hn n bs)
set_option maxHeartbeats 4000000 in
set_option maxRecDepth 100000 in
theorem DS.there_E {s t : DS} (h : s.E t) {ok : Prop} {n : ByteArray} {L M : List Ab} (hp : L.Perm M) : (s.there ok n L).1 = (t.there ok n M).1 ∧ (s.there ok n L).2.E (t.there ok n M).2 := by
  unfold DS.there
  have h1 := hasA_perm h.L n
  rw [h.down, propext h1]
  split
  · exact ⟨rfl, h⟩
  · split
    · exact ⟨rfl, h⟩
    · split
      · exact ⟨rfl, h⟩
      · exact DS.chg_E h hp
set_option maxHeartbeats 4000000 in
set_option maxRecDepth 100000 in
theorem DS.sync_E {s t : DS} (h : s.E t) (n : ByteArray) : (s.sync n).1 = (t.sync n).1 ∧ (s.sync n).2.E (t.sync n).2 := DS.there_E h (h.L.map _)
set_option maxHeartbeats 4000000 in
set_option maxRecDepth 100000 in
theorem DS.remove_E {s t : DS} (h : s.E t) (n : ByteArray) : (s.remove n).1 = (t.remove n).1 ∧ (s.remove n).2.E (t.remove n).2 := DS.there_E h (h.L.filter _)
set_option maxHeartbeats 4000000 in
set_option maxRecDepth 100000 in
theorem DS.rename_E {s t : DS} (h : s.E t) (n m : ByteArray) : (s.rename n m).1 = (t.rename n m).1 ∧ (s.rename n m).2.E (t.rename n m).2 := DS.there_E h (renA_perm h.L n m)
set_option maxHeartbeats 4000000 in
set_option maxRecDepth 100000 in
theorem DS.setFuse_E {s t : DS} (h : s.E t) (a b : Int) : (s.setFuse a b).1 = (t.setFuse a b).1 ∧ (s.setFuse a b).2.E (t.setFuse a b).2 := by
  unfold DS.setFuse
  rw [h.down]
  split
  · exact ⟨rfl, h⟩
  · split
    · exact ⟨rfl, h⟩
    · exact ⟨rfl, h.L, rfl, rfl, rfl⟩
set_option maxHeartbeats 4000000 in
set_option maxRecDepth 100000 in
theorem DS.crash_E {s t : DS} (h : s.E t) (a : Int) : (s.crash a).1 = (t.crash a).1 ∧ (s.crash a).2.E (t.crash a).2 := by
  unfold DS.crash
  rw [h.down]
  split
  · exact ⟨rfl, h⟩
  · split
    · exact ⟨rfl, h⟩
    · exact ⟨rfl, h.L.map _, rfl, rfl, rfl⟩
set_option maxHeartbeats 4000000 in
set_option maxRecDepth 100000 in
theorem DS.restart_E {s t : DS} (h : s.E t) : (s.restart).1 = (t.restart).1 ∧ (s.restart).2.E (t.restart).2 := by
  unfold DS.restart
  rw [h.down]
  split
  · exact ⟨rfl, h.L, h.left, h.keep, rfl⟩
  · exact ⟨rfl, h⟩
set_option maxHeartbeats 4000000 in
set_option maxRecDepth 100000 in
theorem DS.run_E {room : Int} {s t : DS} (h : s.E t) (hn : NamesA s.L) (o : OpD) : (s.run room o).1 = (t.run room o).1 ∧ (s.run room o).2.E (t.run room o).2 := by
  unfold DS.run
  split; exact DS.append_E h hn _ _
  split; exact DS.sync_E h _
  split; exact DS.remove_E h _
  split; exact DS.rename_E h _ _
  split; exact DS.setFuse_E h _ _
  split; exact DS.crash_E h _
  split; exact DS.restart_E h
  exact ⟨rfl, h⟩
/-- what holds of a disk always -/
structure DS.ok (room : Int) (s : DS) : Prop where
  names : NamesA s.L
  tot : (totA s.L : Int) ≤ room
  len : s.L.length ≤ 1024
  l0 : 0 ≤ s.left
  l1 : s.left ≤ 9223372036854775807
  syn : ∀ a ∈ s.L, a.2.2 ≤ a.2.1.length
set_option maxHeartbeats 4000000 in
set_option maxRecDepth 100000 in
theorem DS.ok.E {room : Int} {s t : DS} (h : s.ok room) (e : s.E t) : t.ok room :=
  ⟨h.names.perm e.L, by rw [← totA_perm e.L]; exact h.tot, by rw [← e.L.length_eq]; exact h.len, by rw [← e.left]; exact h.l0, by rw [← e.left]; exact h.l1, fun a ha => h.syn a (e.L.mem_iff.2 ha)⟩
set_option maxHeartbeats 4000000 in
set_option maxRecDepth 100000 in
theorem fell_syn {n : Nat} {a : Ab} (h : a.2.2 ≤ a.2.1.length) : (fell n a).2.2 ≤ (fell n a).2.1.length := by
  simp only [fell, List.length_take]; omega
set_option maxHeartbeats 4000000 in
set_option maxRecDepth 100000 in
theorem DS.ok.boom {room : Int} {s : DS} (h : s.ok room) (n : Nat) : (s.boom n).ok room := by
  refine ⟨?_, ?_, by simpa [DS.boom] using h.len, Int.le_refl _, by simp [DS.boom], ?_⟩
  · show NamesA (s.L.map (fell n))
    unfold NamesA
    rw [names_fell]
    exact h.names
  · have := totA_fell n s.L
    have h2 := h.tot
    show (totA (s.L.map (fell n)) : Int) ≤ room
    omega
  · intro a ha
    obtain ⟨x, hx, rfl⟩ := List.mem_map.1 ha
    exact fell_syn (h.syn x hx)
set_option maxHeartbeats 4000000 in
set_option maxRecDepth 100000 in
theorem DS.ok.chg {room : Int} {s : DS} (h : s.ok room) {L : List Ab} (hn : NamesA L) (ht : (totA L : Int) ≤ room) (hl : L.length ≤ 1024) (hs : ∀ a ∈ L, a.2.2 ≤ a.2.1.length) : (s.chg L).2.ok room := by
  unfold DS.chg
  have h0 := h.l0
  have h1 := h.l1
  split
  · exact h.boom _
  · refine ⟨hn, ht, hl, ?_, ?_, hs⟩
    · show 0 ≤ (if s.left = 0 then 0 else s.left - 1)
      split <;> omega
    · show (if s.left = 0 then 0 else s.left - 1) ≤ 9223372036854775807
      split <;> omega
set_option maxHeartbeats 4000000 in
set_option maxRecDepth 100000 in
theorem appd_len (n : ByteArray) (bs : List UInt8) : ∀ L : List Ab, (appd L n bs).length = if hasA L n then L.length else L.length + 1
  | [] => by simp [appd, hasA]
  | a :: L => by
    unfold appd
    have hc : hasA (a :: L) n ↔ a.1 = n ∨ hasA L n := by simp [hasA]
    by_cases h : a.1 = n
    · rw [if_pos h, if_pos (hc.2 (.inl h))]; rfl
    · rw [if_neg h, List.length_cons, appd_len n bs L]
      by_cases h2 : hasA L n
      · rw [if_pos h2, if_pos (hc.2 (.inr h2))]; rfl
      · rw [if_neg h2, if_neg (fun h3 => (hc.1 h3).elim h h2)]; rfl
set_option maxHeartbeats 4000000 in
set_option maxRecDepth 100000 in
theorem appd_syn {n : ByteArray} {bs : List UInt8} : ∀ {L : List Ab}, (∀ a ∈ L, a.2.2 ≤ a.2.1.length) → ∀ a ∈ appd L n bs, a.2.2 ≤ a.2.1.length
  | [], _, a, ha => by
    obtain rfl := List.mem_singleton.1 ha
    exact Nat.zero_le _
  | x :: L, h, a, ha => by
    unfold appd at ha
    split at ha
    · rcases List.mem_cons.1 ha with rfl | ha
      · have := h x (by simp)
        simp only [List.length_append]; omega
      · exact h a (by simp [ha])
    · rcases List.mem_cons.1 ha with rfl | ha
      · exact h a (by simp)
      · exact appd_syn (fun y hy => h y (by simp [hy])) a ha
set_option maxHeartbeats 4000000 in
set_option maxRecDepth 100000 in
theorem DS.ok.append {room : Int} {s : DS} (h : s.ok room) (n : ByteArray) (bs : List UInt8) : (s.append room n bs).2.ok room := by
  unfold DS.append
  split; exact h
  split; exact h
  split; exact h
  rename_i h3
  split; exact h
  have ht : (totA (appd s.L n bs) : Int) ≤ room := by rw [totA_appd]; omega
  have hl : (appd s.L n bs).length ≤ 1024 := by
    rw [appd_len]
    have := h.len
    split
    · omega
    · have : ¬ 1024 ≤ s.L.length := fun h4 => h3 ⟨by assumption, h4⟩
      omega
  exact DS.ok.chg (s := ⟨appd s.L n bs, s.left, s.keep, s.down⟩) ⟨appd_names h.names n bs, ht, hl, h.l0, h.l1, appd_syn h.syn⟩ (appd_names h.names n bs) ht hl (appd_syn h.syn)
set_option maxHeartbeats 4000000 in
set_option maxRecDepth 100000 in
theorem DS.ok.there {room : Int} {s : DS} (h : s.ok room) {ok : Prop} {n : ByteArray} {L : List Ab} (hn : NamesA L) (ht : totA L ≤ totA s.L) (hl : L.length ≤ s.L.length) (hs : ∀ a ∈ L, a.2.2 ≤ a.2.1.length) : (s.there ok n L).2.ok room := by
  unfold DS.there
  have := h.tot
  have := h.len
  split; exact h
  split; exact h
  split; exact h
  exact h.chg hn (by omega) (by omega) hs
set_option maxHeartbeats 4000000 in
set_option maxRecDepth 100000 in
theorem ren_len (f t : ByteArray) : ∀ L : List Ab, (renA L f t).length ≤ L.length
  | [] => Nat.le_refl _
  | a :: L => by
    have ih := ren_len f t L
    unfold renA at ih ⊢
    simp only [List.length_append, List.length_map, List.length_cons] at ih ⊢
    rw [List.filter_cons, List.filter_cons]
    by_cases h1 : a.1 = f
    · simp only [h1, not_true_eq_false, false_and, decide_false, Bool.false_eq_true, if_false, decide_true, if_true, List.length_cons]
      omega
    · by_cases h2 : a.1 = t
      · have : ¬ t = f := fun h => h1 (h2.trans h)
        simp only [h2, this, not_true_eq_false, and_false, decide_false, Bool.false_eq_true, if_false]
        omega
      · simp only [h1, h2, not_false_eq_true, and_self, decide_true, if_true, decide_false, Bool.false_eq_true, if_false, List.length_cons]
        omega
set_option maxHeartbeats 4000000 in
set_option maxRecDepth 100000 in
theorem ren_syn {f t : ByteArray} {L : List Ab} (h : ∀ a ∈ L, a.2.2 ≤ a.2.1.length) : ∀ a ∈ renA L f t, a.2.2 ≤ a.2.1.length := by
  intro a ha
  unfold renA at ha
  rcases List.mem_append.1 ha with ha | ha
  · exact h a (List.mem_filter.1 ha).1
  · obtain ⟨x, hx, rfl⟩ := List.mem_map.1 ha
    exact h x (List.mem_filter.1 hx).1
set_option maxHeartbeats 4000000 in
set_option maxRecDepth 100000 in
theorem DS.ok.run {room : Int} {s : DS} (h : s.ok room) (o : OpD) (hk : o.k ≤ 9223372036854775807) : (s.run room o).2.ok room := by
  unfold DS.run
  split; exact h.append _ _
  split
  · refine h.there ?_ (Nat.le_of_eq (totA_syn _ _)) (by simp) ?_
    · unfold NamesA; rw [names_syn]; exact h.names
    · intro a ha
      obtain ⟨x, hx, rfl⟩ := List.mem_map.1 ha
      unfold synA
      split
      · exact Nat.le_refl _
      · exact h.syn x hx
  split; exact h.there (delA_names h.names _) (totA_filter _ _) (List.length_filter_le _ _) (fun a ha => h.syn a (List.mem_filter.1 ha).1)
  split; exact h.there (renA_names h.names _ _) (totA_ren _ _ _) (ren_len _ _ _) (ren_syn h.syn)
  split
  · unfold DS.setFuse
    split; exact h
    split; exact h
    exact ⟨h.names, h.tot, h.len, by show 0 ≤ o.k; omega, hk, h.syn⟩
  split
  · unfold DS.crash
    split; exact h
    split; exact h
    exact h.boom _
  split
  · unfold DS.restart
    split
    · exact ⟨h.names, h.tot, h.len, h.l0, h.l1, h.syn⟩
    · exact h
  exact h
/-! what a step adds -/
set_option maxHeartbeats 4000000 in
set_option maxRecDepth 100000 in
theorem DS.run_tot {room : Int} (s : DS) (o : OpD) : totA (s.run room o).2.L ≤ totA s.L + o.bs.length := by
  have hchg : ∀ (s : DS) (L : List Ab) (n : Nat), totA s.L ≤ n → totA L ≤ n → totA (s.chg L).2.L ≤ n := fun s L n h1 h2 => by
    unfold DS.chg
    split
    · exact Nat.le_trans (totA_fell _ _) h1
    · exact h2
  have hth : ∀ (ok : Prop) (n : ByteArray) (L : List Ab), totA L ≤ totA s.L → totA (s.there ok n L).2.L ≤ totA s.L + o.bs.length := fun ok n L h => by
    unfold DS.there
    split; exact Nat.le_add_right _ _
    split; exact Nat.le_add_right _ _
    split; exact Nat.le_add_right _ _
    exact hchg _ _ _ (Nat.le_add_right _ _) (by omega)
  unfold DS.run
  split
  · unfold DS.append
    split; exact Nat.le_add_right _ _
    split; exact Nat.le_add_right _ _
    split; exact Nat.le_add_right _ _
    split; exact Nat.le_add_right _ _
    exact hchg _ _ _ (Nat.le_of_eq (totA_appd _ _ _)) (Nat.le_of_eq (totA_appd _ _ _))
  split; exact hth _ _ _ (Nat.le_of_eq (totA_syn _ _))
  split; exact hth _ _ _ (totA_filter _ _)
  split; exact hth _ _ _ (totA_ren _ _ _)
  split
  · unfold DS.setFuse
    split; exact Nat.le_add_right _ _
    split; exact Nat.le_add_right _ _
    exact Nat.le_add_right _ _
  split
  · unfold DS.crash
    split; exact Nat.le_add_right _ _
    split; exact Nat.le_add_right _ _
    exact Nat.le_trans (totA_fell _ _) (Nat.le_add_right _ _)
  split
  · unfold DS.restart
    split <;> exact Nat.le_add_right _ _
  exact Nat.le_add_right _ _
end Go.Vl
