/-
  Save and Load where what is kept at a crash may differ. No program in sight.
-/
import Derived.Test.YtkamfmdonhaikaaGreatRQ
import Derived.Test.YtkamfmdonhaikaaGreatXM
namespace Go.Vl
open Go.Proofs
structure SFr (r q : Int × DS) : Prop where
  a : r.1 = q.1
  s : r.2.F q.2
set_option maxHeartbeats 4000000 in
set_option maxRecDepth 100000 in
theorem thenD_F {r q : Int × DS} {f : DS → Int × DS} (h : SFr r q) (hf : r.1 = 0 → SFr (f r.2) (f q.2)) : SFr (thenD r f) (thenD q f) := by
  by_cases h0 : r.1 = 0
  · rw [then_ok h0, then_ok (h.a ▸ h0)]
    exact hf h0
  · rw [then_err h0, then_err (fun h1 => h0 (h.a.trans h1))]
    exact h
set_option maxHeartbeats 4000000 in
set_option maxRecDepth 100000 in
theorem clr_F {s t : DS} (h : s.F t) : SFr (clrA s) (clrA t) := by
  unfold clrA
  rw [propext (hasA_perm h.L newN)]
  split
  · obtain ⟨h1, h2⟩ := DS.remove_F h newN
    exact ⟨h1, h2⟩
  · exact ⟨rfl, h⟩
set_option maxHeartbeats 4000000 in
set_option maxRecDepth 100000 in
theorem put_F {room : Int} {s t : DS} (h : s.F t) (hs : s.ok room) (y : List UInt8) : SFr (putA room s y) (putA room t y) := by
  unfold putA
  refine thenD_F (thenD_F (thenD_F (clr_F h) fun _ => ?_) fun _ => ?_) fun _ => ?_
  · obtain ⟨h1, h2⟩ := DS.append_F (room := room) (clr_F h).s (clr_ok hs).1.names newN y
    exact ⟨h1, h2⟩
  · have hb : SFr (thenD (clrA s) fun t => t.append room newN y) (thenD (clrA t) fun t => t.append room newN y) := thenD_F (clr_F h) fun _ => by
      obtain ⟨h1, h2⟩ := DS.append_F (room := room) (clr_F h).s (clr_ok hs).1.names newN y
      exact ⟨h1, h2⟩
    obtain ⟨h1, h2⟩ := DS.sync_F hb.s newN
    exact ⟨h1, h2⟩
  · have hb : SFr (thenD (clrA s) fun t => t.append room newN y) (thenD (clrA t) fun t => t.append room newN y) := thenD_F (clr_F h) fun _ => by
      obtain ⟨h1, h2⟩ := DS.append_F (room := room) (clr_F h).s (clr_ok hs).1.names newN y
      exact ⟨h1, h2⟩
    have hc : SFr (thenD (thenD (clrA s) fun t => t.append room newN y) fun t => t.sync newN) (thenD (thenD (clrA t) fun t => t.append room newN y) fun t => t.sync newN) := thenD_F hb fun _ => by
      obtain ⟨h1, h2⟩ := DS.sync_F hb.s newN
      exact ⟨h1, h2⟩
    obtain ⟨h1, h2⟩ := DS.rename_F hc.s newN nowN
    exact ⟨h1, h2⟩
set_option maxHeartbeats 4000000 in
set_option maxRecDepth 100000 in
theorem save_F {room : Int} {s t : DS} (h : s.F t) (hs : s.ok room) (slot : Int) (bs : List UInt8) : SFr (saveA room s slot bs) (saveA room t slot bs) := by
  unfold saveA
  split
  · exact ⟨rfl, h⟩
  · rw [h.down]
    split
    · exact ⟨rfl, h⟩
    · exact put_F h hs _
set_option maxHeartbeats 4000000 in
set_option maxRecDepth 100000 in
theorem load_F {room : Int} {s t : DS} (h : s.F t) (hs : s.ok room) : (loadA s).1 = (loadA t).1 ∧ (loadA s).2.F (loadA t).2 := by
  have hc := clr_F h
  have hr := readA_F hc.s (clr_ok hs).1.names nowN
  unfold loadA
  rw [h.down, hc.a, hr]
  split
  · exact ⟨rfl, h⟩
  · split
    · exact ⟨rfl, hc.s⟩
    · split
      · exact ⟨rfl, hc.s⟩
      · exact ⟨rfl, hc.s⟩
set_option maxHeartbeats 4000000 in
set_option maxRecDepth 100000 in
theorem then_st {room : Int} {r : Int × DS} {f : DS → Int × DS} {n k : Nat} (h : r.2.ok room ∧ totA r.2.L ≤ n) (hf : ∀ s : DS, s.ok room → (f s).2.ok room ∧ totA (f s).2.L ≤ totA s.L + k) : (thenD r f).2.ok room ∧ totA (thenD r f).2.L ≤ n + k := by
  by_cases h0 : r.1 = 0
  · rw [then_ok h0]
    obtain ⟨h1, h2⟩ := hf _ h.1
    exact ⟨h1, by omega⟩
  · rw [then_err h0]
    exact ⟨h.1, by omega⟩
set_option maxHeartbeats 4000000 in
set_option maxRecDepth 100000 in
theorem put_ok {room : Int} {s : DS} (hs : s.ok room) (y : List UInt8) : (putA room s y).2.ok room ∧ totA (putA room s y).2.L ≤ totA s.L + y.length := by
  have := then_st (k := 0) (f := fun t => t.rename newN nowN) (then_st (k := 0) (f := fun t => t.sync newN) (then_st (k := y.length) (f := fun t => t.append room newN y) (clr_ok hs) fun t ht => app_ok ht newN y) fun t ht => syn_ok ht newN) fun t ht => ren_ok ht newN nowN
  exact this
set_option maxHeartbeats 4000000 in
set_option maxRecDepth 100000 in
theorem save_ok {room : Int} {s : DS} (hs : s.ok room) (slot : Int) (bs : List UInt8) : (saveA room s slot bs).2.ok room ∧ totA (saveA room s slot bs).2.L ≤ totA s.L + 1048600 := by
  have hy := enc_bytes slot bs
  unfold saveA
  split
  · exact ⟨hs, Nat.le_add_right _ _⟩
  · split
    · exact ⟨hs, Nat.le_add_right _ _⟩
    · obtain ⟨h1, h2⟩ := put_ok hs (encP slot bs).1
      exact ⟨h1, by omega⟩
set_option maxHeartbeats 4000000 in
set_option maxRecDepth 100000 in
theorem load_ok {room : Int} {s : DS} (hs : s.ok room) : (loadA s).2.ok room ∧ totA (loadA s).2.L ≤ totA s.L := by
  unfold loadA
  split
  · exact ⟨hs, Nat.le_refl _⟩
  · split
    · exact clr_ok hs
    · split
      · exact clr_ok hs
      · exact clr_ok hs
end Go.Vl
