/-
  Plain disks that answer alike: what is kept at a crash matters only while a fuse burns. No program in sight.
-/
import Derived.Test.YtkamfmdonhaikaaDTP
namespace Go.Vl
open Go.Proofs Classical
structure DS.F (s t : DS) : Prop where
  L : s.L.Perm t.L
  left : s.left = t.left
  keep : s.left = 0 ∨ s.keep = t.keep
  down : s.down = t.down
set_option maxHeartbeats 4000000 in
set_option maxRecDepth 100000 in
theorem DS.E.F {s t : DS} (h : s.E t) : s.F t := ⟨h.L, h.left, .inr h.keep, h.down⟩
set_option maxHeartbeats 4000000 in
set_option maxRecDepth 100000 in
theorem DS.F.rfl (s : DS) : s.F s := ⟨.refl _, by simp, .inr (by simp), by simp⟩
set_option maxHeartbeats 4000000 in
set_option maxRecDepth 100000 in
theorem DS.F.symm {s t : DS} (h : s.F t) : t.F s := ⟨h.L.symm, h.left.symm, h.keep.elim (fun k => .inl (h.left ▸ k)) (fun k => .inr k.symm), h.down.symm⟩
set_option maxHeartbeats 4000000 in
set_option maxRecDepth 100000 in
theorem DS.F.trans {s t u : DS} (h : s.F t) (g : t.F u) : s.F u :=
  ⟨h.L.trans g.L, h.left.trans g.left, h.keep.elim .inl (fun k => g.keep.elim (fun l => .inl (h.left.trans l)) (fun l => .inr (k.trans l))), h.down.trans g.down⟩
set_option maxHeartbeats 4000000 in
set_option maxRecDepth 100000 in
theorem DS.ok.F {room : Int} {s t : DS} (h : s.ok room) (e : s.F t) : t.ok room :=
  ⟨h.names.perm e.L, by rw [← totA_perm e.L]; exact h.tot, by rw [← e.L.length_eq]; exact h.len, by rw [← e.left]; exact h.l0, by rw [← e.left]; exact h.l1, fun a ha => h.syn a (e.L.mem_iff.2 ha)⟩
set_option maxHeartbeats 4000000 in
set_option maxRecDepth 100000 in
theorem DS.chg_F {s t : DS} (h : s.F t) {L M : List Ab} (hp : L.Perm M) : (s.chg L).1 = (t.chg M).1 ∧ (s.chg L).2.F (t.chg M).2 := by
  unfold DS.chg DS.boom
  by_cases h1 : s.left = 1
  · have h2 : t.left = 1 := h.left ▸ h1
    have hk : s.keep = t.keep := h.keep.elim (fun k => by omega) id
    rw [if_pos h1, if_pos h2, hk]
    exact ⟨rfl, h.L.map _, rfl, .inl rfl, rfl⟩
  · have h2 : ¬ t.left = 1 := fun h3 => h1 (h.left.trans h3)
    rw [if_neg h1, if_neg h2, ← h.left]
    refine ⟨rfl, hp, rfl, ?_, h.down⟩
    rcases h.keep with k | k
    · exact .inl (if_pos k)
    · exact .inr k
set_option maxHeartbeats 4000000 in
set_option maxRecDepth 100000 in
theorem DS.append_F {room : Int} {s t : DS} (h : s.F t) (hn : NamesA s.L) (n : ByteArray) (bs : List UInt8) : (s.append room n bs).1 = (t.append room n bs).1 ∧ (s.append room n bs).2.F (t.append room n bs).2 := by
  unfold DS.append
  have h1 := hasA_perm h.L n
  have hd := h.down
  rw [totA_perm h.L, h.L.length_eq, propext h1, ← hd]
  split
  · exact ⟨rfl, h⟩
  · split
    · exact ⟨rfl, h⟩
    · split
      · exact ⟨rfl, h⟩
      · split
        · exact ⟨rfl, h⟩
        · exact DS.chg_F (s := ⟨appd s.L n bs, s.left, s.keep, s.down⟩) (t := ⟨appd t.L n bs, t.left, t.keep, s.down⟩) ⟨appd_perm h.L hn n bs, h.left, h.keep, rfl⟩ (appd_perm h.L hn n bs)
set_option maxHeartbeats 4000000 in
set_option maxRecDepth 100000 in
theorem DS.there_F {s t : DS} (h : s.F t) {ok : Prop} {n : ByteArray} {L M : List Ab} (hp : L.Perm M) : (s.there ok n L).1 = (t.there ok n M).1 ∧ (s.there ok n L).2.F (t.there ok n M).2 := by
  unfold DS.there
  have h1 := hasA_perm h.L n
  rw [h.down, propext h1]
  split
  · exact ⟨rfl, h⟩
  · split
    · exact ⟨rfl, h⟩
    · split
      · exact ⟨rfl, h⟩
      · exact DS.chg_F h hp
set_option maxHeartbeats 4000000 in
set_option maxRecDepth 100000 in
theorem DS.sync_F {s t : DS} (h : s.F t) (n : ByteArray) : (s.sync n).1 = (t.sync n).1 ∧ (s.sync n).2.F (t.sync n).2 := DS.there_F h (h.L.map _)
set_option maxHeartbeats 4000000 in
set_option maxRecDepth 100000 in
theorem DS.remove_F {s t : DS} (h : s.F t) (n : ByteArray) : (s.remove n).1 = (t.remove n).1 ∧ (s.remove n).2.F (t.remove n).2 := DS.there_F h (h.L.filter _)
set_option maxHeartbeats 4000000 in
set_option maxRecDepth 100000 in
theorem DS.rename_F {s t : DS} (h : s.F t) (n m : ByteArray) : (s.rename n m).1 = (t.rename n m).1 ∧ (s.rename n m).2.F (t.rename n m).2 := DS.there_F h (renA_perm h.L n m)
set_option maxHeartbeats 4000000 in
set_option maxRecDepth 100000 in
theorem DS.setFuse_F {s t : DS} (h : s.F t) (a b : Int) : (s.setFuse a b).1 = (t.setFuse a b).1 ∧ (s.setFuse a b).2.F (t.setFuse a b).2 := by
  unfold DS.setFuse
  rw [h.down]
  split
  · exact ⟨rfl, h⟩
  · split
    · exact ⟨rfl, h⟩
    · exact ⟨rfl, h.L, rfl, .inr rfl, rfl⟩
set_option maxHeartbeats 4000000 in
set_option maxRecDepth 100000 in
theorem DS.crash_F {s t : DS} (h : s.F t) (a : Int) : (s.crash a).1 = (t.crash a).1 ∧ (s.crash a).2.F (t.crash a).2 := by
  unfold DS.crash
  rw [h.down]
  split
  · exact ⟨rfl, h⟩
  · split
    · exact ⟨rfl, h⟩
    · exact ⟨rfl, h.L.map _, rfl, .inr rfl, rfl⟩
set_option maxHeartbeats 4000000 in
set_option maxRecDepth 100000 in
theorem DS.restart_F {s t : DS} (h : s.F t) : (s.restart).1 = (t.restart).1 ∧ (s.restart).2.F (t.restart).2 := by
  unfold DS.restart
  rw [h.down]
  split
  · exact ⟨rfl, h.L, h.left, h.keep, rfl⟩
  · exact ⟨rfl, h⟩
set_option maxHeartbeats 4000000 in
set_option maxRecDepth 100000 in
theorem readA_F {s t : DS} (h : s.F t) (hn : NamesA s.L) (n : ByteArray) : readA s n = readA t n := by
  unfold readA
  rw [h.down, find_perm h.L hn]
set_option maxHeartbeats 4000000 in
set_option maxRecDepth 100000 in
theorem sizeA_F {s t : DS} (h : s.F t) (hn : NamesA s.L) (n : ByteArray) : sizeA s n = sizeA t n := by
  unfold sizeA
  rw [h.down, find_perm h.L hn]
end Go.Vl
