/-
  THE LIBRARY's SORT AS A CONTRACT OF THE SMALL LOGIC. Nothing of the seat's program is named here.
-/
import Derived.Test.YtpegidbkplgplaaVa
import Derived.Sort.Grow
namespace Go.Vl
open Go.RowKit Go.Sort

theorem SlO.cast {e : TypeId} {sz : Nat} {v : Value} {n n' : Nat} {xs xs' : List Value} {Bs : Hp} (h : SlO e sz v n xs Bs) (hn : n = n') (hx : xs = xs') : SlO e sz v n' xs' Bs := by subst hn; subst hx; exact h
theorem sort_of {α : Type} [Inhabited α] {enc : α → Value} {sorted : List α → List α} (hlen : ∀ l, (sorted l).length = l.length) {P : Program} {f : FuncId}
    (hc : ∀ (blk off cap : Nat) (zs : List α) (w : World), Holds enc w blk off zs.toArray → blk < w.heap.size → zs.length < 4611686018427387904 →
      Calls P f #[.slice (some ⟨blk, off, none⟩) zs.length cap] w fun e w' => e = .returned (.tuple #[]) ∧ ∃ n os, w' = grow (putRow enc (Sort.ahead w n) blk off (sorted zs).toArray) os)
    (h0 : ∀ (p : Option Addr) (cap : Nat) (w : World), Calls P f #[.slice p 0 cap] w fun e w' => e = .returned (.tuple #[]) ∧ w' = w)
    {e : World} {T : TypeId} {v : Value} {zs : List α} {Bs F : Hp} {K : Value → Hp → Prop} (hS : SlO T 1 v zs.length (zs.map enc) Bs) (hz : zs.length < 4611686018427387904)
    (hK : ∀ Bs', SlO T 1 v zs.length ((sorted zs).map enc) Bs' → K (.tuple #[]) (Bs' ++ F)) : callsK P e f #[v] (Bs ++ F) K := by
  intro w hw
  rcases hS.2 with ⟨a, rfl, hn, rfl⟩ | ⟨g, cap, cur, rfl, rfl, hnc, hcm, hcs, ht⟩
  · have hzs : zs = [] := List.eq_nil_of_length_eq_zero hn
    subst hzs
    refine (callsIn_wide.2 (h0 a 0 w)).mono ?_
    rintro x w' ⟨rfl, rfl⟩
    have hs : sorted [] = [] := List.eq_nil_of_length_eq_zero (by rw [hlen]; rfl)
    exact ⟨_, hw, hK [] ⟨by simp [hs], .inl ⟨a, rfl, rfl, rfl⟩⟩⟩
  · have hg := hw.has (g, .cells cur T (0, 0)) (by simp)
    simp only at hg
    have hlt := hw.lt (x := (g, .cells cur T (0, 0))) (by simp)
    simp only at hlt
    have hH : Holds enc w g 0 zs.toArray := by
      intro j hj
      have hj' : j < zs.length := by simpa using hj
      refine ⟨?_, by simp [World.frozen?, hg]⟩
      have h1 : (zs.map enc)[j]? = some (enc zs[j]) := by simp [hj']
      rw [← ht] at h1
      have h2 := take_some h1
      rw [Array.getElem?_toList] at h2
      simp only [World.cell?, hg, Nat.zero_add]
      have h3 : zs.toArray[j]! = zs[j] := by simp [hj']
      rw [h3]
      simpa using h2
    refine (callsIn_wide.2 (hc g 0 cap zs w hH hlt hz)).mono ?_
    rintro x w' ⟨rfl, n, os, rfl⟩
    have hd : (sorted zs).toArray.size = zs.length := by simp [hlen]
    refine ⟨(g, .cells (putCells enc 0 (sorted zs).toArray cur) T (0, 0)) :: F, ?_, ?_⟩
    · have hnd := hw.nodup
      refine ⟨hw.os, hw.tape, hw.output, by simpa using hnd, fun x hx => ?_⟩
      rcases List.mem_cons.1 hx with rfl | hx
      · simp only
        rw [heap_grow_old _ _ (by simpa using hlt)]
        simp [putRow, mapBlock, Array.getElem?_modify, hg, onCells]
      · have hxm : x ∈ [(g, Obj.cells cur T (0, 0))] ++ F := by simp [hx]
        have hks := hw.lt hxm
        have hne : g ≠ x.1 := fun he => by
          simp only [List.cons_append, List.nil_append, List.map_cons, List.nodup_cons] at hnd
          exact hnd.1 (he ▸ List.mem_map.2 ⟨x, hx, rfl⟩)
        rw [heap_grow_old _ _ (by simpa using hks)]
        have := hw.has x hxm
        simp [putRow, mapBlock, Array.getElem?_modify, hne, this]
    · refine hK [(g, .cells (putCells enc 0 (sorted zs).toArray cur) T (0, 0))] ⟨by simp [hlen], .inr ⟨g, cap, _, rfl, rfl, hnc, hcm, by simpa [putCells] using hcs, ?_⟩⟩
      apply List.ext_getElem?
      intro j
      rw [List.getElem?_take]
      by_cases hj : j < zs.length
      · have hjc : j < cur.size := by omega
        have h3 : (sorted zs).toArray[j]! = (sorted zs)[j]'(by rw [hlen]; exact hj) := by simp [hlen, hj]
        rw [if_pos (by omega)]
        simp only [putCells, Array.getElem?_toList, Array.getElem?_mapIdx, Array.getElem?_eq_getElem hjc, Option.map_some, hd]
        rw [if_pos ⟨Nat.zero_le _, by omega⟩]
        simp only [Nat.sub_zero, h3, List.getElem?_map]
        rw [List.getElem?_eq_getElem (by rw [hlen]; exact hj)]
        rfl
      · rw [if_neg (by omega), List.getElem?_eq_none (by simp [hlen]; omega)]
end Go.Vl
