/-
  ProposerKeeps in plain words: majorities meet; what was accepted comes with the promises.
-/
import Derived.Test.YtpegidbkplgplaaHC
namespace Go.Vl
open Classical
/-- for how many of the first n -/
def cnt (p : Nat → Bool) : Nat → Nat
  | 0 => 0
  | n + 1 => cnt p n + if p n then 1 else 0
set_option maxHeartbeats 4000000 in
set_option maxRecDepth 100000 in
theorem cnt_mono {p q : Nat → Bool} : ∀ {n : Nat}, (∀ j, j < n → p j = true → q j = true) → cnt p n ≤ cnt q n
  | 0, _ => Nat.le_refl _
  | n + 1, h => by
    have h1 := cnt_mono (n := n) fun j hj => h j (by omega)
    have h2 := h n (by omega)
    unfold cnt
    by_cases hp : p n = true
    · rw [if_pos hp, if_pos (h2 hp)]; omega
    · rw [if_neg hp]; omega
set_option maxHeartbeats 4000000 in
set_option maxRecDepth 100000 in
theorem cnt_both {p q : Nat → Bool} : ∀ {n : Nat}, n < cnt p n + cnt q n → ∃ j, j < n ∧ p j = true ∧ q j = true
  | 0, h => by simp [cnt] at h
  | n + 1, h => by
    by_cases hb : p n = true ∧ q n = true
    · exact ⟨n, by omega, hb⟩
    · have : n < cnt p n + cnt q n := by
        unfold cnt at h
        by_cases hp : p n = true
        · have hq : ¬ q n = true := fun hq => hb ⟨hp, hq⟩
          rw [if_pos hp, if_neg hq] at h; omega
        · rw [if_neg hp] at h
          split at h <;> omega
      obtain ⟨j, hj, h1⟩ := cnt_both this
      exact ⟨j, by omega, h1⟩
set_option maxHeartbeats 4000000 in
set_option maxRecDepth 100000 in
theorem cnt_congr {p q : Nat → Bool} {n : Nat} (h : ∀ j, j < n → p j = q j) : cnt p n = cnt q n :=
  Nat.le_antisymm (cnt_mono fun j hj hp => by rw [← h j hj]; exact hp) (cnt_mono fun j hj hp => by rw [h j hj]; exact hp)
set_option maxHeartbeats 4000000 in
set_option maxRecDepth 100000 in
theorem cnt_one {p q : Nat → Bool} {j0 : Nat} (h0 : p j0 = false) (h : ∀ j, q j = (p j || decide (j = j0))) : ∀ {n : Nat}, j0 < n → cnt q n = cnt p n + 1
  | 0, hj => absurd hj (Nat.not_lt_zero _)
  | n + 1, hj => by
    unfold cnt
    by_cases he : j0 = n
    · subst he
      rw [cnt_congr (p := q) (q := p) (n := j0) fun j hj => by rw [h j, decide_eq_false (by omega)]; simp]
      rw [h j0, h0]
      simp
    · rw [cnt_one h0 h (n := n) (by omega), h n, decide_eq_false (show ¬ n = j0 from fun g => he g.symm)]
      simp only [Bool.or_false]
      omega
noncomputable def hit (f n k j : Nat) : Bool := decide (∃ t, t < k ∧ (f + t) % n = j)
set_option maxHeartbeats 4000000 in
set_option maxRecDepth 100000 in
theorem hit_new {f n k : Nat} (h1 : 1 ≤ n) (h5 : n ≤ 5) (hk : k < n) : hit f n k ((f + k) % n) = false := by
  refine decide_eq_false ?_
  rintro ⟨t, ht, he⟩
  rcases (by omega : n = 1 ∨ n = 2 ∨ n = 3 ∨ n = 4 ∨ n = 5) with rfl | rfl | rfl | rfl | rfl <;> omega
set_option maxHeartbeats 4000000 in
set_option maxRecDepth 100000 in
theorem hit_step (f n k j : Nat) : hit f n (k + 1) j = (hit f n k j || decide (j = (f + k) % n)) := by
  unfold hit
  rw [Bool.eq_iff_iff]
  simp only [decide_eq_true_eq, Bool.or_eq_true]
  constructor
  · rintro ⟨t, ht, he⟩
    by_cases htk : t = k
    · subst htk; exact .inr he.symm
    · exact .inl ⟨t, by omega, he⟩
  · rintro (⟨t, ht, he⟩ | he)
    · exact ⟨t, by omega, he⟩
    · exact ⟨k, by omega, he.symm⟩
set_option maxHeartbeats 4000000 in
set_option maxRecDepth 100000 in
theorem hit_0 (f n j : Nat) : hit f n 0 j = false := decide_eq_false (by rintro ⟨t, ht, _⟩; omega)
set_option maxHeartbeats 4000000 in
set_option maxRecDepth 100000 in
theorem cnt_hit {f n : Nat} (h1 : 1 ≤ n) (h5 : n ≤ 5) : ∀ {k : Nat}, k ≤ n → cnt (hit f n k) n = k
  | 0, _ => by
    have : ∀ m, cnt (hit f n 0) m = 0 := fun m => by
      induction m with
      | zero => rfl
      | succ m ih => unfold cnt; rw [ih, hit_0]; rfl
    exact this n
  | k + 1, hk => by
    rw [cnt_one (hit_new h1 h5 (by omega)) (hit_step f n k) (Nat.mod_lt _ (by omega)), cnt_hit h1 h5 (by omega)]
/-! what comes with promises -/
set_option maxHeartbeats 4000000 in
set_option maxRecDepth 100000 in
theorem fold_mem {p : Int × Sl} : ∀ {l : List Sl} {came : List (Int × Sl)}, p ∈ l.foldl best1 came → p ∈ came ∨ ∃ s ∈ l, p = (s.slot, s)
  | [], _, h => .inl h
  | x :: l, came, h => by
    rcases fold_mem (l := l) h with h | ⟨s, hs, h⟩
    · unfold best1 at h
      split at h
      · split at h
        · rcases mem_aput h with h | h
          · exact .inr ⟨x, by simp, h⟩
          · exact .inl h
        · exact .inl h
      · rcases mem_aput h with h | h
        · exact .inr ⟨x, by simp, h⟩
        · exact .inl h
    · exact .inr ⟨s, List.mem_cons_of_mem _ hs, h⟩
set_option maxHeartbeats 4000000 in
set_option maxRecDepth 100000 in
theorem best1_key {came : List (Int × Sl)} {x : Sl} {s : Int} (h : (aget came s).isSome ∨ x.slot = s) : (aget (best1 came x) s).isSome := by
  have hp : (aget (aput came x.slot x) s).isSome := by
    rw [aget_put]
    split
    · rfl
    · rename_i hne; exact h.resolve_right hne
  unfold best1
  split
  · rename_i o ho
    split
    · exact hp
    · rcases h with h | h
      · exact h
      · rw [← h, ho]; rfl
  · exact hp
set_option maxHeartbeats 4000000 in
set_option maxRecDepth 100000 in
theorem fold_key {s : Int} : ∀ {l : List Sl} {came : List (Int × Sl)}, ((aget came s).isSome ∨ ∃ x ∈ l, x.slot = s) → (aget (l.foldl best1 came) s).isSome
  | [], came, h => h.elim id fun ⟨x, hx, _⟩ => by cases hx
  | x :: l, came, h => fold_key (l := l) (came := best1 came x) (by
    rcases h with h | ⟨y, hy, he⟩
    · exact .inl (best1_key (.inl h))
    · rcases List.mem_cons.1 hy with rfl | hy
      · exact .inl (best1_key (.inr he))
      · exact .inr ⟨y, hy, he⟩)
/-- what was accepted, slots rising from zero -/
structure WOK (W : List Sl) : Prop where
  slot : ∀ (j : Nat) (w : Sl), W[j]? = some w → w.slot = (j : Int)
  bal : ∀ w ∈ W, w.bal = ⟨1, 0⟩
  may : ∀ w ∈ W, mayE w.en
  len : W.length ≤ 4097
structure PrK (W : List Sl) (Ls : Nat → List Sl) (n f k : Nat) (a : Ld) : Prop where
  b : a.b = ⟨2, 0⟩
  fr : a.fr = 0
  hn : a.n = n
  rd : a.ready = false
  L : a.L = []
  next : a.next = 0
  p : ∀ j, a.p j = hit f n k j
  c : cnt5 a.p = k
  mem : ∀ p ∈ a.came, ∃ w ∈ W, p = (w.slot, w)
  key : ∀ t, t < k → ∀ s ∈ Ls ((f + t) % n), (aget a.came s.slot).isSome
structure LsK (W : List Sl) (l : List Sl) : Prop where
  mem : ∀ s ∈ l, s ∈ W
  srt : l.Pairwise fun x y => x.slot < y.slot
set_option maxHeartbeats 4000000 in
set_option maxRecDepth 100000 in
theorem lsK_good {W l : List Sl} {a : Ld} (hW : WOK W) (hl : LsK W l) (hb : a.b = ⟨2, 0⟩) (hf : a.fr = 0) : a.wrong l = 0 := by
  have hs : ∀ s ∈ l, 0 ≤ s.slot ∧ s.slot ≤ 4096 := fun s hs => by
    obtain ⟨j, hj⟩ := List.mem_iff_getElem?.1 (hl.mem s hs)
    have h1 := hW.slot j s hj
    have h2 := (List.getElem?_eq_some_iff.1 hj).1
    have := hW.len
    omega
  refine wrong_0 (fun i s hi => ?_) (fun s h => ?_) fun s h => hW.may s (hl.mem s h)
  · have hm := List.mem_of_getElem? hi
    refine ⟨by rw [hf]; exact (hs s hm).1, by have := (hs s hm).2; omega, ?_, fun t ht => ?_⟩
    · rw [hb, hW.bal s (hl.mem s hm)]; exact .inl (by decide)
    · obtain ⟨j, hj⟩ := List.mem_iff_getElem?.1 ht
      have hji : j < i := by have := (List.getElem?_eq_some_iff.1 hj).1; rw [List.length_take] at this; omega
      rw [List.getElem?_take_of_lt hji] at hj
      have := List.pairwise_iff_getElem.1 hl.srt j i (List.getElem?_eq_some_iff.1 hj).1 (List.getElem?_eq_some_iff.1 hi).1 hji
      rw [(List.getElem?_eq_some_iff.1 hj).2, (List.getElem?_eq_some_iff.1 hi).2] at this
      omega
  · rw [hf]; have := (hs s h).2; omega
set_option maxHeartbeats 4000000 in
set_option maxRecDepth 100000 in
theorem prK_step {W : List Sl} {Ls : Nat → List Sl} {n f k : Nat} {a : Ld} (h1 : 1 ≤ n) (h5 : n ≤ 5) (hW : WOK W) (hk : k < maj n) (h : PrK W Ls n f k a) (hl : LsK W (Ls ((f + k) % n))) :
    ∃ a', PrK W Ls n f (k + 1) a' ∧ a.promise (((f + k) % n : Nat) : Int) (Ls ((f + k) % n)) = if k + 1 = maj n then ((true, 0), beginA a') else ((false, 0), a') := by
  have hkn : k < n := by unfold maj at hk; omega
  have hi : (f + k) % n < n := Nat.mod_lt _ (by omega)
  have hp : a.p ((f + k) % n) = false := by rw [h.p]; exact hit_new h1 h5 hkn
  have hw := lsK_good hW hl h.b h.fr
  refine ⟨{ a with p := setv a.p ((f + k) % n), came := (Ls ((f + k) % n)).foldl best1 a.came }, ⟨h.b, h.fr, h.hn, h.rd, h.L, h.next, fun j => ?_, ?_, ?_, ?_⟩, ?_⟩
  · rw [hit_step, ← h.p]
    show setv a.p _ j = _
    unfold setv
    by_cases hj : j = (f + k) % n
    · rw [if_pos hj, decide_eq_true hj]; simp
    · rw [if_neg hj, decide_eq_false hj]; simp
  · show cnt5 (setv a.p _) = _
    rw [cnt_set (by omega) hp, h.c]
  · intro p hp
    rcases fold_mem hp with hp | ⟨s, hs, rfl⟩
    · exact h.mem p hp
    · exact ⟨s, hl.mem s hs, rfl⟩
  · intro t ht s hs
    refine fold_key ?_
    by_cases htk : t = k
    · subst htk; exact .inr ⟨s, hs, rfl⟩
    · exact .inl (h.key t (by omega) s hs)
  · unfold Ld.promise
    rw [if_neg (by rw [h.hn]; omega), if_neg (by rw [hw]; decide), Int.toNat_natCast, if_neg (by rw [hp]; decide), if_neg (by rw [h.rd]; decide), h.hn, cnt_set (by omega) hp, h.c]
    by_cases hm : k + 1 = maj n
    · rw [if_pos (by omega), if_pos hm]
    · rw [if_neg (by omega), if_neg hm]
set_option maxHeartbeats 4000000 in
set_option maxRecDepth 100000 in
theorem fill_W {W : List Sl} {came : List (Int × Sl)} (hW : WOK W) (hg : ∀ (j : Nat) (w : Sl), W[j]? = some w → aget came (j : Int) = some w) : ∀ {k : Nat}, k ≤ W.length → fillS came 0 k = (W.take k).map fun w => ⟨w.slot, w.en, noV⟩
  | 0, _ => rfl
  | k + 1, hk => by
    obtain ⟨w, hw⟩ : ∃ w, W[k]? = some w := ⟨W[k]'(by omega), by rw [List.getElem?_eq_getElem]⟩
    rw [List.take_add_one, hw, List.map_append, ← fill_W hW hg (k := k) (by omega)]
    show fillS came 0 k ++ [_] = fillS came 0 k ++ [_]
    congr 2
    rw [Int.zero_add]
    unfold entOf
    rw [hg k w hw]
    show Ol.mk (k : Int) w.en noV = Ol.mk w.slot w.en noV
    rw [hW.slot k w hw]
set_option maxHeartbeats 4000000 in
set_option maxRecDepth 100000 in
theorem keeps_end {W : List Sl} {Ls : Nat → List Sl} {n f : Nat} {a : Ld} (h1 : 1 ≤ n) (h5 : n ≤ 5) (hW : WOK W) (h : PrK W Ls n f (maj n) a) (hM : ∀ w ∈ W, maj n ≤ cnt (fun j => decide (w ∈ Ls j)) n) :
    (beginA a).waits = W.map (fun w => ⟨w.slot, ⟨2, 0⟩, w.en⟩) ∧ (beginA a).next = (W.length : Int) ∧ (beginA a).L.length = W.length := by
  have hmn : maj n ≤ n := by unfold maj; omega
  have hg : ∀ (j : Nat) (w : Sl), W[j]? = some w → aget a.came (j : Int) = some w := fun j w hj => by
    have hw := List.mem_of_getElem? hj
    have hc := hM w hw
    have hh := cnt_hit (f := f) h1 h5 hmn
    obtain ⟨i, hi, ha, hb⟩ := cnt_both (p := fun j => decide (w ∈ Ls j)) (q := hit f n (maj n)) (n := n) (by rw [hh]; unfold maj at hc ⊢; omega)
    obtain ⟨t, ht, he⟩ := of_decide_eq_true hb
    have hk := h.key t ht w (by rw [he]; exact of_decide_eq_true ha)
    rw [hW.slot j w hj] at hk
    obtain ⟨o, ho⟩ := Option.isSome_iff_exists.1 hk
    obtain ⟨w', hw', he'⟩ := h.mem _ (aget_some_mem ho)
    have e1 : (j : Int) = w'.slot := congrArg Prod.fst he'
    have e2 : o = w' := congrArg Prod.snd he'
    obtain ⟨j', hj'⟩ := List.mem_iff_getElem?.1 hw'
    have := hW.slot j' w' hj'
    have hjj : j' = j := by omega
    rw [hjj, hj] at hj'
    cases hj'
    rw [ho, e2]
  have hlast : IsLast 0 a.came ((W.length : Int) - 1) := by
    refine ⟨by omega, fun p hp => ?_, ?_⟩
    · obtain ⟨w, hw, rfl⟩ := h.mem p hp
      obtain ⟨j, hj⟩ := List.mem_iff_getElem?.1 hw
      have h2 := hW.slot j w hj
      have := (List.getElem?_eq_some_iff.1 hj).1
      simp only; omega
    · by_cases h0 : W.length = 0
      · exact .inl (by omega)
      · obtain ⟨w, hw⟩ : ∃ w, W[W.length - 1]? = some w := ⟨W[W.length - 1]'(by omega), by rw [List.getElem?_eq_getElem]⟩
        exact .inr ⟨_, aget_some_mem (hg _ w hw), by simp only; omega⟩
  have hm : a.more = W.length := by
    unfold Ld.more
    rw [h.next, h.fr, (isLast_lastS 0 a.came).uniq hlast]
    omega
  have hL : (beginA a).L = W.map fun w => ⟨w.slot, w.en, noV⟩ := by
    show a.L ++ fillS a.came a.next a.more = _
    rw [h.L, h.next, hm, fill_W hW hg (Nat.le_refl _), List.take_length]
    rfl
  refine ⟨?_, ?_, by rw [hL, List.length_map]⟩
  · unfold Ld.waits
    rw [hL, List.filter_map, List.filter_eq_self.2, List.map_map]
    · show _ = _
      refine List.map_congr_left fun w _ => ?_
      show (⟨w.slot, (beginA a).b, w.en⟩ : Sl) = _
      rw [show (beginA a).b = a.b from rfl, h.b]
    · intro w _
      show (!(decide (maj (beginA a).n ≤ cnt5 noV))) = true
      rw [cnt_noV]
      unfold maj
      simp
  · show a.next + (a.more : Int) = _
    rw [h.next, hm]; omega
end Go.Vl
