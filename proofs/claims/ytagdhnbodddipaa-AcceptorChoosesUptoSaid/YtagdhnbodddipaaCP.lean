/-
  Paxos in plain words: leaders one behind the other, with rising ballots; no two entries are chosen.
-/
import Derived.Test.YtagdhnbodddipaaAQ
namespace Go.Vl
/-- for how many of the first n -/
def cnt (p : Nat → Bool) : Nat → Nat
  | 0 => 0
  | n + 1 => cnt p n + if p n then 1 else 0
theorem cnt_le (p : Nat → Bool) : ∀ n, cnt p n ≤ n
  | 0 => Nat.le_refl _
  | n + 1 => by
    have := cnt_le p n
    unfold cnt
    split <;> omega
theorem cnt_mono {p q : Nat → Bool} : ∀ {n : Nat}, (∀ j, j < n → p j = true → q j = true) → cnt p n ≤ cnt q n
  | 0, _ => Nat.le_refl _
  | n + 1, h => by
    have h1 := cnt_mono (n := n) fun j hj => h j (by omega)
    have h2 := h n (by omega)
    unfold cnt
    by_cases hp : p n = true
    · rw [if_pos hp, if_pos (h2 hp)]; omega
    · rw [if_neg hp]; omega
theorem cnt_both {p q : Nat → Bool} : ∀ {n : Nat}, n < cnt p n + cnt q n → ∃ j, j < n ∧ p j = true ∧ q j = true
  | 0, h => by simp [cnt] at h
  | n + 1, h => by
    by_cases hb : p n = true ∧ q n = true
    · exact ⟨n, by omega, hb⟩
    · have : n < cnt p n + cnt q n := by
        unfold cnt at h
        by_cases hp : p n = true
        · have hq : ¬ q n = true := fun hq => hb ⟨hp, hq⟩
          rw [if_pos hp, if_neg hq] at h; omega
        · rw [if_neg hp] at h
          split at h <;> omega
      obtain ⟨j, hj, h1⟩ := cnt_both this
      exact ⟨j, by omega, h1⟩
theorem cnt_congr {p q : Nat → Bool} {n : Nat} (h : ∀ j, j < n → p j = q j) : cnt p n = cnt q n :=
  Nat.le_antisymm (cnt_mono fun j hj hp => by rw [← h j hj]; exact hp) (cnt_mono fun j hj hp => by rw [h j hj]; exact hp)
/-- some acceptor has accepted with a round not below -/
def geR (a : Ac) (r : Int) : Bool := a.L.any fun x => decide (r ≤ x.bal.r)
theorem geR_iff {a : Ac} {r : Int} : geR a r = true ↔ ∃ x ∈ a.L, r ≤ x.bal.r := by unfold geR; simp
def Bare (e : EnC) : Prop := e.ops = [] ∧ e.data = []
structure PxI (n : Nat) (i : Int) (A : Nat → Ac) (ch : List EnC) : Prop where
  first : ∀ j, j < n → (A j).first = 0
  one : ∀ j, j < n → (A j).L = [] ∨ ∃ x, (A j).L = [x] ∧ x.slot = 0 ∧ 1 ≤ x.bal.r ∧ x.bal.r ≤ i ∧ Bare x.en
  prom : ∀ j, j < n → (A j).prom.r ≤ i
  bare : ∀ c ∈ ch, Bare c
  chos : ch = [] ∨ ∃ e0 r0, 1 ≤ r0 ∧ (∀ c ∈ ch, c = e0) ∧ n < 2 * cnt (fun j => geR (A j) r0) n ∧ ∀ j, j < n → ∀ x ∈ (A j).L, r0 ≤ x.bal.r → x.en = e0
theorem PxI.new (n : Nat) : PxI n 0 (fun _ => Ac.new) [] := ⟨fun _ _ => rfl, fun _ _ => .inl rfl, fun _ _ => Int.le_refl _, fun _ h => (by cases h), .inl rfl⟩
def updF {α : Type} (A : Nat → α) (k : Nat) (a : α) : Nat → α := fun j => if j = k then a else A j
theorem updF_same {α : Type} {A : Nat → α} {k : Nat} {a : α} : updF A k a k = a := by unfold updF; rw [if_pos rfl]
theorem updF_ne {α : Type} {A : Nat → α} {k j : Nat} {a : α} (h : j ≠ k) : updF A k a j = A j := by unfold updF; rw [if_neg h]
/-- after the first k were asked to prepare -/
structure PrI (n k : Nat) (b : Bal) (P : Nat → Bool) (A B : Nat → Ac) (best : Sl) (pr : Nat) : Prop where
  L : ∀ j, j < n → (B j).L = (A j).L
  first : ∀ j, j < n → (B j).first = (A j).first
  prom : ∀ j, j < n → (B j).prom = (A j).prom ∨ (B j).prom = b
  pr : pr = cnt P k
  from_ : 0 < best.bal.r → ∃ j, j < k ∧ best ∈ (A j).L
  most : ∀ j, j < k → P j = true → ∀ x ∈ (A j).L, ¬ best.bal.lt x.bal
  bare : Bare best.en
theorem PrI.start {n : Nat} {b : Bal} {P : Nat → Bool} {A : Nat → Ac} {best : Sl} (h : best.bal = ⟨0, 0⟩) (hb : Bare best.en) : PrI n 0 b P A A best 0 :=
  ⟨fun _ _ => rfl, fun _ _ => rfl, fun _ _ => .inl rfl, rfl, fun h0 => by rw [h] at h0; exact absurd h0 (by decide), fun j hj => absurd hj (by omega), hb⟩
theorem PrI.skip {n k : Nat} {b : Bal} {P : Nat → Bool} {A B : Nat → Ac} {best : Sl} {pr : Nat} (h : PrI n k b P A B best pr) (hp : P k = false) : PrI n (k + 1) b P A B best pr :=
  ⟨h.L, h.first, h.prom, by rw [h.pr]; show _ = cnt P k + _; rw [hp]; rfl, fun h0 => let ⟨j, hj, hx⟩ := h.from_ h0; ⟨j, by omega, hx⟩,
    fun j hj hpj => by
      have : j ≠ k := fun he => by rw [he, hp] at hpj; cases hpj
      exact h.most j (by omega) hpj, h.bare⟩
/-- the better of two -/
def better (best y : Sl) : Sl := if best.bal.lt y.bal then y else best
theorem PrI.step {n k : Nat} {i : Int} {b : Bal} {P : Nat → Bool} {A B : Nat → Ac} {ch : List EnC} {best : Sl} {pr : Nat} (hA : PxI n i A ch) (hk : k < n) (h : PrI n k b P A B best pr) (hp : P k = true) :
    PrI n (k + 1) b P A (updF B k ⟨b, (B k).first, (B k).L⟩) ((A k).L.foldl better best) (pr + 1) := by
  have hL : ∀ j, j < n → (updF B k ⟨b, (B k).first, (B k).L⟩ j).L = (A j).L := fun j hj => by
    by_cases he : j = k
    · subst he; rw [updF_same]; exact h.L j hj
    · rw [updF_ne he]; exact h.L j hj
  have hf : ∀ j, j < n → (updF B k ⟨b, (B k).first, (B k).L⟩ j).first = (A j).first := fun j hj => by
    by_cases he : j = k
    · subst he; rw [updF_same]; exact h.first j hj
    · rw [updF_ne he]; exact h.first j hj
  have hpm : ∀ j, j < n → (updF B k ⟨b, (B k).first, (B k).L⟩ j).prom = (A j).prom ∨ (updF B k ⟨b, (B k).first, (B k).L⟩ j).prom = b := fun j hj => by
    by_cases he : j = k
    · subst he; rw [updF_same]; exact .inr rfl
    · rw [updF_ne he]; exact h.prom j hj
  have hpr : pr + 1 = cnt P (k + 1) := by rw [h.pr]; show _ = cnt P k + _; rw [if_pos hp]
  rcases hA.one k hk with h0 | ⟨x, h0, _, hx1, _, hxb⟩
  · rw [h0]
    refine ⟨hL, hf, hpm, hpr, fun h0 => let ⟨j, hj, hx⟩ := h.from_ h0; ⟨j, by omega, hx⟩, fun j hj hpj x hx => ?_, h.bare⟩
    by_cases he : j = k
    · rw [he, h0] at hx; cases hx
    · exact h.most j (by omega) hpj x hx
  · rw [h0]
    show PrI n (k + 1) b P A _ (better best x) (pr + 1)
    unfold better
    by_cases hb : best.bal.lt x.bal
    · rw [if_pos hb]
      refine ⟨hL, hf, hpm, hpr, fun _ => ⟨k, by omega, by rw [h0]; exact List.mem_singleton.2 rfl⟩, fun j hj hpj y hy => ?_, hxb⟩
      by_cases he : j = k
      · rw [he, h0] at hy
        obtain rfl := List.mem_singleton.1 hy
        exact Bal.lt_irrefl _
      · exact fun hlt => h.most j (by omega) hpj y hy (Bal.lt_trans hb hlt)
    · rw [if_neg hb]
      refine ⟨hL, hf, hpm, hpr, fun h0 => let ⟨j, hj, hx⟩ := h.from_ h0; ⟨j, by omega, hx⟩, fun j hj hpj y hy => ?_, h.bare⟩
      by_cases he : j = k
      · rw [he, h0] at hy
        obtain rfl := List.mem_singleton.1 hy
        exact hb
      · exact h.most j (by omega) hpj y hy
/-- after the first k were asked to accept -/
structure AcI (n k : Nat) (b : Bal) (Q : Nat → Bool) (e : EnC) (B D : Nat → Ac) (took : Nat) : Prop where
  L : ∀ j, j < n → (D j).L = if j < k ∧ Q j = true then [⟨0, b, e⟩] else (B j).L
  first : ∀ j, j < n → (D j).first = (B j).first
  prom : ∀ j, j < n → (D j).prom = (B j).prom ∨ (D j).prom = b
  took : took = cnt Q k
theorem AcI.start {n : Nat} {b : Bal} {Q : Nat → Bool} {e : EnC} {B : Nat → Ac} : AcI n 0 b Q e B B 0 := ⟨fun j _ => by rw [if_neg (by omega)], fun _ _ => rfl, fun _ _ => .inl rfl, rfl⟩
theorem AcI.skip {n k : Nat} {b : Bal} {Q : Nat → Bool} {e : EnC} {B D : Nat → Ac} {took : Nat} (h : AcI n k b Q e B D took) (hq : Q k = false) : AcI n (k + 1) b Q e B D took :=
  ⟨fun j hj => by
    rw [h.L j hj]
    by_cases he : j = k
    · subst he; rw [if_neg (by omega), if_neg (by rw [hq]; simp)]
    · by_cases hlt : j < k
      · by_cases hqj : Q j = true
        · rw [if_pos ⟨hlt, hqj⟩, if_pos ⟨by omega, hqj⟩]
        · rw [if_neg (fun h => hqj h.2), if_neg (fun h => hqj h.2)]
      · rw [if_neg (fun h => hlt h.1), if_neg (fun h => by omega)], h.first, h.prom, by rw [h.took]; show _ = cnt Q k + _; rw [hq]; rfl⟩
theorem AcI.step {n k : Nat} {b : Bal} {Q : Nat → Bool} {e : EnC} {B D : Nat → Ac} {took : Nat} (h : AcI n k b Q e B D took) (hk : k < n) (hq : Q k = true) : AcI n (k + 1) b Q e B (updF D k ⟨b, (D k).first, [⟨0, b, e⟩]⟩) (took + 1) :=
  ⟨fun j hj => by
    by_cases he : j = k
    · subst he; rw [updF_same, if_pos ⟨by omega, hq⟩]
    · rw [updF_ne he, h.L j hj]
      by_cases hlt : j < k
      · by_cases hqj : Q j = true
        · rw [if_pos ⟨hlt, hqj⟩, if_pos ⟨by omega, hqj⟩]
        · rw [if_neg (fun h => hqj h.2), if_neg (fun h => hqj h.2)]
      · rw [if_neg (fun h => hlt h.1), if_neg (fun h => by omega)],
   fun j hj => by
    by_cases he : j = k
    · subst he; rw [updF_same]; exact h.first j hj
    · rw [updF_ne he]; exact h.first j hj,
   fun j hj => by
    by_cases he : j = k
    · subst he; rw [updF_same]; exact .inr rfl
    · rw [updF_ne he]; exact h.prom j hj,
   by rw [h.took]; show _ = cnt Q k + _; rw [if_pos hq]⟩
/-- a leader without enough promises changes nothing that matters -/
theorem PxI.lame {n : Nat} {i : Int} {A B : Nat → Ac} {ch : List EnC} {b : Bal} (h : PxI n i A ch) (hb : b.r = i + 1) (hL : ∀ j, j < n → (B j).L = (A j).L) (hf : ∀ j, j < n → (B j).first = (A j).first) (hp : ∀ j, j < n → (B j).prom = (A j).prom ∨ (B j).prom = b) : PxI n (i + 1) B ch := by
  refine ⟨fun j hj => by rw [hf j hj]; exact h.first j hj, fun j hj => ?_, fun j hj => ?_, h.bare, ?_⟩
  · rw [hL j hj]
    rcases h.one j hj with h0 | ⟨x, h0, h1, h2, h3, h4⟩
    · exact .inl h0
    · exact .inr ⟨x, h0, h1, h2, by omega, h4⟩
  · have := h.prom j hj
    rcases hp j hj with h1 | h1 <;> rw [h1] <;> omega
  · rcases h.chos with h0 | ⟨e0, r0, h1, h2, h3, h4⟩
    · exact .inl h0
    · refine .inr ⟨e0, r0, h1, h2, ?_, fun j hj x hx => h4 j hj x (by rw [← hL j hj]; exact hx)⟩
      have : cnt (fun j => geR (B j) r0) n = cnt (fun j => geR (A j) r0) n := cnt_congr fun j hj => by unfold geR; rw [hL j hj]
      rw [this]; exact h3
/-- what a leader may say -/
def says (best : Sl) (fresh : EnC) : EnC := if 0 < best.bal.r then best.en else fresh
theorem PxI.leader {n : Nat} {i : Int} {A B D : Nat → Ac} {ch : List EnC} {b : Bal} {P Q : Nat → Bool} {best : Sl} {pr took : Nat} {fresh : EnC} (hi : 0 ≤ i) (h : PxI n i A ch) (hb : b.r = i + 1) (hp : PrI n n b P A B best pr) (hmaj : n < 2 * pr) (hfr : Bare fresh)
    (ha : AcI n n b Q (says best fresh) B D took) : PxI n (i + 1) D (if n < 2 * took then ch ++ [says best fresh] else ch) := by
  have hsb : Bare (says best fresh) := by
    unfold says
    split
    · exact hp.bare
    · exact hfr
  have hDL : ∀ j, j < n → (D j).L = if Q j = true then [⟨0, b, says best fresh⟩] else (A j).L := fun j hj => by
    rw [ha.L j hj, hp.L j hj]
    by_cases hq : Q j = true
    · rw [if_pos ⟨hj, hq⟩, if_pos hq]
    · rw [if_neg (fun h => hq h.2), if_neg hq]
  have base : (∀ j, j < n → (D j).first = 0) ∧ (∀ j, j < n → (D j).L = [] ∨ ∃ x, (D j).L = [x] ∧ x.slot = 0 ∧ 1 ≤ x.bal.r ∧ x.bal.r ≤ i + 1 ∧ Bare x.en) ∧ (∀ j, j < n → (D j).prom.r ≤ i + 1) := by
    refine ⟨fun j hj => by rw [ha.first j hj, hp.first j hj]; exact h.first j hj, fun j hj => ?_, fun j hj => ?_⟩
    · rw [hDL j hj]
      by_cases hq : Q j = true
      · rw [if_pos hq]
        exact .inr ⟨_, rfl, rfl, by show 1 ≤ b.r; omega, by show b.r ≤ _; omega, hsb⟩
      · rw [if_neg hq]
        rcases h.one j hj with h0 | ⟨x, h0, h1, h2, h3, h4⟩
        · exact .inl h0
        · exact .inr ⟨x, h0, h1, h2, by omega, h4⟩
    · have := h.prom j hj
      rcases ha.prom j hj with h1 | h1
      · rw [h1]
        rcases hp.prom j hj with h2 | h2 <;> rw [h2] <;> omega
      · rw [h1]; omega
  have bareC : ∀ c ∈ (if n < 2 * took then ch ++ [says best fresh] else ch), Bare c := fun c hc => by
    split at hc
    · rcases List.mem_append.1 hc with hc | hc
      · exact h.bare c hc
      · rw [List.mem_singleton.1 hc]; exact hsb
    · exact h.bare c hc
  refine ⟨base.1, base.2.1, base.2.2, bareC, ?_⟩
  rcases h.chos with h0 | ⟨e0, r0, h1, h2, h3, h4⟩
  · subst h0
    by_cases ht : n < 2 * took
    · rw [if_pos ht]
      refine .inr ⟨says best fresh, i + 1, by omega, fun c hc => by simpa using hc, ?_, fun j hj x hx hr => ?_⟩
      · have : cnt Q n ≤ cnt (fun j => geR (D j) (i + 1)) n := cnt_mono fun j hj hq => by
          rw [geR_iff, hDL j hj, if_pos hq]
          exact ⟨_, List.mem_singleton.2 rfl, by show i + 1 ≤ b.r; omega⟩
        have := ha.took
        omega
      · rw [hDL j hj] at hx
        by_cases hq : Q j = true
        · rw [if_pos hq] at hx
          rw [List.mem_singleton.1 hx]
        · rw [if_neg hq] at hx
          rcases h.one j hj with g0 | ⟨y, g0, _, _, g3, _⟩
          · rw [g0] at hx; cases hx
          · rw [g0] at hx
            obtain rfl := List.mem_singleton.1 hx
            omega
    · rw [if_neg ht]; exact .inl rfl
  · -- the prepared ones meet those that have accepted
    have hmeet : n < cnt P n + cnt (fun j => geR (A j) r0) n := by have := hp.pr; omega
    obtain ⟨j, hj, hpj, hgj⟩ := cnt_both hmeet
    obtain ⟨x, hx, hxr⟩ := geR_iff.1 hgj
    have hnl := hp.most j hj hpj x hx
    have hbr : r0 ≤ best.bal.r := by
      unfold Bal.lt at hnl
      omega
    obtain ⟨j', hj', hbest⟩ := hp.from_ (by omega)
    have hen : best.en = e0 := h4 j' hj' best hbest hbr
    have hsay : says best fresh = e0 := by unfold says; rw [if_pos (by omega)]; exact hen
    refine .inr ⟨e0, r0, h1, fun c hc => ?_, ?_, fun j hj x hx hr => ?_⟩
    · split at hc
      · rcases List.mem_append.1 hc with hc | hc
        · exact h2 c hc
        · rw [List.mem_singleton.1 hc, hsay]
      · exact h2 c hc
    · have : cnt (fun j => geR (A j) r0) n ≤ cnt (fun j => geR (D j) r0) n := cnt_mono fun j hj hg => by
        rw [geR_iff] at hg ⊢
        rw [hDL j hj]
        by_cases hq : Q j = true
        · rw [if_pos hq]
          refine ⟨_, List.mem_singleton.2 rfl, ?_⟩
          obtain ⟨y, hy, hyr⟩ := hg
          rcases h.one j hj with g0 | ⟨z, g0, _, _, g3, _⟩
          · rw [g0] at hy; cases hy
          · rw [g0] at hy
            obtain rfl := List.mem_singleton.1 hy
            show r0 ≤ b.r
            omega
        · rw [if_neg hq]; exact hg
      omega
    · rw [hDL j hj] at hx
      by_cases hq : Q j = true
      · rw [if_pos hq] at hx
        rw [List.mem_singleton.1 hx]
        exact hsay
      · rw [if_neg hq] at hx
        exact h4 j hj x hx hr
theorem PxI.agree {n : Nat} {i : Int} {A : Nat → Ac} {ch : List EnC} (h : PxI n i A ch) {c d : EnC} (hc : c ∈ ch) (hd : d ∈ ch) : c = d := by
  rcases h.chos with h0 | ⟨e0, _, _, h2, _⟩
  · rw [h0] at hc; cases hc
  · rw [h2 c hc, h2 d hd]
end Go.Vl
