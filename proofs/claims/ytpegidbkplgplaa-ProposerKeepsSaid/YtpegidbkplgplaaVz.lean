/-
  REGIONS WHOSE ORDER IS LEFT OPEN AND IN WHICH TWO CHANGES MAY CHANGE PLACES: both orders are walked. Nothing of the seat's program is named here.
-/
import Derived.Test.YtpegidbkplgplaaVs
namespace Go.Vl
open Go.RowKit
structure Fork (p q : Prop) : Prop where
  l : p
  r : q
theorem fork_mk {p q : Prop} (h1 : p) (h2 : q) : Fork p q := ⟨h1, h2⟩
def planK (ops : Array Oper) (k : Array Bool → Bool) : List Nat → Array Bool → Bool
  | [], listed => k listed
  | i :: pl, listed =>
    (match ops[i]? with
      | some o => bif isRd o.op then (Region.ready .any ops listed).contains i && Region.free .any ops listed i else Region.ready .any ops listed == [i]
      | none => false) && planK ops k pl (listed.setIfInBounds i true)
def noRd (ops : Array Oper) (i : Nat) : Bool := match ops[i]? with | some o => !isRd o.op | none => false
def forkOK (ops : Array Oper) (i j : Nat) (p1 p2 : List Nat) (listed : Array Bool) : Bool :=
  (Region.ready .any ops listed == [i, j]) && noRd ops i && noRd ops j && planOK ops p1 (listed.setIfInBounds i true) && planOK ops p2 (listed.setIfInBounds j true)
theorem anyV_of_wpDk {C : Cx} {ops : Array Oper} {Hs : Hp} {Q Q' : Post} {ds : List Nat} {k : Array Bool → Bool} {n : Nat} (hn : (Hs.map Prod.fst).Nodup) (hs : Region.noSelect ops = true)
    (hk : ∀ (listed : Array Bool) (ρ : Fr) (H : Hp) (fuel : Nat), n ≤ fuel → k listed = true → Closed ops listed → Good ops Hs listed H → Q' .normal ρ ds H → anyV C ops Hs Q fuel listed ρ ds H) :
    ∀ (pl : List Nat) (listed : Array Bool) (ρ : Fr) (H : Hp) (fuel : Nat), pl.length + n ≤ fuel → planK ops k pl listed = true → Closed ops listed → Good ops Hs listed H → wpD C ops Hs Q' pl ρ ds H → anyV C ops Hs Q fuel listed ρ ds H := by
  intro pl
  induction pl with
  | nil =>
    intro listed ρ H fuel hf hp hcl hsub h
    exact hk listed ρ H fuel (by simpa using hf) hp hcl hsub h
  | cons i pl ih =>
    intro listed ρ H fuel hf hp hcl hsub h
    obtain ⟨f, rfl⟩ : ∃ f, fuel = f + 1 := ⟨fuel - 1, by simp at hf; omega⟩
    have hf2 : pl.length + n ≤ f := by simp at hf; omega
    clear hf
    have hf := hf2
    clear hf2
    unfold planK at hp
    simp only [Bool.and_eq_true] at hp
    obtain ⟨hp1, hp2⟩ := hp
    cases ho : ops[i]? with
    | none => rw [ho] at hp1; cases hp1
    | some o =>
      rw [ho] at hp1
      obtain ⟨hd, h1⟩ := h o ho
      rcases h1 with ⟨hrd, v, hv, hk⟩ | ⟨hrd, h1⟩
      · simp only [hrd, cond_true, Bool.and_eq_true] at hp1
        have hir : i ∈ Region.ready .any ops listed := by simpa using hp1.1
        exact anyV_first ho hn (Region.noSelect_spec hs) hd hrd f listed ρ H (Region.free_spec ho hp1.2) hcl hir hv hsub (ih _ _ _ _ hf hp2 (closed_set hcl hir) (good_mono i hsub) hk)
      · simp only [hrd, cond_false, beq_iff_eq] at hp1
        refine ⟨hsub, fun h0 => (by rw [hp1] at h0; cases h0), fun j hj oj hoj => ?_⟩
        have hjr := hj
        rw [hp1] at hj
        have hj' : j = i := by simpa using hj
        subst hj'
        rw [ho] at hoj; cases hoj
        refine ⟨hd, ?_⟩
        rcases h1 with ⟨w1, w2⟩ | ⟨w1, w2⟩
        · refine .inl ⟨w1, w2.mono fun u H' ⟨k1, k2⟩ => ih _ _ _ _ hf hp2 (closed_set hcl hjr) ?_ k2⟩
          rcases k1 with k1 | k1
          · refine .inl ⟨j, ?_, k1⟩
            have h0 := (mem_ready.1 hjr).1
            have hlt : j < listed.size := by
              rcases Nat.lt_or_ge j listed.size with h | h
              · exact h
              · simp [h] at h0
            simp [hlt]
          · exact .inr k1.all
        · exact .inr ⟨w1, ih _ _ _ _ hf hp2 (closed_set hcl hjr) (good_mono j hsub) w2⟩
theorem anyV_fork {C : Cx} {ops : Array Oper} {Hs : Hp} {Q : Post} {ds : List Nat} {i j : Nat} {p1 p2 : List Nat} (hn : (Hs.map Prod.fst).Nodup) (hs : Region.noSelect ops = true)
    (listed : Array Bool) (ρ : Fr) (H : Hp) (fuel : Nat) (hf : max p1.length p2.length + 1 ≤ fuel) (hk : forkOK ops i j p1 p2 listed = true) (hcl : Closed ops listed) (hsub : Good ops Hs listed H)
    (h : Fork (wpD C ops Hs Q (i :: p1) ρ ds H) (wpD C ops Hs Q (j :: p2) ρ ds H)) : anyV C ops Hs Q fuel listed ρ ds H := by
  obtain ⟨f, rfl⟩ : ∃ f, fuel = f + 1 := ⟨fuel - 1, by omega⟩
  unfold forkOK at hk
  simp only [Bool.and_eq_true, beq_iff_eq] at hk
  obtain ⟨⟨⟨⟨hr, n1⟩, n2⟩, o1⟩, o2⟩ := hk
  have step : ∀ (t : Nat) (p : List Nat), t ∈ Region.ready .any ops listed → noRd ops t = true → planOK ops p (listed.setIfInBounds t true) = true → p.length ≤ f → wpD C ops Hs Q (t :: p) ρ ds H →
      ∀ o, ops[t]? = some o → opV C ops o (fun ρ' H' => anyV C ops Hs Q f (listed.setIfInBounds t true) ρ' ds H') ρ H := fun t p ht hnr hpl hle hw o ho => by
    obtain ⟨hd, h1⟩ := hw o ho
    refine ⟨hd, ?_⟩
    unfold noRd at hnr
    rw [ho] at hnr
    rcases h1 with ⟨hrd, _⟩ | ⟨hrd, h1⟩
    · simp only [hrd] at hnr; cases hnr
    · rcases h1 with ⟨w1, w2⟩ | ⟨w1, w2⟩
      · refine .inl ⟨w1, w2.mono fun u H' ⟨k1, k2⟩ => anyV_of_wpD hn hs p _ _ _ f hle hpl (closed_set hcl ht) ?_ k2⟩
        rcases k1 with k1 | k1
        · refine .inl ⟨t, ?_, k1⟩
          have h0 := (mem_ready.1 ht).1
          have hlt : t < listed.size := by
            rcases Nat.lt_or_ge t listed.size with h | h
            · exact h
            · simp [h] at h0
          simp [hlt]
        · exact .inr k1.all
      · exact .inr ⟨w1, anyV_of_wpD hn hs p _ _ _ f hle hpl (closed_set hcl ht) (good_mono t hsub) w2⟩
  refine ⟨hsub, fun h0 => (by rw [hr] at h0; cases h0), fun t ht o ho => ?_⟩
  have ht' := ht
  rw [hr] at ht'
  have : t = i ∨ t = j := by simpa using ht'
  rcases this with rfl | rfl
  · exact step _ p1 ht n1 o1 (by omega) h.l o ho
  · exact step _ p2 ht n2 o2 (by omega) h.r o ho
theorem wpC_drawF {C : Cx} {Q : Post} {ρ : Fr} {ds : List Nat} {H A B : Hp} {id : Nat} {ops : Array Oper} (Ts : List TypeId) (p0 : List Nat) (i j : Nat) (p1 p2 : List Nat) (hm : C.P.follows .mixedOrders = true)
    (hp : (planK ops (forkOK ops i j p1 p2) p0 (Array.replicate ops.size false) && Region.noSelect ops && Nat.ble (p0.length + (max p1.length p2.length + 1)) ops.size) = true) (hpk : Kp Ts H A B)
    (h : wpD C ops A (fun _ ρ ds H => Fork (wpD C ops A Q (i :: p1) ρ ds H) (wpD C ops A Q (j :: p2) ρ ds H)) p0 ρ ds H) : wpC C (.region id ops true) Q ρ ds H := by
  intro a w ha hw
  simp only [Bool.and_eq_true] at hp
  have hk := hw.perm hpk.perm
  exact wpIn_region_any hm (anyV_sound _ _ _ _ (anyV_of_wpDk (Q' := fun _ ρ ds H => Fork (wpD C ops A Q (i :: p1) ρ ds H) (wpD C ops A Q (j :: p2) ρ ds H)) hk.left.nodup hp.1.2 (fun listed ρ H fuel h1 h2 h3 h4 h5 => anyV_fork hk.left.nodup hp.1.2 listed ρ H fuel h1 h2 h3 h4 h5) p0 _ ρ H _ (Nat.le_of_ble_eq_true hp.2) hp.1.1
    (fun j oj _ hl => (by rw [Array.getD_eq_getD_getElem?, Array.getElem?_replicate] at hl; split at hl <;> simp at hl)) (.inr fun x hx => hpk.perm.mem_iff.2 (List.mem_append_left _ hx)) h) a _ ha (hw.drawn _))
end Go.Vl
