/-
  Save while a fuse burns; Load of what a crash has left. No program in sight.
-/
import Derived.Test.YtkamfmdonhaikaaGreatXQ
namespace Go.Vl
open Go.Proofs Go.RowKit
abbrev okO (o : Option (Int × List UInt8)) : Prop := ∀ p, o = some p → (encP p.1 p.2).2 = 0
set_option maxHeartbeats 4000000 in
set_option maxRecDepth 100000 in
theorem totA_o (o : Option (Int × List UInt8)) : totA (oneA o) ≤ 1048600 := by
  cases o with
  | none => simp [oneA, totA]
  | some p => simp only [oneA, totA_one]; exact enc_bytes _ _
set_option maxHeartbeats 4000000 in
set_option maxRecDepth 100000 in
theorem chgx_one {s : DS} {L : List Ab} (h : s.left = 1) : s.chg L = (7, s.boom s.keep) := by
  unfold DS.chg
  rw [if_pos h]
set_option maxHeartbeats 4000000 in
set_option maxRecDepth 100000 in
theorem chgx_more {s : DS} {L : List Ab} (h : s.left ≠ 1) : s.chg L = (0, ⟨L, if s.left = 0 then 0 else s.left - 1, s.keep, s.down⟩) := by
  unfold DS.chg
  rw [if_neg h]
set_option maxHeartbeats 4000000 in
set_option maxRecDepth 100000 in
theorem fell_one (o : Option (Int × List UInt8)) (y : List UInt8) (k n : Nat) : ∃ y' k', y'.length ≤ y.length ∧ (oneA o ++ [(newN, y, k)]).map (fell n) = oneA o ++ [(newN, y', k')] := by
  refine ⟨(fell n (newN, y, k)).2.1, (fell n (newN, y, k)).2.2, (by simp only [fell, List.length_take]; omega), ?_⟩
  rw [List.map_append]
  congr 1
  cases o with
  | none => rfl
  | some p =>
    show [fell n _] = _
    rw [fell_full]
    rfl
set_option maxHeartbeats 4000000 in
set_option maxRecDepth 100000 in
theorem save_fuse {room : Int} {o : Option (Int × List UInt8)} {s : DS} {slot : Int} {bs : List UInt8} (hL : s.L = oneA o) (hd : s.down = false) (h0 : 0 ≤ s.left) (he : (encP slot bs).2 = 0) :
    (saveA room s slot bs = (6, s) ∧ room < ((encP slot bs).1.length : Int) + totA s.L) ∨ ((∃ y k, y.length ≤ 1048600 ∧ saveA room s slot bs = (7, ⟨oneA o ++ [(newN, y, k)], 0, 0, true⟩)) ∧ 1 ≤ s.left ∧ s.left ≤ 3) ∨ ∃ l, saveA room s slot bs = (0, ⟨oneA (some (slot, bs)), l, s.keep, false⟩) := by
  obtain ⟨L, left, keep, down⟩ := s
  simp only at hL hd h0 ⊢
  subst hL hd
  have hlen := one_len o
  unfold saveA putA
  rw [if_neg (by rw [he]; simp), if_neg (by simp), clr_one (o := o) rfl, then_ok (r := (0, _)) rfl]
  have hyb := enc_bytes slot bs
  generalize hy : (encP slot bs).1 = y at *
  simp only
  by_cases h : room < (y.length : Int) + totA (oneA o)
  · left
    have : DS.append room ⟨oneA o, left, keep, false⟩ newN y = (6, ⟨oneA o, left, keep, false⟩) := by
      unfold DS.append
      rw [if_neg (by simp), if_neg (fun h => h newN_ok), if_neg (fun h => by have := h.2; simp only at this; omega), if_pos h]
    rw [this, then_err (r := (6, _)) (show (6 : Int) ≠ 0 by decide), then_err (r := (6, _)) (show (6 : Int) ≠ 0 by decide)]
    exact ⟨rfl, h⟩
  · right
    have e0 : DS.append room ⟨oneA o, left, keep, false⟩ newN y = (⟨oneA o ++ [(newN, y, 0)], left, keep, false⟩ : DS).chg (oneA o ++ [(newN, y, 0)]) := by
      unfold DS.append
      rw [if_neg (by simp), if_neg (fun h => h newN_ok), if_neg (fun h => by have := h.2; simp only at this; omega), if_neg h, appd_one]
    have e2 : ∀ l : Int, DS.sync ⟨oneA o ++ [(newN, y, 0)], l, keep, false⟩ newN = (⟨oneA o ++ [(newN, y, 0)], l, keep, false⟩ : DS).chg (oneA o ++ [(newN, y, y.length)]) := by
      intro l
      unfold DS.sync DS.there
      rw [if_neg (by simp), if_neg (fun h => h newN_ok), if_neg (fun h => h (has_app _ _ _)), syn_one]
    have e3 : ∀ l : Int, DS.rename ⟨oneA o ++ [(newN, y, y.length)], l, keep, false⟩ newN nowN = (⟨oneA o ++ [(newN, y, y.length)], l, keep, false⟩ : DS).chg [(nowN, y, y.length)] := by
      intro l
      unfold DS.rename DS.there
      rw [if_neg (by simp), if_neg (fun h => h ⟨newN_ok, nowN_ok⟩), if_neg (fun h => h (has_app _ _ _)), ren_one]
    have e7 : (7 : Int) ≠ 0 := by decide
    rw [e0]
    by_cases h1 : left = 1
    · left
      obtain ⟨y', k', hyl, hf⟩ := fell_one o y 0 keep
      rw [chgx_one h1, then_err (r := (7, _)) e7, then_err (r := (7, _)) e7]
      exact ⟨⟨y', k', by omega, by unfold DS.boom; simp only; rw [hf]⟩, by omega, by omega⟩
    · rw [chgx_more h1, then_ok (r := (0, _)) rfl]
      simp only
      rw [e2]
      by_cases h2 : left = 2
      · left
        obtain ⟨y', k', hyl, hf⟩ := fell_one o y 0 keep
        subst h2
        rw [chgx_one (by simp), then_err (r := (7, _)) e7]
        exact ⟨⟨y', k', by omega, by unfold DS.boom; simp only; rw [hf]⟩, by omega, by omega⟩
      · rw [chgx_more (by simp only; split <;> omega), then_ok (r := (0, _)) rfl]
        simp only
        rw [e3]
        by_cases h3 : left = 3
        · left
          obtain ⟨y', k', hyl, hf⟩ := fell_one o y y.length keep
          subst h3
          rw [chgx_one (by simp)]
          exact ⟨⟨y', k', by omega, by unfold DS.boom; simp only; rw [hf]⟩, by omega, by omega⟩
        · right
          rw [chgx_more (by simp only; split <;> (try split) <;> omega)]
          rw [show oneA (some (slot, bs)) = [(nowN, y, y.length)] from by simp only [oneA, hy]]
          exact ⟨_, rfl⟩
set_option maxHeartbeats 4000000 in
set_option maxRecDepth 100000 in
theorem load_left {o : Option (Int × List UInt8)} {s : DS} {y : List UInt8} {k : Nat} (hL : s.L.Perm (oneA o ++ [(newN, y, k)])) (hd : s.down = false) (hl : s.left = 0) (he : okO o) : (loadA s).1 = ansA o := by
  have hE : s.E ⟨oneA o ++ [(newN, y, k)], 0, s.keep, false⟩ := ⟨hL, hl, rfl, hd⟩
  obtain ⟨h1, h2⟩ := clr_E hE
  have hc : clrA ⟨oneA o ++ [(newN, y, k)], 0, s.keep, false⟩ = (0, ⟨oneA o, 0, s.keep, false⟩) := by
    unfold clrA
    rw [if_pos (has_app _ _ _)]
    unfold DS.remove DS.there
    rw [if_neg (by simp), if_neg (fun h => h newN_ok), if_neg (fun h => h (has_app _ _ _)), chg_free rfl, del_one]
  rw [hc] at h1 h2
  simp only at h1 h2
  have hs := E_one h2
  have hlo := load_one (s := ⟨oneA o, 0, s.keep, false⟩) (o := o) rfl rfl he
  unfold loadA at hlo ⊢
  rw [clr_one (o := o) rfl, if_neg (by simp), if_neg (by simp)] at hlo
  rw [if_neg (by simp [hd]), h1, hs, if_neg (by simp)]
  split
  · rename_i hne
    rw [if_pos hne] at hlo
    exact congrArg Prod.fst hlo
  · rename_i hne
    rw [if_neg hne] at hlo
    exact congrArg Prod.fst hlo
set_option maxHeartbeats 4000000 in
set_option maxRecDepth 100000 in
theorem rencode_E (e : World) {slot er : Int} {bs y : List UInt8} {v : Value} {Bs F : Hp} {K : Value → Hp → Prop} (hin : InSl Bs 1 (bs.map byC) v) (hl : bs.length ≤ 140737488355000) (hR : encP slot bs = (y, er))
    (hK : ∀ v' B', BytO v' y B' → K (.tuple #[v', .int .i64 er]) (B' ++ (Bs ++ F))) : callsK Tryz.prog e 46 #[.int .i64 slot, v] (Bs ++ F) K := rencode_spec e hin hl (by rw [hR]; exact hK)
set_option maxHeartbeats 4000000 in
set_option maxRecDepth 100000 in
theorem encode_E (e : World) {slot er : Int} {bs y : List UInt8} {v : Value} {Bs F : Hp} {K : Value → Hp → Prop} (hin : InSl Bs 1 (bs.map byC) v) (hl : bs.length ≤ 140737488355000) (hR : encP slot bs = (y, er))
    (hK : ∀ v' B', BytO v' y B' → K (.tuple #[v', .int .i64 er]) (B' ++ (Bs ++ F))) : callsK Tryz.prog e 31 #[.int .i64 slot, v] (Bs ++ F) K := encode_spec e hin hl (by rw [hR]; exact hK)
end Go.Vl
