/-
  EQUALITY OF STRUCTS AND ARRAYS. Nothing of the seat's program is named here.
-/
import Derived.Test.YtpegidbkplgplaaVq
namespace Go.Vl
open Go.RowKit

def eqAr (P : Program) (E : Value → Value → Option Bool) (el : TypeId) (n : Nat) (xs ys : Array Value) : Nat → Nat → Option Bool
  | 0, _ => some true
  | k + 1, i =>
    match partV P el xs (i * n), partV P el ys (i * n) with
    | some a, some b => match E a b with
      | some true => eqAr P E el n xs ys k (i + 1)
      | some false => some false
      | none => none
    | _, _ => none
def eqW (P : Program) : Nat → TypeId → Value → Value → Option Bool
  | 0, _, _, _ => none
  | n + 1, t, x, y =>
    match P.underlying t, x, y with
    | some .bool, .bool a, .bool b => some (a == b)
    | some (.int _), .int k a, .int k' b => if k = k' then some (a == b) else none
    | some .string, .string a, .string b => some (a == b)
    | some (.struct fs), .agg xs, .agg ys => if P.stoodInHeld t = true then none else eqL P (eqW P n) fs.toList xs ys
    | some (.array len el), .agg xs, .agg ys => match sz P el with
      | some s => eqAr P (eqW P n el) el s xs ys len 0
      | none => none
    | _, _, _ => none

theorem eqAr_run {P : Program} {E : Value → Value → Option Bool} {S : Value → Value → Sem Bool} (hE : ∀ a b c, E a b = some c → ∀ w, (S a b).run P w = .ok c w) {el : TypeId} {n : Nat} {xs ys : Array Value} :
    ∀ (k i : Nat) (c : Bool), eqAr P E el n xs ys k i = some c → ∀ w,
    (do
      for i in List.range' i k do
        if !(← S (← part el xs (i * n)) (← part el ys (i * n))) then return false
      pure true : Sem Bool).run P w = .ok c w := by
  intro k
  induction k with
  | zero => intro i c h w; simp only [eqAr, Option.some.injEq] at h; subst h; rfl
  | succ k ih =>
    intro i c h w
    unfold eqAr at h
    cases h1 : partV P el xs (i * n) with
    | none => rw [h1] at h; cases h
    | some a =>
      cases h2 : partV P el ys (i * n) with
      | none => rw [h1, h2] at h; cases h
      | some b =>
        rw [h1, h2] at h
        simp only at h
        cases h3 : E a b with
        | none => rw [h3] at h; cases h
        | some r =>
          rw [h3] at h
          have hS := hE _ _ _ h3
          cases r with
          | true =>
            simp only at h
            have h4 := ih (i + 1) c h w
            simp only [List.range'_succ, List.forIn_cons, Sem.run_bind, partV_run h1, partV_run h2, Result.andThen_ok, hS, Bool.not_true, Bool.false_eq_true, if_false, Sem.run_pure] at h4 ⊢
            exact h4
          | false =>
            simp only [Option.some.injEq] at h
            subst h
            simp only [List.range'_succ, List.forIn_cons, Sem.run_bind, partV_run h1, partV_run h2, Result.andThen_ok, hS, Bool.not_false, if_true, Sem.run_pure]

theorem eqW_run {P : Program} : ∀ (n : Nat) {t : TypeId} {x y : Value} {c : Bool}, eqW P n t x y = some c → ∀ (m : Nat) (w : World), (Op.equalIn (n + m) t x y).run P w = .ok c w := by
  intro n
  induction n with
  | zero => intro t x y c h; cases h
  | succ n ih =>
    intro t x y c h m w
    rw [show n + 1 + m = (n + m) + 1 from by omega]
    unfold eqW at h
    unfold Op.equalIn
    cases hu : P.underlying t with
    | none => rw [hu] at h; cases h
    | some d =>
      rw [hu] at h
      simp only [Sem.run_bind, underlying_run hu, Result.andThen_ok]
      split at h
      · rename_i he; cases he
        simp only [Option.some.injEq] at h; subst h; rfl
      · rename_i he; cases he
        split at h
        · rename_i hk
          simp only [Option.some.injEq] at h; subst h
          simp only [hk, if_true]
          rfl
        · cases h
      · rename_i he; cases he
        simp only [Option.some.injEq] at h; subst h; rfl
      · rename_i fs xs ys he; cases he
        split at h
        · cases h
        · rename_i hs
          have h1 := eqL_run (S := Op.equalIn (n + m)) (fun t a b c hc w => ih hc m w) _ _ h w
          simp only [Sem.run_bind, program_run', Result.andThen_ok, hs, Bool.false_eq_true, if_false]
          rw [← h1]
          simp only [Array.forIn_toList, Sem.run_bind]
      · rename_i len el xs ys he; cases he
        cases hs : sz P el with
        | none => rw [hs] at h; cases h
        | some s =>
          rw [hs] at h
          simp only at h
          have h1 := eqAr_run (S := Op.equalIn (n + m) el) (fun a b c hc w => ih hc m w) _ _ _ h w
          simp only [Sem.run_bind, sizeOf_run hs, Result.andThen_ok]
          rw [← h1]
          simp only [Std.Legacy.Range.forIn_eq_forIn_range', Std.Legacy.Range.size, Nat.sub_zero, Nat.add_sub_cancel, Nat.div_one, Sem.run_bind]
      · cases h

section
variable {P : Program} {e : World} {ρ : Fr} {H : Hp} {d : Option Nat} {ty : TypeId} {pos : String} {af : Array Edge} {g : Option (Nat × Bool)} {t yt : TypeId} {x y : Operand}
theorem rd_eqA {X Y : Array Value} {c : Bool} (hx : ev ρ x = .agg X) (hy : ev ρ y = .agg Y) (hg : P.eqGuardType P.depth t = false) (h : eqW P 4 t (.agg X) (.agg Y) = some c) :
    Rd P e ρ H ⟨d, .binOp .eql t x y yt, ty, pos, af, g⟩ (.bool c) := fun w _ => by
  have h1 : (Op.equal t (.agg X) (.agg Y)).run P w = .ok c w := eqW_run 4 h 9996 w
  show Sem.run P (do pure (Next.value (← (do eqGuard .eql t x y (ev ρ x) (ev ρ y); binOp .eql t (ev ρ x) (ev ρ y))))) w = _
  rw [hx, hy, Sem.run_bind, Sem.run_bind, eqGuard_run (.inl rfl) hg]
  show ((do pure (.bool (← Op.equal t (.agg X) (.agg Y))) : Sem Value).run P w).andThen _ = _
  rw [Sem.run_bind, h1]
  rfl
theorem rd_neA {X Y : Array Value} {c v : Bool} (hx : ev ρ x = .agg X) (hy : ev ρ y = .agg Y) (hg : P.eqGuardType P.depth t = false) (h : eqW P 4 t (.agg X) (.agg Y) = some c) (hv : (!c) = v) :
    Rd P e ρ H ⟨d, .binOp .neq t x y yt, ty, pos, af, g⟩ (.bool v) := fun w _ => by
  subst hv
  have h1 : (Op.equal t (.agg X) (.agg Y)).run P w = .ok c w := eqW_run 4 h 9996 w
  show Sem.run P (do pure (Next.value (← (do eqGuard .neq t x y (ev ρ x) (ev ρ y); binOp .neq t (ev ρ x) (ev ρ y))))) w = _
  rw [hx, hy, Sem.run_bind, Sem.run_bind, eqGuard_run (.inr rfl) hg]
  show ((do pure (.bool (!(← Op.equal t (.agg X) (.agg Y)))) : Sem Value).run P w).andThen _ = _
  rw [Sem.run_bind, h1]
  rfl
end
/-! what is held against itself -/
def eqRL (P : Program) (E : TypeId → Value → Bool) (xs : Array Value) : List Field → Bool
  | [] => true
  | f :: fs => !(f.name == "_") && (match partV P f.type xs f.offset with | some a => E f.type a | none => false) && eqRL P E xs fs
def eqRA (P : Program) (E : Value → Bool) (el : TypeId) (n : Nat) (xs : Array Value) : Nat → Nat → Bool
  | 0, _ => true
  | k + 1, i => (match partV P el xs (i * n) with | some a => E a | none => false) && eqRA P E el n xs k (i + 1)
def eqR (P : Program) : Nat → TypeId → Value → Bool
  | 0, _, _ => false
  | n + 1, t, x =>
    match P.underlying t, x with
    | some .bool, .bool _ => true
    | some (.int _), .int _ _ => true
    | some .string, .string _ => true
    | some (.struct fs), .agg xs => !P.stoodInHeld t && eqRL P (eqR P n) xs fs.toList
    | some (.array len el), .agg xs => match sz P el with
      | some s => eqRA P (eqR P n el) el s xs len 0
      | none => false
    | _, _ => false
theorem eqRL_sound {P : Program} {E : TypeId → Value → Bool} {S : TypeId → Value → Value → Option Bool} (hE : ∀ t a, E t a = true → S t a a = some true) {xs : Array Value} : ∀ fs, eqRL P E xs fs = true → eqL P S fs xs xs = some true
  | [], _ => rfl
  | f :: fs, h => by
    unfold eqRL at h
    simp only [Bool.and_eq_true, Bool.not_eq_true', beq_eq_false_iff_ne, ne_eq] at h
    obtain ⟨⟨h1, h2⟩, h3⟩ := h
    unfold eqL
    rw [if_neg h1]
    cases hp : partV P f.type xs f.offset with
    | none => rw [hp] at h2; cases h2
    | some a =>
      rw [hp] at h2
      simp only at h2 ⊢
      rw [hE _ _ h2]
      exact eqRL_sound hE fs h3
theorem eqRA_sound {P : Program} {E : Value → Bool} {S : Value → Value → Option Bool} (hE : ∀ a, E a = true → S a a = some true) {el : TypeId} {n : Nat} {xs : Array Value} : ∀ k i, eqRA P E el n xs k i = true → eqAr P S el n xs xs k i = some true
  | 0, _, _ => rfl
  | k + 1, i, h => by
    unfold eqRA at h
    rw [Bool.and_eq_true] at h
    unfold eqAr
    cases hp : partV P el xs (i * n) with
    | none => rw [hp] at h; exact absurd h.1 (by simp)
    | some a =>
      rw [hp] at h
      simp only at h ⊢
      rw [hE _ h.1]
      exact eqRA_sound hE k (i + 1) h.2
theorem eqW_refl {P : Program} : ∀ {n : Nat} {t : TypeId} {x : Value}, eqR P n t x = true → eqW P n t x x = some true := by
  intro n
  induction n with
  | zero => intro t x h; cases h
  | succ n ih =>
    intro t x h
    unfold eqR at h
    unfold eqW
    split at h
    · rename_i h1; rw [h1]; simp
    · rename_i h1; rw [h1]; simp
    · rename_i s h1; rw [h1]; exact congrArg some (show (s.data == s.data) = true from beq_self_eq_true _)
    · rename_i fs xs h1
      rw [h1]
      simp only [Bool.and_eq_true, Bool.not_eq_true'] at h
      simp only [h.1, Bool.false_eq_true, if_false]
      exact eqRL_sound (fun t a => ih) _ h.2
    · rename_i len el xs h1
      rw [h1]
      simp only
      cases hs : sz P el with
      | none => rw [hs] at h; cases h
      | some s =>
        rw [hs] at h
        exact eqRA_sound (fun a => ih) _ _ h
    · cases h
end Go.Vl
