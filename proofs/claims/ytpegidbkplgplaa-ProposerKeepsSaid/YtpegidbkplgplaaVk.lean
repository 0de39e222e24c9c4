/-
  ARRAYS; bits of unsigned integers. Nothing of the seat's program is named here.
-/
import Derived.Test.YtpegidbkplgplaaVs
namespace Go.Vl
open Go.RowKit
section
variable {P : Program} {e : World} {ρ : Fr} {H : Hp} {d : Option Nat} {ty : TypeId} {pos : String} {af : Array Edge} {g : Option (Nat × Bool)}
theorem rd_indexArr {x y : Operand} {t el n b o len k : Nat} {q : IntKind} (hx : ev ρ x = .pointer (some ⟨b, o, none⟩)) (hy : ev ρ y = .int q (k : Int)) (ht : P.underlying t = some (.array len el))
    (hs : sz P el = some n) (h1 : k < len) : Rd P e ρ H ⟨d, .indexAddr t x y, ty, pos, af, g⟩ (.pointer (some ⟨b, o + k * n, none⟩)) := fun w _ => by
  have : (Instr.indexAt t (ev ρ x) (ev ρ y)).run P w = .ok (.pointer (some ⟨b, o + k * n, none⟩)) w := by
    rw [hx, hy]
    unfold Instr.indexAt
    have hc : ((0 : Int) ≤ (k : Int) ∧ (k : Int) < (len : Int)) := ⟨by omega, by omega⟩
    simp only [asIntOf, Sem.run_bind, Sem.run_pure, Result.andThen_ok, underlying_run ht, Instr.sureAddr, hc, and_self, if_true]
    simp only [Result.andThen_ok, sizeOf_run hs, addr_add, Int.toNat_natCast]
  simp [execOp, this]
theorem rd_indexVal {x y : Operand} {t el n len k : Nat} {q : IntKind} {cs : Array Value} {v : Value} (hx : ev ρ x = .agg cs) (hy : ev ρ y = .int q (k : Int)) (ht : P.underlying t = some (.array len el))
    (hs : sz P el = some n) (h1 : k < len) (hp : partV P el cs (k * n) = some v) : Rd P e ρ H ⟨d, .index t x y, ty, pos, af, g⟩ v := fun w _ => by
  have : (Instr.index t (ev ρ x) (ev ρ y)).run P w = .ok v w := by
    rw [hx, hy]
    unfold Instr.index
    have hc : ((0 : Int) ≤ (k : Int) ∧ (k : Int) < (len : Int)) := ⟨by omega, by omega⟩
    simp only [asIntOf, Sem.run_bind, Sem.run_pure, Result.andThen_ok, underlying_run ht, hc, and_self, if_true]
    simp only [Result.andThen_ok, sizeOf_run hs, Int.toNat_natCast, partV_run hp]
  simp [execOp, this]
end
/-! bits: an unsigned integer is a natural number below a power of two -/
section
variable {P : Program} {e : World} {ρ : Fr} {H : Hp} {d : Option Nat} {ty : TypeId} {pos : String} {af : Array Edge} {g : Option (Nat × Bool)} {t yt s : TypeId} {x y : Operand} {k m : IntKind} {a b : Nat}
theorem wrapU {n : Int} (hk : k.signed = false) : k.wrap n = n % ((2 ^ k.bits : Nat) : Int) := by
  unfold IntKind.wrap
  simp only [hk, Bool.false_and, Bool.false_eq_true, if_false]
  norm_cast
theorem wrapU_id {n : Nat} (hk : k.signed = false) (hn : n < 2 ^ k.bits) : k.wrap (n : Int) = (n : Int) := by
  rw [wrapU hk]
  exact Int.emod_eq_of_lt (by omega) (by exact_mod_cast hn)
theorem ofIntN (w a : Nat) : BitVec.ofInt w (a : Int) = BitVec.ofNat w a := by
  apply BitVec.eq_of_toNat_eq
  simp
theorem rd_and (hx : ev ρ x = .int k (a : Int)) (hy : ev ρ y = .int k (b : Int)) (hk : k.signed = false) (ha : a < 2 ^ k.bits) (hb : b < 2 ^ k.bits) : Rd P e ρ H ⟨d, .binOp .and t x y yt, ty, pos, af, g⟩ (.int k ((a &&& b : Nat) : Int)) := fun w _ => by
  simp [execOp, hx, hy, eqGuard, binOp, Op.intBits]
  rw [Nat.mod_eq_of_lt ha, Nat.mod_eq_of_lt hb]
  exact wrapU_id hk (Nat.lt_of_le_of_lt Nat.and_le_left ha)
theorem rd_or (hx : ev ρ x = .int k (a : Int)) (hy : ev ρ y = .int k (b : Int)) (hk : k.signed = false) (ha : a < 2 ^ k.bits) (hb : b < 2 ^ k.bits) : Rd P e ρ H ⟨d, .binOp .or t x y yt, ty, pos, af, g⟩ (.int k ((a ||| b : Nat) : Int)) := fun w _ => by
  simp [execOp, hx, hy, eqGuard, binOp, Op.intBits]
  rw [Nat.mod_eq_of_lt ha, Nat.mod_eq_of_lt hb]
  exact wrapU_id hk (Nat.or_lt_two_pow ha hb)
theorem rd_xor (hx : ev ρ x = .int k (a : Int)) (hy : ev ρ y = .int k (b : Int)) (hk : k.signed = false) (ha : a < 2 ^ k.bits) (hb : b < 2 ^ k.bits) : Rd P e ρ H ⟨d, .binOp .xor t x y yt, ty, pos, af, g⟩ (.int k ((a ^^^ b : Nat) : Int)) := fun w _ => by
  simp [execOp, hx, hy, eqGuard, binOp, Op.intBits]
  rw [Nat.mod_eq_of_lt ha, Nat.mod_eq_of_lt hb]
  exact wrapU_id hk (Nat.xor_lt_two_pow ha hb)
theorem rd_shr {q : IntKind} (hx : ev ρ x = .int k (a : Int)) (hy : ev ρ y = .int q (b : Int)) (hb : b ≤ k.bits) : Rd P e ρ H ⟨d, .binOp .shr t x y yt, ty, pos, af, g⟩ (.int k ((a / 2 ^ b : Nat) : Int)) := fun w _ => by
  have h2 : min (b : Int).toNat k.bits = b := by rw [Int.toNat_natCast]; exact Nat.min_eq_left hb
  have h3 : (a : Int).fdiv (2 ^ b) = ((a / 2 ^ b : Nat) : Int) := by
    rw [show (2 : Int) ^ b = ((2 ^ b : Nat) : Int) from (Int.natCast_pow 2 b).symm, Int.fdiv_eq_ediv_of_nonneg _ (Int.natCast_nonneg _)]
    rfl
  have h1 : (Op.shift .shr k (a : Int) q (b : Int)).run P w = .ok (.int k ((a / 2 ^ b : Nat) : Int)) w := by
    unfold Op.shift
    rw [if_neg (by omega)]
    simp only [h2, h3]
    rfl
  simp [execOp, hx, hy, eqGuard, binOp, h1]
theorem rd_shl {q : IntKind} (hx : ev ρ x = .int k (a : Int)) (hy : ev ρ y = .int q (b : Int)) (hk : k.signed = false) (hb : b ≤ k.bits) : Rd P e ρ H ⟨d, .binOp .shl t x y yt, ty, pos, af, g⟩ (.int k ((a * 2 ^ b % 2 ^ k.bits : Nat) : Int)) := fun w _ => by
  have h2 : min (b : Int).toNat k.bits = b := by rw [Int.toNat_natCast]; exact Nat.min_eq_left hb
  have h3 : k.wrap ((a : Int) * 2 ^ b) = ((a * 2 ^ b % 2 ^ k.bits : Nat) : Int) := by
    rw [wrapU hk, show (2 : Int) ^ b = ((2 ^ b : Nat) : Int) from (Int.natCast_pow 2 b).symm]
    norm_cast
  have h1 : (Op.shift .shl k (a : Int) q (b : Int)).run P w = .ok (.int k ((a * 2 ^ b % 2 ^ k.bits : Nat) : Int)) w := by
    unfold Op.shift
    rw [if_neg (by omega)]
    simp only [h2, h3]
    rfl
  simp [execOp, hx, hy, eqGuard, binOp, h1]
theorem rd_quoU (hx : ev ρ x = .int k (a : Int)) (hy : ev ρ y = .int k (b : Int)) (hk : k.signed = false) (ha : a < 2 ^ k.bits) (hb : 0 < b) : Rd P e ρ H ⟨d, .binOp .quo t x y yt, ty, pos, af, g⟩ (.int k ((a / b : Nat) : Int)) := fun w _ => by
  have h2 : k.wrap ((a : Int).tdiv (b : Int)) = ((a / b : Nat) : Int) := by
    rw [show (a : Int).tdiv (b : Int) = ((a / b : Nat) : Int) from rfl]
    exact wrapU_id hk (Nat.lt_of_le_of_lt (Nat.div_le_self _ _) ha)
  have h1 : (Op.intDiv .quo k (a : Int) (b : Int)).run P w = .ok (.int k ((a / b : Nat) : Int)) w := by
    unfold Op.intDiv
    rw [if_neg (by omega)]
    simp only [h2]
    rfl
  simp [execOp, hx, hy, eqGuard, binOp, h1]
theorem rd_remU (hx : ev ρ x = .int k (a : Int)) (hy : ev ρ y = .int k (b : Int)) (hb : 0 < b) : Rd P e ρ H ⟨d, .binOp .rem t x y yt, ty, pos, af, g⟩ (.int k ((a % b : Nat) : Int)) := fun w _ => by
  have h1 : (Op.intDiv .rem k (a : Int) (b : Int)).run P w = .ok (.int k ((a % b : Nat) : Int)) w := by
    unfold Op.intDiv
    rw [if_neg (by omega)]
    rfl
  simp [execOp, hx, hy, eqGuard, binOp, h1]
theorem rd_notU (hx : ev ρ x = .int k (a : Int)) (hk : k.signed = false) (ha : a < 2 ^ k.bits) (hm : k.max = ((2 ^ k.bits - 1 : Nat) : Int)) : Rd P e ρ H ⟨d, .unOp .xor t x, ty, pos, af, g⟩ (.int k ((2 ^ k.bits - 1 - a : Nat) : Int)) := fun w _ => by
  have h : k.wrap ((BitVec.ofInt k.bits ((2 ^ k.bits - 1 : Nat) : Int) ^^^ BitVec.ofInt k.bits (a : Int)).toNat : Int) = ((2 ^ k.bits - 1 - a : Nat) : Int) := by
    have h0 : 0 < 2 ^ k.bits := Nat.two_pow_pos _
    have e1 : BitVec.ofInt k.bits ((2 ^ k.bits - 1 : Nat) : Int) = BitVec.allOnes k.bits := by
      apply BitVec.eq_of_toNat_eq
      rw [ofIntN, BitVec.toNat_ofNat, BitVec.toNat_allOnes, Nat.mod_eq_of_lt (by omega)]
    rw [e1, ofIntN, BitVec.allOnes_xor, BitVec.toNat_not, BitVec.toNat_ofNat, Nat.mod_eq_of_lt ha]
    exact wrapU_id hk (by omega)
  have h1 : (Op.unary .xor (.int k (a : Int))).run P w = .ok (.int k ((2 ^ k.bits - 1 - a : Nat) : Int)) w := by
    unfold Op.unary
    simp only [hk, Bool.false_eq_true, if_false, hm]
    unfold Op.intBits
    simp only [h]
    rfl
  simp [execOp, hx, h1]
end
end Go.Vl
