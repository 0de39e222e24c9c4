/-
  makeSlice; stores and loads at places that are not literal. Nothing of the seat's program is named here.
-/
import Derived.Test.YtpegidbkplgplaaVs
import Derived.Test.YtpegidbkplgplaaVk
import Derived.Laws.MakeOwn
namespace Go.Vl
open Go.RowKit
section
variable {C : Cx} {ρ : Fr} {H : Hp} {d : Option Nat} {ty : TypeId} {pos : String} {af : Array Edge} {g : Option (Nat × Bool)} {K : Value → Hp → Prop}
theorem madeList (z : Array Value) (_hz : 0 < z.size) : ∀ n : Nat, (madeCells z (n * z.size)).toList = (List.replicate n z.toList).flatten
  | 0 => by simp [madeCells]
  | n + 1 => by
    apply List.ext_getElem?
    intro i
    have hl : (List.replicate (n + 1) z.toList).flatten.length = (n + 1) * z.size := by simp
    by_cases hi : i < (n + 1) * z.size
    · have h1 : (madeCells z ((n + 1) * z.size)).toList[i]? = some (z[i % z.size]!) := by
        simp [madeCells, hi]
      rw [h1]
      have hf : ∀ (m i : Nat), i < m * z.size → (List.replicate m z.toList).flatten[i]? = some (z[i % z.size]!) := by
        intro m
        induction m with
        | zero => intro i h; omega
        | succ m ih =>
          intro i h
          rw [List.replicate_succ, List.flatten_cons, List.getElem?_append]
          split
          · rename_i h2
            have h2 : i < z.size := by simpa using h2
            rw [Nat.mod_eq_of_lt h2]
            simp [h2]
          · rename_i h2
            have h2 : z.size ≤ i := by simpa using h2
            rw [Array.length_toList, ih (i - z.size) (by rw [Nat.succ_mul] at h; omega)]
            rw [Nat.mod_eq_sub_mod h2]
      exact (hf (n + 1) i hi).symm
    · rw [List.getElem?_eq_none (by simp [madeCells]; omega), List.getElem?_eq_none (by rw [hl]; omega)]
theorem e_makeSlice {t el : TypeId} {x : Operand} {i : TypeInfo} {z : Value} {n : Nat} {kq : IntKind} (h : ∀ b, K (.slice (some ⟨b, 0, none⟩) n n) ((b, cellsO (List.replicate n z.cells.toList).flatten el) :: H)) (hx : ev ρ x = .int kq (n : Int)) (ht : C.P.underlying t = some (.slice el)) (hi : C.P.info? el = some i) (hz : i.zero = some z) (hsz : i.size = z.cells.size) (h0 : 0 < z.cells.size) (hb : i.bytes * n ≤ 281474976710656) (h63 : n ≤ 9223372036854775807) :
    Ex C ⟨d, .makeSlice t x x, ty, pos, af, g⟩ K ρ H := by
  refine ex_new (obj := cellsO (List.replicate n z.cells.toList).flatten el) (v := fun b => .slice (some ⟨b, 0, none⟩) n n) (fun w => ?_) h
  have hb' : (i.bytes : Int) * (n : Int) ≤ 281474976710656 := by
    have h : ((i.bytes * n : Nat) : Int) ≤ 281474976710656 := by omega
    rwa [Int.natCast_mul] at h
  have hr := run_make (P := C.P) w t el i z ht hi hz kq kq (n : Int) (n : Int) (by omega) (Int.le_refl _) hb' (by omega)
  have ho : Obj.cells (madeCells z.cells (n * i.size)) el = cellsO (List.replicate n z.cells.toList).flatten el := by
    show Obj.cells _ el (0, 0) = Obj.cells _ el (0, 0)
    rw [← madeList z.cells h0 n, ← hsz, Array.toArray_toList]
  simp only [Int.toNat_natCast, ho] at hr
  rw [← hx] at hr
  simp [execOp, hr]
end
end Go.Vl
