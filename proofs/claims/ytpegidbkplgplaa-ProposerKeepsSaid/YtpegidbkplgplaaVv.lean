/-
  Remainders and conversions of integers. Nothing of the seat's program is named here.
-/
import Derived.Test.YtpegidbkplgplaaVs
namespace Go.Vl
open Go.RowKit
section
variable {P : Program} {e : World} {ρ : Fr} {H : Hp} {d : Option Nat} {ty : TypeId} {pos : String} {af : Array Edge} {g : Option (Nat × Bool)} {t yt s : TypeId} {x y : Operand} {k m : IntKind} {a b r : Int}
theorem rd_rem (hx : ev ρ x = .int k a) (hy : ev ρ y = .int k b) (hb : b ≠ 0) : Rd P e ρ H ⟨d, .binOp .rem t x y yt, ty, pos, af, g⟩ (.int k (a.tmod b)) := fun w _ => by
  simp [execOp, hx, hy, eqGuard, binOp, Op.intDiv, hb]
theorem rd_convI (hx : ev ρ x = .int k a) (hs : P.underlying s = some (.int k)) (ht : P.underlying t = some (.int m)) (hr : m.wrap a = r) : Rd P e ρ H ⟨d, .convert s t x, ty, pos, af, g⟩ (.int m r) := fun w _ => by
  subst hr
  simp [execOp, hx, convert, underlying_run hs, underlying_run ht, Conv.intToInt]
end
section
variable {C : Cx} {ρ : Fr} {H : Hp} {d : Option Nat} {ty : TypeId} {pos : String} {af : Array Edge} {K : Value → Hp → Prop}
theorem ex_storeRow {t g n cap i sz : Nat} {x y : Operand} {cur : Array Value} {xs r : List Value} {T : TypeId} {f : Obj → Hp} {gd : Option (Nat × Bool)} (hx : ev ρ x = .pointer (some ⟨g, 0 + i * sz, none⟩)) (hy : ev ρ y = .agg r.toArray) (hs : Go.Vl.sz C.P t = some r.length) (ho : ones r = true)
    (hS : SlO T sz (.slice (some ⟨g, 0, none⟩) n cap) n xs [(g, .cells cur T (0, 0))]) (hl : r.length = sz) (hi : i < n) (hz : Zip H g (.cells cur T (0, 0)) f)
    (h : ∀ cur' xs', SlO T sz (.slice (some ⟨g, 0, none⟩) n cap) n xs' [(g, .cells cur' T (0, 0))] → K undef (f (.cells cur' T (0, 0)))) : Ex C ⟨d, .store t x y, ty, pos, af, gd⟩ K ρ H := by
  rcases hS with ⟨hlen, ⟨a, ha, hn, _⟩ | ⟨g', cap', cur', hv, hB, hn, hc, hcs, ht⟩⟩
  · omega
  · simp only [Value.slice.injEq, Option.some.injEq, Addr.mk.injEq, and_true, true_and] at hv
    obtain ⟨rfl, rfl⟩ := hv
    simp only [List.cons.injEq, Prod.mk.injEq, Obj.cells.injEq, and_true, true_and] at hB
    subst hB
    have hz' : Zip H g (cellsO cur.toList T) f := by simpa [cellsO] using hz
    have hp : i * sz + sz ≤ n * sz := by
      have h1 : (i + 1) * sz ≤ n * sz := Nat.mul_le_mul_right _ hi
      rwa [Nat.succ_mul] at h1
    have hcap : n * sz ≤ cap * sz := Nat.mul_le_mul_right _ hn
    refine ex_storeA hx hy hs ho hz' (by simp [Nat.ble_eq]; omega) rfl ?_
    refine h (putL cur.toList (0 + i * sz) r).toArray ((putL cur.toList (0 + i * sz) r).take (n * sz)) ⟨?_, .inr ⟨g, cap, _, rfl, rfl, hn, hc, ?_, ?_⟩⟩
    · rw [List.length_take, putL_length]; simp; omega
    · simp [putL_length]; exact hcs
    · simp
theorem e_storeRow {t g n cap i sz : Nat} {x y : Operand} {cur : Array Value} {xs r : List Value} {T : TypeId} {f : Obj → Hp} {gd : Option (Nat × Bool)} (h : ∀ cur' xs', SlO T sz (.slice (some ⟨g, 0, none⟩) n cap) n xs' [(g, .cells cur' T (0, 0))] → K undef (f (.cells cur' T (0, 0))))
    (hx : ev ρ x = .pointer (some ⟨g, 0 + i * sz, none⟩) := by exact rfl) (hy : ev ρ y = .agg r.toArray := by exact rfl) (hs : Go.Vl.sz C.P t = some r.length := by exact rfl) (ho : ones r = true := by exact rfl)
    (hS : SlO T sz (.slice (some ⟨g, 0, none⟩) n cap) n xs [(g, .cells cur T (0, 0))] := by assumption) (hl : r.length = sz := by exact rfl) (hi : i < n := by omega) (hz : Zp H g (.cells cur T (0, 0)) f := by infer_instance) : Ex C ⟨d, .store t x y, ty, pos, af, gd⟩ K ρ H :=
  ex_storeRow hx hy hs ho hS hl hi hz.zip h
end
end Go.Vl
