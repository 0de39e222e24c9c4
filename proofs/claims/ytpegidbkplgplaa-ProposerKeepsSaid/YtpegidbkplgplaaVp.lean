/-
  append of a make onto nothing; the beginning of a slice that is owned.
-/
import Derived.Test.YtpegidbkplgplaaVk
import Derived.Test.YtpegidbkplgplaaVs
import Derived.Lib.AppendZeros
namespace Go.Vl
open Go.RowKit
theorem rd_cap {P : Program} {e : World} {ρ : Fr} {H : Hp} {d : Option Nat} {ty : TypeId} {pos : String} {af : Array Edge} {g : Option (Nat × Bool)} {x : Operand} {ats : Array TypeId} {t el : TypeId} {a : Option Addr} {n c : Nat} (hx : ev ρ x = .slice a n c) (ha : ats[0]? = some t) (ht : P.underlying t = some (.slice el)) :
    Rd P e ρ H ⟨d, .call ⟨.builtin .cap, #[x], ats⟩, ty, pos, af, g⟩ (.int .i64 c) := fun w _ => by
  simp [execOp, resolve, invoke, Go.builtin, Builtin.cap_, ha, underlying_run ht, hx, goInt]
theorem rd_sliceNil {P : Program} {e : World} {ρ : Fr} {H : Hp} {d : Option Nat} {ty : TypeId} {pos : String} {af : Array Edge} {g : Option (Nat × Bool)} {x y : Operand} {t el : TypeId} {n : Nat} {q : IntKind} (hx : ev ρ x = .slice none 0 0) (hy : ev ρ y = .int q ((0 : Nat) : Int)) (ht : P.underlying t = some (.slice el)) (hs : sz P el = some n) :
    Rd P e ρ H ⟨d, .slice t x none (some y) none, ty, pos, af, g⟩ (.slice none 0 0) := fun w _ => by
  have h0 : (Instr.sliceAt t (ev ρ x) none (some (ev ρ y)) none).run P w = .ok (.slice none 0 0) w := by
    rw [hx, hy]
    unfold Instr.sliceAt Instr.slice Instr.sliceBounds Instr.sliceBound
    simp [Sem.run_bind, underlying_run ht, Result.andThen_ok, asIntOf, sizeOf_run hs]
  simp [execOp, h0]
section
variable {C : Cx} {ρ : Fr} {H : Hp} {d : Option Nat} {ty : TypeId} {pos : String} {af : Array Edge} {g : Option (Nat × Bool)} {K : Value → Hp → Prop}
theorem e_appendMk {x y : Operand} {t tn e : TypeId} {i : TypeInfo} {z : Value} {sz bytes n : Nat} {kq kn : IntKind}
    (h : ∀ v' xs Bs', SlO e sz v' n xs Bs' → K v' (Bs' ++ H)) (hx : ev ρ x = .slice none 0 0 := by exact rfl) (hy : ev ρ y = .int kq (n : Int) := by exact rfl) (ht : C.P.underlying t = some (.slice e) := by exact rfl) (htn : C.P.underlying tn = some (.int kn) := by exact rfl) (hi : C.P.info? e = some i := by exact rfl) (hz : i.zero = some z := by exact rfl) (hsize : i.size = sz := by exact rfl) (hby : i.bytes = bytes := by (conv => lhs; whnf)) (hzs : z.cells.size = sz := by exact rfl) (hsz : Nat.blt 0 sz = true := by exact rfl)
    (h0 : 0 < n := by omega) (h63 : n ≤ maxLen := by (unfold maxLen; omega)) (hbytes : n * bytes ≤ 140737488355328 := by (first | omega | (show _ * 1 ≤ _; omega))) : Ex C ⟨d, .call ⟨.builtin .append, #[x, y], #[t, tn]⟩, ty, pos, af, g⟩ K ρ H := fun w hw => by
  subst hsize
  subst hby
  have hs0 : 0 < i.size := by simpa [Nat.blt_eq] using hsz
  have hr := Lib.run_append_nil_zeros (P := C.P) w t tn ty e i z kq kn ht htn hi hz n h0 hs0 (by simp only [maxLen] at h63; omega) (by omega)
  have : (execOp (ev ρ) ⟨d, .call ⟨.builtin .append, #[x, y], #[t, tn]⟩, ty, pos, af, g⟩).run C.P w = .ok (.value (.slice (some ⟨w.heap.size, 0, none⟩) n (grownCap w n 0 e))) (w.drew.alloc (.cells (Builtin.zeroCells z.cells n ++ Builtin.zeroCells z.cells (grownCap w n 0 e - n)) e)) := by
    rw [← hx, ← hy] at hr
    simp [execOp, resolve, invoke, Go.builtin, hr]
  rw [this]
  have hcm := grownCap_le_maxLen w n 0 e h63
  have hge := grownCap_ge w n 0 e
  refine ⟨_, (hw.drawn w.drew.drawn).alloc _, h _ (Builtin.zeroCells z.cells n).toList [_] ⟨?_, .inr ⟨w.heap.size, _, _, rfl, rfl, hge, hcm, ?_, ?_⟩⟩⟩
  · rw [Array.length_toList, size_zeroCells, hzs]
  · rw [Array.size_append, size_zeroCells, size_zeroCells, hzs, ← Nat.add_mul]
    apply Nat.le_of_eq
    congr 1
    omega
  · rw [Array.toList_append]
    exact List.take_left' (by rw [Array.length_toList, size_zeroCells, hzs])
end
section
variable {C : Cx} {ops : Array Oper} {Hs : Hp} {Q : Post} {pl : List Nat} {rest : List Oper} {ρ : Fr} {ds : List Nat} {H : Hp}
variable {ty : TypeId} {pos : String} {af : Array Edge} {g : Option (Nat × Bool)} {d : Nat} {v : Value} {x y : Operand} {t el : TypeId} {n k m : Nat} {q : IntKind} {xs : List Value} {Bs : Hp}
theorem s_sliceHiO (h : ∀ v', SlO el n v' k (xs.take (k * n)) Bs → wpO C ops Q rest (upd ρ d v') ds H) (hx : ev ρ x = v := by (conv => lhs; whnf)) (hS : SlO el n v m xs Bs := by assumption) (hy : ev ρ y = .int q (k : Int) := by exact rfl) (ht : C.P.underlying t = some (.slice el) := by exact rfl) (hs : sz C.P el = some n := by exact rfl) (hk : k ≤ m := by omega) (hw : wantV C.N ops ρ ⟨some d, .slice t x none (some y) none, ty, pos, af, g⟩ = true := by exact rfl) (hd : Nat.blt d C.N = true := by exact rfl) : wpO C ops Q (⟨some d, .slice t x none (some y) none, ty, pos, af, g⟩ :: rest) ρ ds H :=
  let ⟨_, h1, h2⟩ := rd_sliceHiO hx hS hy ht hs hk; wpO_rds hw hd h2 (h _ h1)
end
/-- a list of slices, in one block -/
theorem inSl_vals {α : Type} (b : Nat) (ps : List α) (f : α → Value) (h1 : ∀ p ∈ ps, (f p).oneCell' = true) (T : TypeId) : InSl [(b, cellsO (ps.map f) T)] 1 (ps.map fun p => [f p]) (.slice (some ⟨b, 0, none⟩) ps.length ps.length) := by
  have hfl : (ps.map fun p => [f p]).flatten = ps.map f := by induction ps with
    | nil => rfl
    | cons p ps ih => simp [ih (fun q hq => h1 q (List.mem_cons_of_mem _ hq))]
  refine ⟨_, _, by rw [List.length_map], by rw [List.length_map]; exact Nat.le_refl _, fun r hr => ?_, .inr ⟨b, 0, _, T, (0, 0), rfl, List.mem_cons_self, ?_⟩⟩
  · obtain ⟨p, hp, rfl⟩ := List.mem_map.1 hr
    exact ⟨rfl, by simp [ones, h1 p hp]⟩
  · refine ⟨by rw [hfl]; simp, fun j u hj => ?_⟩
    rw [hfl] at hj
    simpa using hj
end Go.Vl
