/-
  THE SMALL LOGIC's RULES, CONTINUED: structs and slices that are built, lengths, indexes, slicing, appending. Nothing of the seat's program is named here.
-/
import Derived.Test.YtpegidbkplgplaaVe
import Derived.Laws.AppendOwn
namespace Go.Vl
open Go.RowKit

def valL : Value → List Value
  | .agg cs => cs.toList
  | v => [v]
theorem valL_cells (v : Value) : v.cells = (valL v).toArray := by cases v <;> first | rfl | simp [Value.cells, valL]
theorem valL_agg (l : List Value) : valL (.agg l.toArray) = l := by simp [valL]

theorem putL_fold : ∀ (vs : List Value) (cs : List Value) (off k : Nat), (vs.zipIdx k).foldl (fun (cs : Array Value) (x : Value × Nat) => cs.setIfInBounds (off + x.2) x.1) cs.toArray = (putL cs (off + k) vs).toArray
  | [], _, _, _ => rfl
  | v :: vs, cs, off, k => by
    simp only [List.zipIdx_cons, List.foldl_cons, List.setIfInBounds_toArray]
    rw [putL_fold vs (cs.set (off + k) v) off (k + 1)]
    rfl

def fillL (place : Nat → Option (Nat × Nat)) (cells : List Value) : List (Nat × Value) → Option (List Value)
  | [] => some cells
  | (i, v) :: rest =>
    match place i with
    | none => none
    | some (off, size) => bif Nat.beq (valL v).length size then (bif Nat.ble (off + (valL v).length) cells.length then fillL place (putL cells off (valL v)) rest else none) else none

theorem fill_of {place : Nat → Option (Nat × Nat)} : ∀ {parts : List (Nat × Value)} {cells r : List Value}, fillL place cells parts = some r → Instr.fill place cells.toArray parts = some r.toArray
  | [], cells, r, h => by simp only [fillL, Option.some.injEq] at h; subst h; rfl
  | (i, v) :: rest, cells, r, h => by
    unfold fillL at h
    unfold Instr.fill
    cases hp : place i with
    | none => rw [hp] at h; cases h
    | some x =>
      obtain ⟨off, size⟩ := x
      rw [hp] at h
      simp only at h ⊢
      cases h1 : Nat.beq (valL v).length size with
      | false => rw [h1] at h; cases h
      | true =>
        cases h2 : Nat.ble (off + (valL v).length) cells.length with
        | false => rw [h1, h2] at h; cases h
        | true =>
          rw [h1, h2] at h
          simp only [cond_true] at h
          have e1 : v.cells.size = size := by rw [valL_cells]; simpa using Nat.eq_of_beq_eq_true h1
          have e2 := Nat.le_of_ble_eq_true h2
          have e3 : v.cells.size = (valL v).length := by rw [valL_cells]; simp
          have hc : (decide (v.cells.size ≠ size) || decide (off + v.cells.size > cells.toArray.size)) = false := by simp [e1]; omega
          rw [hc]
          simp only [Bool.false_eq_true, if_false]
          have e4 : v.cells.zipIdx.foldl (fun (cs : Array Value) (x : Value × Nat) => cs.setIfInBounds (off + x.2) x.1) cells.toArray = (putL cells off (valL v)).toArray := by
            rw [← Array.foldl_toList, Array.toList_zipIdx, valL_cells]
            exact putL_fold (valL v) cells off 0
          exact (congrArg (fun cs => Instr.fill place cs rest) e4).trans (fill_of h)

def placesL (P : Program) : List Field → Option (List (Nat × Nat))
  | [] => some []
  | f :: fs => match sz P f.type, placesL P fs with
    | some n, some l => some ((f.offset, n) :: l)
    | _, _ => none

def placeF (f : Field) : Sem (Nat × Nat) := do pure (f.offset, ← sizeOf f.type)
theorem places_run {P : Program} (w : World) : ∀ {fs : List Field} {l : List (Nat × Nat)}, placesL P fs = some l → (fs.mapM placeF).run P w = .ok l w
  | [], l, h => by simp only [placesL, Option.some.injEq] at h; subst h; rfl
  | f :: fs, l, h => by
    unfold placesL at h
    cases h1 : sz P f.type with
    | none => rw [h1] at h; cases h
    | some n =>
      cases h2 : placesL P fs with
      | none => rw [h1, h2] at h; cases h
      | some l2 =>
        rw [h1, h2] at h
        simp only [Option.some.injEq] at h
        subst h
        have h3 : (placeF f).run P w = .ok (f.offset, n) w := by simp only [placeF, Sem.run_bind, sizeOf_run h1, Result.andThen_ok, Sem.run_pure]
        rw [List.mapM_cons]
        simp only [Sem.run_bind, h3, Result.andThen_ok, Sem.run_pure, places_run w h2]

/-- a struct literal's cells -/
def bld (P : Program) (t : TypeId) (parts : List (Nat × Value)) : Option (List Value) :=
  match P.underlying t, zval P t with
  | some (.struct fs), some (.agg z) => match placesL P fs.toList with
    | some pl => fillL (pl[·]?) z.toList parts
    | none => none
  | _, _ => none

section
variable {P : Program} {e : World} {ρ : Fr} {H : Hp} {d : Option Nat} {ty : TypeId} {pos : String} {af : Array Edge} {g : Option (Nat × Bool)}

theorem rd_build {t : TypeId} {parts : Array (Nat × Operand)} {vs : List (Nat × Value)} {l0 l : List Value} (hp : parts.toList.map (fun x => (x.1, ev ρ x.2)) = vs) (hb : bld P t vs = some l0) (hl : l0 = l) :
    Rd P e ρ H ⟨d, .build t parts, ty, pos, af, g⟩ (.agg l.toArray) := fun w _ => by
  subst hl
  have hparts : (parts.map fun (i, x) => (i, ev ρ x)) = vs.toArray := by rw [← hp]; cases parts; simp
  have h0 : (Instr.build t (parts.map fun (i, x) => (i, ev ρ x))).run P w = .ok (.agg l0.toArray) w := by
    rw [hparts]
    unfold bld at hb
    cases hu : P.underlying t with
    | none => rw [hu] at hb; cases hb
    | some x =>
      cases hz : zval P t with
      | none => rw [hu, hz] at hb; cases x <;> cases hb
      | some z =>
        rw [hu, hz] at hb
        cases x with
        | struct fs =>
          cases z with
          | agg z =>
            simp only at hb
            cases hpl : placesL P fs.toList with
            | none => rw [hpl] at hb; cases hb
            | some pl =>
              rw [hpl] at hb
              simp only at hb
              have hm : (fs.mapM placeF).run P w = .ok pl.toArray w := by
                rw [Array.mapM_eq_mapM_toList, Sem.run_map, places_run w hpl]
                rfl
              have hf := fill_of hb
              have hm' : (fs.mapM fun (f : Field) => do pure (f.offset, ← sizeOf f.type)).run P w = .ok pl.toArray w := hm
              unfold Instr.build
              simp only [Sem.run_bind, zero_run hz, Result.andThen_ok, underlying_run hu, hm']
              have e5 : Instr.fill (fun x => pl.toArray[x]?) (Value.agg z).cells vs = some l0.toArray := by
                have : (Value.agg z).cells = z.toList.toArray := by simp [Value.cells]
                rw [this]
                simpa using hf
              rw [e5]
              rfl
          | _ => cases hb
        | _ => cases hb
  simp [execOp, h0]

theorem rd_buildE {t : TypeId} {parts : List (Nat × Operand)} {vs : List (Nat × Value)} {l0 l : List Value} (hp : EvP ρ parts vs) (hb : bld P t vs = some l0) (hl : l0 = l) :
    Rd P e ρ H ⟨d, .build t parts.toArray, ty, pos, af, g⟩ (.agg l.toArray) := rd_build (by simpa using hp.map) hb hl
theorem rd_len_slice {x : Operand} {ats : Array TypeId} {t el : TypeId} {a : Option Addr} {n c : Nat} (hx : ev ρ x = .slice a n c) (ha : ats[0]? = some t) (ht : P.underlying t = some (.slice el)) :
    Rd P e ρ H ⟨d, .call ⟨.builtin .len, #[x], ats⟩, ty, pos, af, g⟩ (.int .i64 n) := fun w _ => by
  simp [execOp, resolve, invoke, Go.builtin, Builtin.len_, ha, underlying_run ht, hx, goInt]
theorem rd_len_string {x : Operand} {ats : Array TypeId} {t : TypeId} {s : ByteArray} (hx : ev ρ x = .string s) (ha : ats[0]? = some t) (ht : P.underlying t = some .string) :
    Rd P e ρ H ⟨d, .call ⟨.builtin .len, #[x], ats⟩, ty, pos, af, g⟩ (.int .i64 s.size) := fun w _ => by
  simp [execOp, resolve, invoke, Go.builtin, Builtin.len_, ha, underlying_run ht, hx, goInt]

theorem rd_indexAddr {x y : Operand} {t el n : TypeId} {b o len c : Nat} {q : IntKind} {i : Int} (hx : ev ρ x = .slice (some ⟨b, o, none⟩) len c) (hy : ev ρ y = .int q i) (ht : P.underlying t = some (.slice el))
    (hs : sz P el = some n) (h0 : 0 ≤ i) (h1 : i < len) : Rd P e ρ H ⟨d, .indexAddr t x y, ty, pos, af, g⟩ (.pointer (some ⟨b, o + i.toNat * n, none⟩)) := fun w _ => by
  have : (Instr.indexAt t (ev ρ x) (ev ρ y)).run P w = .ok (.pointer (some ⟨b, o + i.toNat * n, none⟩)) w := by
    rw [hx, hy]
    unfold Instr.indexAt
    have hc : (0 ≤ i ∧ i < (len : Int)) := ⟨h0, h1⟩
    simp only [asIntOf, Sem.run_bind, Sem.run_pure, Result.andThen_ok, underlying_run ht, hc, and_self, if_true]
    simp only [Result.andThen_ok, sizeOf_run hs, addr_add]
  simp [execOp, this]
end
end Go.Vl
