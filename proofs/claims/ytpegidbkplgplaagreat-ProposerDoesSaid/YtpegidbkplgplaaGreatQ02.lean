/-
  Steps of the proof: Ve, Vb, Vd, Vf.
-/
import Derived.Test.YtpegidbkplgplaaGreatQ01
import Derived.Maps.Keyed
import Derived.Laws.AppendOwn
import Derived.RangeFuncRecord
namespace Go.Vl
open Go.RowKit

section
variable {C : Cx} {ρ : Fr} {H : Hp} {d : Option Nat} {ty : TypeId} {pos : String} {af : Array Edge} {g : Option (Nat × Bool)} {K : Value → Hp → Prop}

theorem ex_new {o : Oper} {obj : Obj} {v : Nat → Value} (hrun : ∀ w : World, (execOp (ev ρ) o).run C.P w = .ok (.value (v w.heap.size)) { w with heap := w.heap.push obj })
    (h : ∀ b, K (v b) ((b, obj) :: H)) : Ex C o K ρ H := fun w hw => by
  rw [hrun w]
  exact ⟨_, hw.alloc obj, h _⟩

theorem ex_allocA {t : TypeId} {l : List Value} (hz : zval C.P t = some (.agg l.toArray)) (h : ∀ b, K (.pointer (some ⟨b, 0, none⟩)) ((b, cellsO l t) :: H)) :
    Ex C ⟨d, .alloc t, ty, pos, af, g⟩ K ρ H :=
  ex_new (obj := cellsO l t) (v := fun b => .pointer (some ⟨b, 0, none⟩)) (fun w => by simp [execOp, Instr.alloc, zero_run hz, newVar, newRow, Value.cells]) h
theorem cells_one {v : Value} (h : v.oneCell' = true) : v.cells = #[v] := by cases v <;> first | rfl | cases h
theorem ex_alloc1 {t : TypeId} {v : Value} (hz : zval C.P t = some v) (ho : v.oneCell' = true) (h : ∀ b, K (.pointer (some ⟨b, 0, none⟩)) ((b, cellsO [v] t) :: H)) :
    Ex C ⟨d, .alloc t, ty, pos, af, g⟩ K ρ H :=
  ex_new (obj := cellsO [v] t) (v := fun b => .pointer (some ⟨b, 0, none⟩)) (fun w => by simp [execOp, Instr.alloc, zero_run hz, newVar, newRow, cells_one ho]) h
theorem ex_boxA {t : TypeId} {x : Operand} {l : List Value} (hx : ev ρ x = .agg l.toArray) (h : ∀ b, K (.pointer (some ⟨b, 0, none⟩)) ((b, cellsO l t) :: H)) :
    Ex C ⟨d, .box t x, ty, pos, af, g⟩ K ρ H :=
  ex_new (obj := cellsO l t) (v := fun b => .pointer (some ⟨b, 0, none⟩)) (fun w => by simp [execOp, Instr.box, hx, newVar, newRow, Value.cells]) h
theorem ex_box1 {t : TypeId} {x : Operand} {v : Value} (hx : ev ρ x = v) (ho : v.oneCell' = true) (h : ∀ b, K (.pointer (some ⟨b, 0, none⟩)) ((b, cellsO [v] t) :: H)) :
    Ex C ⟨d, .box t x, ty, pos, af, g⟩ K ρ H :=
  ex_new (obj := cellsO [v] t) (v := fun b => .pointer (some ⟨b, 0, none⟩)) (fun w => by simp [execOp, Instr.box, hx, newVar, newRow, cells_one ho]) h
theorem ex_makeMap {t : TypeId} (h : ∀ b, K (.map (some b)) ((b, .map #[] 0) :: H)) : Ex C ⟨d, .makeMap t none, ty, pos, af, g⟩ K ρ H :=
  ex_new (obj := .map #[] 0) (v := fun b => .map (some b)) (fun w => by simp [execOp, Instr.makeMap]) h

/-! storing -/
def putL : List Value → Nat → List Value → List Value
  | l, _, [] => l
  | l, o, v :: vs => putL (l.set o v) (o + 1) vs

theorem putL_length : ∀ (vs : List Value) (l : List Value) (o : Nat), (putL l o vs).length = l.length
  | [], _, _ => rfl
  | v :: vs, l, o => by simp [putL, putL_length vs]

theorem store_run {P : Program} {w : World} {b o : Nat} {l : List Value} {T : TypeId} {v : Value} (hb : w.heap[b]? = some (cellsO l T)) (ho : o < l.length) (hv : v.oneCell' = true) :
    (store ⟨b, o, none⟩ v).run P w = .ok () (w.setCell ⟨b, o, none⟩ v) := by
  have hc : w.cell? ⟨b, o, none⟩ = some l[o] := by simp [World.cell?, hb, ho]
  have hf : w.frozen? ⟨b, o, none⟩ = false := by simp [World.frozen?, hb]
  unfold store
  cases v <;> simp [Value.oneCell'] at hv <;> simp [Sem.run, hc, hf]

theorem setCell_heap {w : World} {b o : Nat} {l : List Value} {T : TypeId} {v : Value} (hb : w.heap[b]? = some (cellsO l T)) :
    (w.setCell ⟨b, o, none⟩ v).heap[b]? = some (cellsO (l.set o v) T) ∧ ∀ k, k ≠ b → (w.setCell ⟨b, o, none⟩ v).heap[k]? = w.heap[k]? := by
  obtain ⟨hlt, hk⟩ := Array.getElem?_eq_some_iff.1 hb
  constructor
  · show (w.heap.modify b _)[b]? = _
    rw [Array.getElem?_eq_getElem (by rw [Array.size_modify]; exact hlt), Array.getElem_modify_self, hk]
    simp
  · exact fun k hk => Below.heap_setCell w ⟨b, o, none⟩ v k hk

theorem storeCells_run {P : Program} {b : Nat} {T : TypeId} {a0 : Nat} : ∀ (vs : List Value) (w : World) (l : List Value) (i : Nat), w.heap[b]? = some (cellsO l T) → a0 + i + vs.length ≤ l.length → (∀ v ∈ vs, v.oneCell' = true) →
    ∃ w', (storeCells ⟨b, a0, none⟩ vs i).run P w = .ok () w' ∧ w'.heap[b]? = some (cellsO (putL l (a0 + i) vs) T) ∧ (∀ k, k ≠ b → w'.heap[k]? = w.heap[k]?) ∧ w'.os = w.os ∧ w'.tape = w.tape ∧ w'.output = w.output := by
  intro vs
  induction vs with
  | nil => intro w l i hb _ _; exact ⟨w, rfl, hb, fun _ _ => rfl, rfl, rfl, rfl⟩
  | cons v vs ih =>
    intro w l i hb hlen hone
    simp only [List.length_cons] at hlen
    have h1 := store_run (P := P) (o := a0 + i) hb (by omega) (hone v (by simp))
    obtain ⟨h2, h3⟩ := setCell_heap (o := a0 + i) (v := v) hb
    obtain ⟨w', r1, r2, r3, r4, r5, r6⟩ := ih _ (l.set (a0 + i) v) (i + 1) h2 (by simp; omega) (fun u hu => hone u (by simp [hu]))
    refine ⟨w', ?_, r2, fun k hk => (r3 k hk).trans (h3 k hk), r4, r5, r6⟩
    simp only [storeCells, addr_add, Sem.run_bind, h1, Result.andThen_ok]
    exact r1

def ones : List Value → Bool
  | [] => true
  | v :: l => v.oneCell' && ones l
theorem ones_all : ∀ {l : List Value}, ones l = true → ∀ v ∈ l, v.oneCell' = true
  | [], _, _, h => by cases h
  | _ :: l, h, v, hv => by
    simp only [ones, Bool.and_eq_true] at h
    rcases List.mem_cons.1 hv with rfl | hv
    · exact h.1
    · exact ones_all h.2 v hv

theorem ex_store {t n b o : Nat} {x y : Operand} {v : Value} {l vs : List Value} {T : TypeId} {f : Obj → Hp} (hx : ev ρ x = .pointer (some ⟨b, o, none⟩)) (hy : ev ρ y = v) (hv : v.cells.toList = vs)
    (hs : sz C.P t = some n) (hn : vs.length = n) (ho : ones vs = true) (hz : Zip H b (cellsO l T) f) (hlen : Nat.ble (o + n) l.length = true) (h : K undef (f (cellsO (putL l o vs) T))) :
    Ex C ⟨d, .store t x y, ty, pos, af, g⟩ K ρ H := fun w hw => by
  have hb := hw.has _ hz.mem
  obtain ⟨w', r1, r2, r3, r4, r5, r6⟩ := storeCells_run (P := C.P) (T := T) (a0 := o) vs w l 0 hb (by have := Nat.le_of_ble_eq_true hlen; omega) (ones_all ho)
  have h0 : (Instr.storeAt t (ev ρ x) (ev ρ y)).run C.P w = .ok () w' := by
    rw [hx, hy]
    show Sem.run C.P (storeVar t ⟨b, o, none⟩ v) w = _
    have hsz : v.cells.size = n := by rw [← hn, ← hv]; simp
    unfold storeVar
    simp only [Sem.run_bind, sizeOf_run hs, Result.andThen_ok, hsz, ne_eq, not_true_eq_false, if_false, hv]
    exact r1
  have h1 : (execOp (ev ρ) ⟨d, .store t x y, ty, pos, af, g⟩).run C.P w = .ok .skip w' := by simp [execOp, h0]
  rw [h1]
  exact ⟨_, hw.set hz r4 r5 r6 (by simpa using r2) r3, h⟩

theorem ex_storeA {t b o : Nat} {x y : Operand} {l vs : List Value} {T : TypeId} {f : Obj → Hp} (hx : ev ρ x = .pointer (some ⟨b, o, none⟩)) (hy : ev ρ y = .agg vs.toArray)
    (hs : sz C.P t = some vs.length) (ho : ones vs = true) (hz : Zip H b (cellsO l T) f) (hlen : Nat.ble (o + vs.length) l.length = true) {l' : List Value} (hl' : putL l o vs = l') (h : K undef (f (cellsO l' T))) :
    Ex C ⟨d, .store t x y, ty, pos, af, g⟩ K ρ H := by subst hl'; exact ex_store hx hy rfl hs rfl ho hz hlen h
theorem ex_store1 {t b o : Nat} {x y : Operand} {v : Value} {l : List Value} {T : TypeId} {f : Obj → Hp} (hx : ev ρ x = .pointer (some ⟨b, o, none⟩)) (hy : ev ρ y = v)
    (hs : sz C.P t = some 1) (ho : v.oneCell' = true) (hz : Zip H b (cellsO l T) f) (hlen : Nat.ble (o + 1) l.length = true) {l' : List Value} (hl' : l.set o v = l') (h : K undef (f (cellsO l' T))) :
    Ex C ⟨d, .store t x y, ty, pos, af, g⟩ K ρ H := by subst hl'; exact ex_store (vs := [v]) hx hy (by rw [cells_one ho]) hs rfl (by simp [ones, ho]) hz hlen h

/-- operands, reckoned one by one -/
inductive EvL (ρ : Fr) : List Operand → List Value → Prop
  | nil : EvL ρ [] []
  | cons {x : Operand} {v : Value} {xs : List Operand} {vs : List Value} (h : ev ρ x = v) (t : EvL ρ xs vs) : EvL ρ (x :: xs) (v :: vs)
theorem EvL.map {ρ : Fr} {xs : List Operand} {vs : List Value} (h : EvL ρ xs vs) : xs.map (ev ρ) = vs := by
  induction h with
  | nil => rfl
  | cons h _ ih => rw [List.map_cons, h, ih]
inductive EvP (ρ : Fr) : List (Nat × Operand) → List (Nat × Value) → Prop
  | nil : EvP ρ [] []
  | cons {i : Nat} {x : Operand} {v : Value} {xs : List (Nat × Operand)} {vs : List (Nat × Value)} (h : ev ρ x = v) (t : EvP ρ xs vs) : EvP ρ ((i, x) :: xs) ((i, v) :: vs)
theorem EvP.map {ρ : Fr} {xs : List (Nat × Operand)} {vs : List (Nat × Value)} (h : EvP ρ xs vs) : xs.map (fun x => (x.1, ev ρ x.2)) = vs := by
  induction h with
  | nil => rfl
  | cons h _ ih => rw [List.map_cons, h, ih]

/-! calls -/
theorem ex_call {f : FuncId} {args : Array Operand} {ats : Array TypeId} {vs : List Value} {fn : Func} (hf : C.P.funcs[f]? = some fn) (hb : fn.body.isNone = false) (hn : (fn.name == "runtime.NumGoroutine") = false)
    (ha : args.toList.map (ev ρ) = vs) (h : callsK C.P C.e f vs.toArray H K) : Ex C ⟨d, .call ⟨.value (.func f), args, ats⟩, ty, pos, af, g⟩ K ρ H := fun w hw => by
  have hargs : args.map (ev ρ) = vs.toArray := by rw [← ha]; cases args; simp
  have h1 : (execOp (ev ρ) ⟨d, .call ⟨.value (.func f), args, ats⟩, ty, pos, af, g⟩).run C.P w = .ok (.enter f vs.toArray) w := by
    have hn' : ¬ fn.name = "runtime.NumGoroutine" := by simpa using hn
    have hb' : ¬ fn.body = none := by intro h; rw [h] at hb; cases hb
    simp [execOp, resolve, hargs, ev, Deferred.ofValue, invoke, callFunc, hf, hn', hb']
  rw [h1]
  exact h w hw
end

section rets
variable {P : Program} {e : World} {K : Value → Hp → Prop} {ρ : Fr} {H : Hp} {x : Exit}
theorem ret0 (hx : x = .normal ∨ x = .ret) (h : Drop K (.tuple #[]) H) : RetP P e [] K x ρ [] H := ⟨hx, H, [], .refl _, .nil, h⟩
theorem ret1 {t : Nat} {v : Value} (hx : x = .normal ∨ x = .ret) (hv : ρ t = v) (h : Drop K v H) : RetP P e [.tmp t] K x ρ [] H := ⟨hx, H, [v], .refl _, .tmp hv .nil, h⟩
theorem ret2 {t s : Nat} {v u : Value} (hx : x = .normal ∨ x = .ret) (hv : ρ t = v) (hu : ρ s = u) (h : Drop K (.tuple #[v, u]) H) : RetP P e [.tmp t, .tmp s] K x ρ [] H := ⟨hx, H, [v, u], .refl _, .tmp hv (.tmp hu .nil), h⟩
theorem retC1 {t n b o s : Nat} {ty : TypeId} {l r : List Value} {T : TypeId} {fz : Nat × Nat} {u : Value} (hx : x = .normal ∨ x = .ret) (hv : ρ t = .pointer (some ⟨b, o, none⟩)) (hl : aggB P ty = true) (hs : sz P ty = some n)
    (hm : (b, Obj.cells l.toArray T fz) ∈ H) (hc : TakeR l o n r) (hu : ρ s = u) (h : Drop K (.tuple #[.agg r.toArray, u]) H) : RetP P e [.cell t ty, .tmp s] K x ρ [] H :=
  ⟨hx, H, [.agg r.toArray, u], .refl _, .cell hv (fun _ hw => loadVar_agg hw hl hs hm hc) (.tmp hu .nil), h⟩
theorem retDn {ds : List Nat} {R : Hp} {res : List ResultVar} {vs : List Value} (hx : x = .normal ∨ x = .ret) (hp : H.Perm (dfs ds ++ R)) (hr : ResL P e ρ R res vs) (h : Drop K (packV vs) R) : RetP P e res K x ρ ds H := ⟨hx, R, vs, hp, hr, h⟩
theorem resC {R : Hp} {t b o : Nat} {ty : TypeId} {cs : Array Value} {T : TypeId} {fz : Nat × Nat} {v : Value} {l : List ResultVar} {vs : List Value} (hv : ρ t = .pointer (some ⟨b, o, none⟩)) (hl : leaf P ty = true) (hm : (b, Obj.cells cs T fz) ∈ R) (hc : cs[o]? = some v) (h : ResL P e ρ R l vs) :
    ResL P e ρ R (.cell t ty :: l) (v :: vs) := .cell hv (fun _ hw => loadVar_leaf hl ((cell_kn hw hm).trans hc)) h
end rets

end Go.Vl

namespace Go.Vl
open Go.RowKit

def valL : Value → List Value
  | .agg cs => cs.toList
  | v => [v]
theorem valL_cells (v : Value) : v.cells = (valL v).toArray := by cases v <;> first | rfl | simp [Value.cells, valL]
theorem putL_fold : ∀ (vs : List Value) (cs : List Value) (off k : Nat), (vs.zipIdx k).foldl (fun (cs : Array Value) (x : Value × Nat) => cs.setIfInBounds (off + x.2) x.1) cs.toArray = (putL cs (off + k) vs).toArray
  | [], _, _, _ => rfl
  | v :: vs, cs, off, k => by
    simp only [List.zipIdx_cons, List.foldl_cons, List.setIfInBounds_toArray]
    rw [putL_fold vs (cs.set (off + k) v) off (k + 1)]
    rfl

def fillL (place : Nat → Option (Nat × Nat)) (cells : List Value) : List (Nat × Value) → Option (List Value)
  | [] => some cells
  | (i, v) :: rest =>
    match place i with
    | none => none
    | some (off, size) => bif Nat.beq (valL v).length size then (bif Nat.ble (off + (valL v).length) cells.length then fillL place (putL cells off (valL v)) rest else none) else none

theorem fill_of {place : Nat → Option (Nat × Nat)} : ∀ {parts : List (Nat × Value)} {cells r : List Value}, fillL place cells parts = some r → Instr.fill place cells.toArray parts = some r.toArray
  | [], cells, r, h => by simp only [fillL, Option.some.injEq] at h; subst h; rfl
  | (i, v) :: rest, cells, r, h => by
    unfold fillL at h
    unfold Instr.fill
    cases hp : place i with
    | none => rw [hp] at h; cases h
    | some x =>
      obtain ⟨off, size⟩ := x
      rw [hp] at h
      simp only at h ⊢
      cases h1 : Nat.beq (valL v).length size with
      | false => rw [h1] at h; cases h
      | true =>
        cases h2 : Nat.ble (off + (valL v).length) cells.length with
        | false => rw [h1, h2] at h; cases h
        | true =>
          rw [h1, h2] at h
          simp only [cond_true] at h
          have e1 : v.cells.size = size := by rw [valL_cells]; simpa using Nat.eq_of_beq_eq_true h1
          have e2 := Nat.le_of_ble_eq_true h2
          have e3 : v.cells.size = (valL v).length := by rw [valL_cells]; simp
          have hc : (decide (v.cells.size ≠ size) || decide (off + v.cells.size > cells.toArray.size)) = false := by simp [e1]; omega
          rw [hc]
          simp only [Bool.false_eq_true, if_false]
          have e4 : v.cells.zipIdx.foldl (fun (cs : Array Value) (x : Value × Nat) => cs.setIfInBounds (off + x.2) x.1) cells.toArray = (putL cells off (valL v)).toArray := by
            rw [← Array.foldl_toList, Array.toList_zipIdx, valL_cells]
            exact putL_fold (valL v) cells off 0
          exact (congrArg (fun cs => Instr.fill place cs rest) e4).trans (fill_of h)

def placesL (P : Program) : List Field → Option (List (Nat × Nat))
  | [] => some []
  | f :: fs => match sz P f.type, placesL P fs with
    | some n, some l => some ((f.offset, n) :: l)
    | _, _ => none

def placeF (f : Field) : Sem (Nat × Nat) := do pure (f.offset, ← sizeOf f.type)
theorem places_run {P : Program} (w : World) : ∀ {fs : List Field} {l : List (Nat × Nat)}, placesL P fs = some l → (fs.mapM placeF).run P w = .ok l w
  | [], l, h => by simp only [placesL, Option.some.injEq] at h; subst h; rfl
  | f :: fs, l, h => by
    unfold placesL at h
    cases h1 : sz P f.type with
    | none => rw [h1] at h; cases h
    | some n =>
      cases h2 : placesL P fs with
      | none => rw [h1, h2] at h; cases h
      | some l2 =>
        rw [h1, h2] at h
        simp only [Option.some.injEq] at h
        subst h
        have h3 : (placeF f).run P w = .ok (f.offset, n) w := by simp only [placeF, Sem.run_bind, sizeOf_run h1, Result.andThen_ok, Sem.run_pure]
        rw [List.mapM_cons]
        simp only [Sem.run_bind, h3, Result.andThen_ok, Sem.run_pure, places_run w h2]

/-- a struct literal's cells -/
def bld (P : Program) (t : TypeId) (parts : List (Nat × Value)) : Option (List Value) :=
  match P.underlying t, zval P t with
  | some (.struct fs), some (.agg z) => match placesL P fs.toList with
    | some pl => fillL (pl[·]?) z.toList parts
    | none => none
  | _, _ => none

section
variable {P : Program} {e : World} {ρ : Fr} {H : Hp} {d : Option Nat} {ty : TypeId} {pos : String} {af : Array Edge} {g : Option (Nat × Bool)}

theorem rd_build {t : TypeId} {parts : Array (Nat × Operand)} {vs : List (Nat × Value)} {l0 l : List Value} (hp : parts.toList.map (fun x => (x.1, ev ρ x.2)) = vs) (hb : bld P t vs = some l0) (hl : l0 = l) :
    Rd P e ρ H ⟨d, .build t parts, ty, pos, af, g⟩ (.agg l.toArray) := fun w _ => by
  subst hl
  have hparts : (parts.map fun (i, x) => (i, ev ρ x)) = vs.toArray := by rw [← hp]; cases parts; simp
  have h0 : (Instr.build t (parts.map fun (i, x) => (i, ev ρ x))).run P w = .ok (.agg l0.toArray) w := by
    rw [hparts]
    unfold bld at hb
    cases hu : P.underlying t with
    | none => rw [hu] at hb; cases hb
    | some x =>
      cases hz : zval P t with
      | none => rw [hu, hz] at hb; cases x <;> cases hb
      | some z =>
        rw [hu, hz] at hb
        cases x with
        | struct fs =>
          cases z with
          | agg z =>
            simp only at hb
            cases hpl : placesL P fs.toList with
            | none => rw [hpl] at hb; cases hb
            | some pl =>
              rw [hpl] at hb
              simp only at hb
              have hm : (fs.mapM placeF).run P w = .ok pl.toArray w := by
                rw [Array.mapM_eq_mapM_toList, Sem.run_map, places_run w hpl]
                rfl
              have hf := fill_of hb
              have hm' : (fs.mapM fun (f : Field) => do pure (f.offset, ← sizeOf f.type)).run P w = .ok pl.toArray w := hm
              unfold Instr.build
              simp only [Sem.run_bind, zero_run hz, Result.andThen_ok, underlying_run hu, hm']
              have e5 : Instr.fill (fun x => pl.toArray[x]?) (Value.agg z).cells vs = some l0.toArray := by
                have : (Value.agg z).cells = z.toList.toArray := by simp [Value.cells]
                rw [this]
                simpa using hf
              rw [e5]
              rfl
          | _ => cases hb
        | _ => cases hb
  simp [execOp, h0]

theorem rd_buildE {t : TypeId} {parts : List (Nat × Operand)} {vs : List (Nat × Value)} {l0 l : List Value} (hp : EvP ρ parts vs) (hb : bld P t vs = some l0) (hl : l0 = l) :
    Rd P e ρ H ⟨d, .build t parts.toArray, ty, pos, af, g⟩ (.agg l.toArray) := rd_build (by simpa using hp.map) hb hl
theorem rd_len_slice {x : Operand} {ats : Array TypeId} {t el : TypeId} {a : Option Addr} {n c : Nat} (hx : ev ρ x = .slice a n c) (ha : ats[0]? = some t) (ht : P.underlying t = some (.slice el)) :
    Rd P e ρ H ⟨d, .call ⟨.builtin .len, #[x], ats⟩, ty, pos, af, g⟩ (.int .i64 n) := fun w _ => by
  simp [execOp, resolve, invoke, Go.builtin, Builtin.len_, ha, underlying_run ht, hx, goInt]
theorem rd_len_string {x : Operand} {ats : Array TypeId} {t : TypeId} {s : ByteArray} (hx : ev ρ x = .string s) (ha : ats[0]? = some t) (ht : P.underlying t = some .string) :
    Rd P e ρ H ⟨d, .call ⟨.builtin .len, #[x], ats⟩, ty, pos, af, g⟩ (.int .i64 s.size) := fun w _ => by
  simp [execOp, resolve, invoke, Go.builtin, Builtin.len_, ha, underlying_run ht, hx, goInt]

theorem rd_indexAddr {x y : Operand} {t el n : TypeId} {b o len c : Nat} {q : IntKind} {i : Int} (hx : ev ρ x = .slice (some ⟨b, o, none⟩) len c) (hy : ev ρ y = .int q i) (ht : P.underlying t = some (.slice el))
    (hs : sz P el = some n) (h0 : 0 ≤ i) (h1 : i < len) : Rd P e ρ H ⟨d, .indexAddr t x y, ty, pos, af, g⟩ (.pointer (some ⟨b, o + i.toNat * n, none⟩)) := fun w _ => by
  have : (Instr.indexAt t (ev ρ x) (ev ρ y)).run P w = .ok (.pointer (some ⟨b, o + i.toNat * n, none⟩)) w := by
    rw [hx, hy]
    unfold Instr.indexAt
    have hc : (0 ≤ i ∧ i < (len : Int)) := ⟨h0, h1⟩
    simp only [asIntOf, Sem.run_bind, Sem.run_pure, Result.andThen_ok, underlying_run ht, hc, and_self, if_true]
    simp only [Result.andThen_ok, sizeOf_run hs, addr_add]
  simp [execOp, this]
end
end Go.Vl

namespace Go.Vl
open Go.RowKit

/-- does it only read? -/
def isRd : Op → Bool
  | .move _ | .assign _ | .pick .. | .load .. | .nilCheck _ | .binOp .. | .unOp .. | .fieldAddr .. | .field .. | .indexAddr .. | .index .. | .lookup .. | .extract .. | .makeFunc .. | .build .. | .slice .. | .makeInterface .. => true
  | .convert .. | .entry _ => true
  | .call { callee := .builtin .len, .. } => true
  | .call { callee := .builtin .cap, .. } => true
  | .call { callee := .builtin .min, .. } => true
  | .call { callee := .builtin .max, .. } => true
  | _ => false

/-- what a reader answers, its guard taken in -/
def Rv (C : Cx) (ops : Array Oper) (o : Oper) (ρ : Fr) (Hs : Hp) (v : Value) : Prop :=
  (wantV C.N ops ρ o = true ∧ Rd C.P C.e ρ Hs o v) ∨ (wantV C.N ops ρ o = false ∧ v = undef)

/-- one operation, its guard taken in -/
def opV (C : Cx) (ops : Array Oper) (o : Oper) (K : Fr → Hp → Prop) (ρ : Fr) (H : Hp) : Prop :=
  dstOK C.N o.dst = true ∧ ((wantV C.N ops ρ o = true ∧ Ex C o (fun v H' => K (updO ρ o.dst v) H') ρ H) ∨ (wantV C.N ops ρ o = false ∧ K (updO ρ o.dst undef) H))

/-- does it read blocks? -/
def memRd : Op → Bool
  | .load .. | .lookup .. | .convert .. | .entry _ => true
  | .call { callee := .builtin .len, .. } => true
  | .call { callee := .builtin .cap, .. } => true
  | _ => false
def Hn (o : Oper) (Hs : Hp) : Hp := bif memRd o.op then Hs else []
/-- an operation that turns blocks, behind all that read them -/
def covers (ops : Array Oper) (j : Nat) : Bool :=
  match ops[j]? with
  | some oj => !isRd oj.op && (List.range ops.size).all fun i => match ops[i]? with
      | some oi => !memRd oi.op || oj.after.any fun e => Region.binds .any e && Nat.beq e.on i
      | none => true
  | none => false
theorem covers_spec {ops : Array Oper} {j : Nat} (h : covers ops j = true) : ∃ oj, ops[j]? = some oj ∧ isRd oj.op = false ∧ ∀ i oi, ops[i]? = some oi → memRd oi.op = true → ∃ e ∈ oj.after, Region.binds .any e = true ∧ e.on = i := by
  unfold covers at h
  cases ho : ops[j]? with
  | none => rw [ho] at h; cases h
  | some oj =>
    rw [ho] at h
    simp only [Bool.and_eq_true, Bool.not_eq_true'] at h
    refine ⟨oj, rfl, h.1, fun i oi hi hm => ?_⟩
    have h2 := List.all_eq_true.1 h.2 i (List.mem_range.2 (Array.getElem?_eq_some_iff.1 hi).1)
    rw [hi] at h2
    simp only [hm, Bool.not_true, Bool.false_or, Array.any_eq_true'] at h2
    obtain ⟨e, he, h3⟩ := h2
    rw [Bool.and_eq_true] at h3
    exact ⟨e, he, h3.1, Nat.eq_of_beq_eq_true h3.2⟩
def Good (ops : Array Oper) (Hs : Hp) (listed : Array Bool) (H : Hp) : Prop := (∃ j, listed.getD j false = true ∧ covers ops j = true) ∨ ∀ x ∈ Hs, x ∈ H
def Closed (ops : Array Oper) (listed : Array Bool) : Prop := ∀ j oj, ops[j]? = some oj → listed.getD j false = true → ∀ e ∈ oj.after, Region.binds .any e = true → listed.getD e.on false = true
theorem closed_set {ops : Array Oper} {listed : Array Bool} {i : Nat} (h : Closed ops listed) (hi : i ∈ Region.ready .any ops listed) : Closed ops (listed.setIfInBounds i true) := by
  intro j oj hj hl e he hb
  apply getD_set_true
  by_cases hji : j = i
  · subst hji
    obtain ⟨_, o, ho, hall⟩ := mem_ready.1 hi
    rw [hj] at ho; cases ho
    exact hall e he hb
  · rw [getD_set_ne false (Ne.symm hji)] at hl
    exact h j oj hj hl e he hb
theorem good_mono {ops : Array Oper} {Hs : Hp} {listed : Array Bool} {H : Hp} (i : Nat) (h : Good ops Hs listed H) : Good ops Hs (listed.setIfInBounds i true) H :=
  h.imp (fun ⟨j, h1, h2⟩ => ⟨j, getD_set_true h1, h2⟩) id
theorem good_need {ops : Array Oper} {Hs : Hp} {listed : Array Bool} {H : Hp} {i : Nat} {oi : Oper} (h : Good ops Hs listed H) (hc : Closed ops listed) (hi : i ∈ Region.ready .any ops listed) (ho : ops[i]? = some oi) : ∀ x ∈ Hn oi Hs, x ∈ H := by
  unfold Hn
  cases hm : memRd oi.op with
  | false => simp
  | true =>
    simp only [cond_true]
    rcases h with ⟨j, hj, hcov⟩ | h
    · obtain ⟨oj, hoj, _, hall⟩ := covers_spec hcov
      obtain ⟨e, he, hb, rfl⟩ := hall i oi ho hm
      have h1 := hc j oj hoj hj e he hb
      have h0 := (mem_ready.1 hi).1
      cases hg : listed[e.on]? with
      | none => simp [hg] at h1
      | some x => simp [hg] at h0 h1; rw [h0] at h1; cases h1
    · exact h
theorem hn_nodup {o : Oper} {Hs : Hp} (h : (Hs.map Prod.fst).Nodup) : ((Hn o Hs).map Prod.fst).Nodup := by
  unfold Hn
  cases memRd o.op
  · simp
  · exact h

def anyV (C : Cx) (ops : Array Oper) (Hs : Hp) (Q : Post) : Nat → Array Bool → Fr → List Nat → Hp → Prop
  | 0, listed, ρ, ds, H => Good ops Hs listed H ∧ Region.ready .any ops listed = [] ∧ Q .normal ρ ds H
  | fuel + 1, listed, ρ, ds, H => Good ops Hs listed H ∧ (Region.ready .any ops listed = [] → Q .normal ρ ds H) ∧
      ∀ i ∈ Region.ready .any ops listed, ∀ o, ops[i]? = some o → opV C ops o (fun ρ' H' => anyV C ops Hs Q fuel (listed.setIfInBounds i true) ρ' ds H') ρ H

theorem anyV_sub {C : Cx} {ops : Array Oper} {Hs : Hp} {Q : Post} {fuel : Nat} {listed : Array Bool} {ρ : Fr} {ds : List Nat} {H : Hp} (h : anyV C ops Hs Q fuel listed ρ ds H) : Good ops Hs listed H := by
  cases fuel <;> exact h.1

theorem anyV_sound {C : Cx} {ops : Array Oper} {Hs : Hp} {Q : Post} {ds : List Nat} : ∀ (fuel : Nat) (listed : Array Bool) (ρ : Fr) (H : Hp), anyV C ops Hs Q fuel listed ρ ds H →
    ∀ a w, Rel C.N a ρ ds → Kn C.e w H → wpAnyIn (fence C.r) 0 C.P .any ops (lift C Q) fuel listed a w := by
  intro fuel
  induction fuel with
  | zero => exact fun listed ρ H h a w ha hw => ⟨h.2.1, ρ, ds, H, ha, hw, h.2.2⟩
  | succ fuel ih =>
    intro listed ρ H h a w ha hw
    refine ⟨fun h0 => ⟨ρ, ds, H, ha, hw, h.2.1 h0⟩, fun i hi => ?_⟩
    obtain ⟨_, o, ho, _⟩ := mem_ready.1 hi
    obtain ⟨hd, h1⟩ := h.2.2 i hi o ho
    unfold wpOpIn
    simp only [ho]
    rw [ha.yielded]
    rcases h1 with ⟨hw', hx⟩ | ⟨hw', hx⟩
    · rw [if_pos (show Region.wanted o (gval C.N ops ρ) = true from hw')]
      exact hx.wpIn ha hw fun v H' w' k1 k2 => ih _ _ _ k2 _ _ (ha.put hd v) k1
    · rw [if_neg (by rw [show Region.wanted o (gval C.N ops ρ) = false from hw']; simp)]
      exact ⟨fun f _ => trivial, ih _ _ _ hx _ _ (ha.put hd undef) hw⟩

theorem ev_looks {ops : Array Oper} {o : Oper} {ρ : Fr} {dst : Option Nat} {v : Value} (h : ∀ d, dst = some d → d ∉ o.looksAt ops) : ∀ x ∈ o.op.operands, ev (updO ρ dst v) x = ev ρ x := by
  intro x hx
  refine ev_updO fun d hd hxd => h d hd ?_
  subst hxd
  exact List.mem_append_left _ (List.mem_filterMap.2 ⟨.tmp d, by simpa using hx, rfl⟩)
theorem exec_looks {ops : Array Oper} {o : Oper} {ρ : Fr} {dst : Option Nat} {v : Value} (hs : ∀ cs b, o.op ≠ .select cs b) (h : ∀ d, dst = some d → d ∉ o.looksAt ops) : execOp (ev (updO ρ dst v)) o = execOp (ev ρ) o :=
  execOp_congr o hs (ev_looks h)
theorem want_looks {N : Nat} {ops : Array Oper} {o : Oper} {ρ : Fr} {dst : Option Nat} {v : Value} (h : ∀ d, dst = some d → d ∉ o.looksAt ops) : wantV N ops (updO ρ dst v) o = wantV N ops ρ o := by
  unfold wantV Region.wanted
  cases hg : o.guard with
  | none => rfl
  | some x =>
    obtain ⟨j, b⟩ := x
    have : gval N ops (updO ρ dst v) j = gval N ops ρ j := by
      unfold gval
      cases hj : (ops[j]?).bind (·.dst) with
      | none => rfl
      | some d =>
        have hne : ∀ c, dst = some c → d ≠ c := fun c hc e => h c hc (by
          refine List.mem_append_right _ ?_
          rw [hg]
          simp [hj, e])
        have : updO ρ dst v d = ρ d := by
          cases dst with
          | none => rfl
          | some c => exact upd_other _ _ (hne c rfl)
        simp only [this]
    simp only [this]

theorem anyV_first {C : Cx} {ops : Array Oper} {Hs : Hp} {Q : Post} {ds : List Nat} {i : Nat} {oi : Oper} {v : Value} (hi : ops[i]? = some oi) (hn : (Hs.map Prod.fst).Nodup)
    (hsel : ∀ (j : Nat) (o : Oper) cs b, ops[j]? = some o → o.op ≠ .select cs b) (hdi : dstOK C.N oi.dst = true) (hrdi : isRd oi.op = true) :
    ∀ (fuel : Nat) (listed : Array Bool) (ρ : Fr) (H : Hp),
      (∀ j oj, ops[j]? = some oj → j ≠ i → listed.getD j true = false → (∀ e ∈ oj.after, Region.binds .any e = true → e.on ≠ i) → oi.apart ops oj = true) →
      Closed ops listed → i ∈ Region.ready .any ops listed → Rv C ops oi ρ (Hn oi Hs) v → Good ops Hs listed H → anyV C ops Hs Q fuel (listed.setIfInBounds i true) (updO ρ oi.dst v) ds H → anyV C ops Hs Q (fuel + 1) listed ρ ds H := by
  have here : ∀ {fuel : Nat} {listed : Array Bool} {ρ : Fr} {H : Hp}, Rv C ops oi ρ (Hn oi Hs) v → (∀ x ∈ Hn oi Hs, x ∈ H) → anyV C ops Hs Q fuel (listed.setIfInBounds i true) (updO ρ oi.dst v) ds H →
      opV C ops oi (fun ρ' H' => anyV C ops Hs Q fuel (listed.setIfInBounds i true) ρ' ds H') ρ H := by
    intro fuel listed ρ H hv hsub h
    refine ⟨hdi, ?_⟩
    rcases hv with ⟨h1, h2⟩ | ⟨h1, rfl⟩
    · exact .inl ⟨h1, (h2.more hsub (hn_nodup hn)).ex h⟩
    · exact .inr ⟨h1, h⟩
  intro fuel
  induction fuel with
  | zero =>
    intro listed ρ H _ hcl hr hv hsub h
    refine ⟨hsub, fun h0 => (by rw [h0] at hr; cases hr), fun j hj o ho => ?_⟩
    by_cases hji : j = i
    · subst hji
      rw [hi] at ho; cases ho
      exact here hv (good_need hsub hcl hr hi) h
    · have := ready_mono hj hji
      rw [h.2.1] at this
      cases this
  | succ fuel ih =>
    intro listed ρ H hfree hcl hr hv hsub h
    refine ⟨hsub, fun h0 => (by rw [h0] at hr; cases hr), fun j hj oj hoj => ?_⟩
    by_cases hji : j = i
    · subst hji
      rw [hi] at hoj; cases hoj
      exact here hv (good_need hsub hcl hr hi) h
    · obtain ⟨hjun, oj', hoj', hall⟩ := mem_ready.1 hj
      rw [hoj] at hoj'; cases hoj'
      have hnot : ∀ e ∈ oj.after, Region.binds .any e = true → e.on ≠ i := fun e he hb heq => by
        have h1 := hall e he hb
        have h0 := (mem_ready.1 hr).1
        rw [heq] at h1
        cases hg : listed[i]? with
        | none => simp [hg] at h1
        | some x => simp [hg] at h0 h1; rw [h0] at h1; cases h1
      obtain ⟨p1, p2, p3⟩ := Oper.apart_spec (hfree j oj hoj hji hjun hnot)
      obtain ⟨hdj, h1⟩ := h.2.2 j (ready_mono hj hji) oj hoj
      have hfree' : ∀ k ok, ops[k]? = some ok → k ≠ i → (listed.setIfInBounds j true).getD k true = false → (∀ e ∈ ok.after, Region.binds .any e = true → e.on ≠ i) → oi.apart ops ok = true := fun k ok hk hki hun hno => by
        refine hfree k ok hk hki ?_ hno
        by_cases hjk : j = k
        · subst hjk; exact hjun
        · rw [getD_set_ne true hjk] at hun; exact hun
      have good_back : ∀ {H' : Hp}, Good ops Hs ((listed.setIfInBounds i true).setIfInBounds j true) H' → Good ops Hs (listed.setIfInBounds j true) H' := fun hg => by
        rcases hg with ⟨k, hk, hcov⟩ | hg
        · refine .inl ⟨k, ?_, hcov⟩
          have hki : k ≠ i := by
            rintro rfl
            obtain ⟨ok, hok, hnr, _⟩ := covers_spec hcov
            rw [hi] at hok; cases hok
            rw [hrdi] at hnr; cases hnr
          rw [Array.setIfInBounds_comm _ _ (Ne.symm hji), getD_set_ne false (Ne.symm hki)] at hk
          exact hk
        · exact .inr hg
      have again : ∀ (u : Value) (H' : Hp), anyV C ops Hs Q fuel ((listed.setIfInBounds i true).setIfInBounds j true) (updO (updO ρ oi.dst v) oj.dst u) ds H' → anyV C ops Hs Q (fuel + 1) (listed.setIfInBounds j true) (updO ρ oj.dst u) ds H' := by
        intro u H' h3
        refine ih _ _ _ hfree' (closed_set hcl hj) (ready_mono hr (Ne.symm hji)) ?_ (good_back (anyV_sub h3)) ?_
        · rcases hv with ⟨q1, q2⟩ | ⟨q1, q2⟩
          · refine .inl ⟨by rw [want_looks p3]; exact q1, fun w hw => ?_⟩
            rw [exec_looks (fun cs b => hsel i oi cs b hi) p3]
            exact q2 w hw
          · exact .inr ⟨by rw [want_looks p3]; exact q1, q2⟩
        · rw [Array.setIfInBounds_comm _ _ hji, updO_comm ρ u v (fun d hd hd' => p2 d hd' hd)]
          exact h3
      refine ⟨hdj, ?_⟩
      rcases h1 with ⟨q1, q2⟩ | ⟨q1, q2⟩
      · refine .inl ⟨by rw [want_looks p1] at q1; exact q1, fun w hw => ?_⟩
        have := q2 w hw
        rw [exec_looks (fun cs b => hsel j oj cs b hoj) p1] at this
        have mk : ∀ x w, retOnly (knK C.e fun u H' => anyV C ops Hs Q fuel ((listed.setIfInBounds i true).setIfInBounds j true) (updO (updO ρ oi.dst v) oj.dst u) ds H') x w →
            retOnly (knK C.e fun u H' => anyV C ops Hs Q (fuel + 1) (listed.setIfInBounds j true) (updO ρ oj.dst u) ds H') x w := fun x w => by
          cases x with
          | returned v => exact fun ⟨H, k1, k2⟩ => ⟨H, k1, again _ _ k2⟩
          | _ => exact id
        cases hx : (execOp (ev ρ) oj).run C.P w with
        | halt y w' => rw [hx] at this; exact this
        | ok n w' =>
          rw [hx] at this
          cases n with
          | value u => exact mk (.returned u) w' this
          | skip => exact mk (.returned undef) w' this
          | enter f args => exact CallsIn.mono this mk
          | round l f tmps assign body => exact RoundIn.mono this mk
          | _ => exact this
      · exact .inr ⟨by rw [want_looks p1] at q1; exact q1, again _ _ q2⟩

def Subs (A B : Hp) : Prop := ∀ x ∈ A, x ∈ B
theorem Subs.all {xs H : Hp} (h : Subs xs H) : ∀ x ∈ xs, x ∈ H := h

/-- The order in which the region is walked: readers first, then the one other operation that is ready. -/
def planOK (ops : Array Oper) : List Nat → Array Bool → Bool
  | [], listed => Region.ready .any ops listed == []
  | i :: pl, listed =>
    (match ops[i]? with
      | some o => bif isRd o.op then (Region.ready .any ops listed).contains i && Region.free .any ops listed i else Region.ready .any ops listed == [i]
      | none => false) && planOK ops pl (listed.setIfInBounds i true)

def wpD (C : Cx) (ops : Array Oper) (Hs : Hp) (Q : Post) : List Nat → Fr → List Nat → Hp → Prop
  | [], ρ, ds, H => Q .normal ρ ds H
  | i :: pl, ρ, ds, H => ∀ o, ops[i]? = some o → dstOK C.N o.dst = true ∧
      ((isRd o.op = true ∧ ∃ v, Rv C ops o ρ (Hn o Hs) v ∧ wpD C ops Hs Q pl (updO ρ o.dst v) ds H) ∨
       (isRd o.op = false ∧ ((wantV C.N ops ρ o = true ∧ Ex C o (fun v H' => (covers ops i = true ∨ Subs Hs H') ∧ wpD C ops Hs Q pl (updO ρ o.dst v) ds H') ρ H) ∨ (wantV C.N ops ρ o = false ∧ wpD C ops Hs Q pl (updO ρ o.dst undef) ds H))))

theorem anyV_of_wpD {C : Cx} {ops : Array Oper} {Hs : Hp} {Q : Post} {ds : List Nat} (hn : (Hs.map Prod.fst).Nodup) (hs : Region.noSelect ops = true) :
    ∀ (pl : List Nat) (listed : Array Bool) (ρ : Fr) (H : Hp) (fuel : Nat), pl.length ≤ fuel → planOK ops pl listed = true → Closed ops listed → Good ops Hs listed H → wpD C ops Hs Q pl ρ ds H → anyV C ops Hs Q fuel listed ρ ds H := by
  intro pl
  induction pl with
  | nil =>
    intro listed ρ H fuel _ hp hcl hsub h
    have h0 : Region.ready .any ops listed = [] := by simpa [planOK] using hp
    cases fuel with
    | zero => exact ⟨hsub, h0, h⟩
    | succ f => exact ⟨hsub, fun _ => h, by rw [h0]; simp⟩
  | cons i pl ih =>
    intro listed ρ H fuel hf hp hcl hsub h
    obtain ⟨f, rfl⟩ : ∃ f, fuel = f + 1 := ⟨fuel - 1, by simp at hf; omega⟩
    simp only [List.length_cons, Nat.add_le_add_iff_right] at hf
    unfold planOK at hp
    simp only [Bool.and_eq_true] at hp
    obtain ⟨hp1, hp2⟩ := hp
    cases ho : ops[i]? with
    | none => rw [ho] at hp1; cases hp1
    | some o =>
      rw [ho] at hp1
      obtain ⟨hd, h1⟩ := h o ho
      rcases h1 with ⟨hrd, v, hv, hk⟩ | ⟨hrd, h1⟩
      · simp only [hrd, cond_true, Bool.and_eq_true] at hp1
        have hir : i ∈ Region.ready .any ops listed := by simpa using hp1.1
        exact anyV_first ho hn (Region.noSelect_spec hs) hd hrd f listed ρ H (Region.free_spec ho hp1.2) hcl hir hv hsub (ih _ _ _ _ hf hp2 (closed_set hcl hir) (good_mono i hsub) hk)
      · simp only [hrd, cond_false, beq_iff_eq] at hp1
        refine ⟨hsub, fun h0 => (by rw [hp1] at h0; cases h0), fun j hj oj hoj => ?_⟩
        have hjr := hj
        rw [hp1] at hj
        have hj' : j = i := by simpa using hj
        subst hj'
        rw [ho] at hoj; cases hoj
        refine ⟨hd, ?_⟩
        rcases h1 with ⟨w1, w2⟩ | ⟨w1, w2⟩
        · refine .inl ⟨w1, w2.mono fun u H' ⟨k1, k2⟩ => ih _ _ _ _ hf hp2 (closed_set hcl hjr) ?_ k2⟩
          rcases k1 with k1 | k1
          · refine .inl ⟨j, ?_, k1⟩
            have h0 := (mem_ready.1 hjr).1
            have hlt : j < listed.size := by
              rcases Nat.lt_or_ge j listed.size with h | h
              · exact h
              · simp [h] at h0
            simp [hlt]
          · exact .inr k1.all
        · exact .inr ⟨w1, ih _ _ _ _ hf hp2 (closed_set hcl hjr) (good_mono j hsub) w2⟩

theorem wpC_draw {C : Cx} {Q : Post} {ρ : Fr} {ds : List Nat} {H R : Hp} {id : Nat} {ops : Array Oper} (Hs : Hp) (pl : List Nat) (hm : C.P.follows .mixedOrders = true)
    (hp : (planOK ops pl (Array.replicate ops.size false) && Region.noSelect ops && Nat.ble pl.length ops.size) = true) (hpk : H.Perm (Hs ++ R)) (h : wpD C ops Hs Q pl ρ ds H) : wpC C (.region id ops true) Q ρ ds H := by
  intro a w ha hw
  simp only [Bool.and_eq_true] at hp
  have hk := hw.perm hpk
  exact wpIn_region_any hm (anyV_sound _ _ _ _ (anyV_of_wpD hk.left.nodup hp.1.2 pl _ ρ H _ (Nat.le_of_ble_eq_true hp.2) hp.1.1 (fun j oj _ hl => (by rw [Array.getD_eq_getD_getElem?, Array.getElem?_replicate] at hl; split at hl <;> simp at hl)) (.inr fun x hx => hpk.mem_iff.2 (List.mem_append_left _ hx)) h) a _ ha (hw.drawn _))

section
variable {C : Cx} {ops : Array Oper} {Hs : Hp} {Q : Post} {pl : List Nat} {ρ : Fr} {ds : List Nat} {H : Hp} {i : Nat}
variable {op : Op} {ty : TypeId} {pos : String} {af : Array Edge} {g : Option (Nat × Bool)} {d : Nat} {v : Value}
theorem wpD_nil (h : Q .normal ρ ds H) : wpD C ops Hs Q [] ρ ds H := h
theorem wpD_rds (ho : ops[i]? = some ⟨some d, op, ty, pos, af, g⟩) (hi : isRd op = true) (hw : wantV C.N ops ρ ⟨some d, op, ty, pos, af, g⟩ = true) (hd : Nat.blt d C.N = true) (hr : Rd C.P C.e ρ (bif memRd op then Hs else []) ⟨some d, op, ty, pos, af, g⟩ v)
    (h : wpD C ops Hs Q pl (upd ρ d v) ds H) : wpD C ops Hs Q (i :: pl) ρ ds H := by
  intro o ho'
  rw [ho] at ho'; cases ho'
  exact ⟨hd, .inl ⟨hi, v, .inl ⟨hw, hr⟩, h⟩⟩
theorem wpD_sks (ho : ops[i]? = some ⟨some d, op, ty, pos, af, g⟩) (hw : wantV C.N ops ρ ⟨some d, op, ty, pos, af, g⟩ = false) (hd : Nat.blt d C.N = true)
    (h : wpD C ops Hs Q pl (upd ρ d undef) ds H) : wpD C ops Hs Q (i :: pl) ρ ds H := by
  intro o ho'
  rw [ho] at ho'; cases ho'
  refine ⟨hd, ?_⟩
  by_cases hi : isRd op = true
  · exact .inl ⟨hi, undef, .inr ⟨hw, rfl⟩, h⟩
  · exact .inr ⟨by simpa using hi, .inr ⟨hw, h⟩⟩
theorem wpD_exs (ho : ops[i]? = some ⟨some d, op, ty, pos, af, g⟩) (hi : isRd op = false) (hw : wantV C.N ops ρ ⟨some d, op, ty, pos, af, g⟩ = true) (hd : Nat.blt d C.N = true)
    (h : Ex C ⟨some d, op, ty, pos, af, g⟩ (fun v H' => (covers ops i = true ∨ Subs Hs H') ∧ wpD C ops Hs Q pl (upd ρ d v) ds H') ρ H) : wpD C ops Hs Q (i :: pl) ρ ds H := by
  intro o ho'
  rw [ho] at ho'; cases ho'
  exact ⟨hd, .inr ⟨hi, .inl ⟨hw, h⟩⟩⟩
theorem wpD_exn (ho : ops[i]? = some ⟨none, op, ty, pos, af, g⟩) (hi : isRd op = false) (hw : wantV C.N ops ρ ⟨none, op, ty, pos, af, g⟩ = true)
    (h : Ex C ⟨none, op, ty, pos, af, g⟩ (fun _ H' => (covers ops i = true ∨ Subs Hs H') ∧ wpD C ops Hs Q pl ρ ds H') ρ H) : wpD C ops Hs Q (i :: pl) ρ ds H := by
  intro o ho'
  rw [ho] at ho'; cases ho'
  exact ⟨rfl, .inr ⟨hi, .inl ⟨hw, h⟩⟩⟩
end

end Go.Vl

namespace Go.Vl
open Go.RowKit

/-- A frame as the cells that hold it. -/
def frameA (N : Nat) (ρ : Fr) : Array Value := ((List.range N).map ρ).toArray
theorem Rel.arr {N : Nat} {a : Act} {ρ : Fr} {ds : List Nat} (h : Rel N a ρ ds) : a.tmps = frameA N ρ := by
  apply Array.ext
  · simp [frameA, h.size]
  · intro i h1 h2
    have h3 := h.val i
    rw [Array.getD_eq_getD_getElem?, Array.getElem?_eq_getElem h1] at h3
    simp only [Option.getD_some] at h3
    rw [h3]
    simp [frameA]
def setPs (ρ : Fr) : List Nat → List Value → Fr
  | t :: ts, v :: vs => setPs (upd ρ t v) ts vs
  | _, _ => ρ
theorem rel_setPs {N : Nat} : ∀ (ps : List Nat) (vs : List Value) (T : Array Value) (ρ : Fr), Rel N { tmps := T, defers := [] } ρ [] → (ps.all fun t => Nat.blt t N) = true →
    Rel N { tmps := (ps.zip vs).foldl (fun tmps (x : Nat × Value) => tmps.setIfInBounds x.1 x.2) T, defers := [] } (setPs ρ ps vs) []
  | [], _, _, _, h, _ => h
  | _ :: _, [], _, _, h, _ => h
  | t :: ts, v :: vs, T, ρ, h, hp => by
    rw [List.all_cons, Bool.and_eq_true] at hp
    exact rel_setPs ts vs _ _ (h.put (dst := some t) hp.1 v) hp.2

/-- the record of a range over a function -/
def recL (fn : FuncId) (N : Nat) (ρ : Fr) (ps : List Nat) (assign body : Code) (D : Nat) (st : LoopState) (pend : Option Code) : Obj :=
  .loop { state := st, pending := pend, fn, tmps := frameA N ρ, params := ps.toArray, assign, body, defers := D }

/-- A function value called. -/
def valK (P : Program) (e : World) (fv : Value) (args : List Value) (H : Hp) (K : Value → Hp → Prop) : Prop :=
  ∀ w, Kn e w H → resOK ⟨P, 0, none, e⟩ K ((do let d ← Deferred.ofValue fv args.toArray; invoke d.target d.args).run P w)
theorem valK_perm {P : Program} {e : World} {fv : Value} {args : List Value} {H H' : Hp} {K : Value → Hp → Prop} (hp : H.Perm H') (h : valK P e fv args H' K) : valK P e fv args H K := fun w hw => h w (hw.perm hp)
theorem valK_mono {P : Program} {e : World} {fv : Value} {args : List Value} {H : Hp} {K K' : Value → Hp → Prop} (h : valK P e fv args H K) (hk : ∀ v H, K v H → K' v H) : valK P e fv args H K' := fun w hw => by
  have := h w hw
  cases hr : (do let d ← Deferred.ofValue fv args.toArray; invoke d.target d.args : Sem Next).run P w with
  | halt h w' => rw [hr] at this; exact this
  | ok n w' =>
    rw [hr] at this
    have hm : ∀ x w', retOnly (knK e K) x w' → retOnly (knK e K') x w' := fun x w' hx => by
      cases x with
      | returned v => obtain ⟨H', h1, h2⟩ := hx; exact ⟨H', h1, hk _ _ h2⟩
      | _ => exact hx
    cases n with
    | value v => obtain ⟨H', h1, h2⟩ := this; exact ⟨H', h1, hk _ _ h2⟩
    | skip => obtain ⟨H', h1, h2⟩ := this; exact ⟨H', h1, hk _ _ h2⟩
    | enter f args => exact CallsIn.mono this hm
    | round l f tmps assign body => exact RoundIn.mono this hm
    | _ => exact this.elim

section
variable {C : Cx} {ρ : Fr} {H : Hp} {d : Option Nat} {ty : TypeId} {pos : String} {af : Array Edge} {g : Option (Nat × Bool)} {K : Value → Hp → Prop}
theorem ex_callV {x : Operand} {args : List Operand} {ats : Array TypeId} {fv : Value} {vs : List Value} (hx : ev ρ x = fv) (ha : EvL ρ args vs) (h : valK C.P C.e fv vs H K) :
    Ex C ⟨d, .call ⟨.value x, args.toArray, ats⟩, ty, pos, af, g⟩ K ρ H := fun w hw => by
  have h1 := h w hw
  have hargs : args.toArray.map (ev ρ) = vs.toArray := by rw [← ha.map]; simp
  have h2 : execOp (ev ρ) ⟨d, .call ⟨.value x, args.toArray, ats⟩, ty, pos, af, g⟩ = (do let d ← Deferred.ofValue fv vs.toArray; invoke d.target d.args) := by
    simp only [execOp, resolve, hargs, hx]
  rw [h2]
  exact h1
/-- a closure -/
theorem val_func {P : Program} {e : World} {f : FuncId} {first cap : Array Value} {vs : List Value} {fn : Func} (hf : P.funcs[f]? = some fn) (hb : fn.body.isNone = false) (hn : (fn.name == "runtime.NumGoroutine") = false)
    (h : callsK P e f (first ++ vs.toArray ++ cap) H K) : valK P e (.func (.func f) first cap) vs H K := fun w hw => by
  have h1 : (do let d ← Deferred.ofValue (.func (.func f) first cap) vs.toArray; invoke d.target d.args : Sem Next).run P w = .ok (.enter f (first ++ vs.toArray ++ cap)) w := by
    have hn' : ¬ fn.name = "runtime.NumGoroutine" := by simpa using hn
    have hb' : ¬ fn.body = none := by intro h; rw [h] at hb; cases hb
    simp [Deferred.ofValue, invoke, callFunc, hf, hn', hb']
  rw [h1]
  exact h w hw

/-- A round's end. -/
def RQ (l : Nat) (rc : LoopState → Option Code → Obj) (K : Value → Hp → Prop) : Post := fun x _ _ H2 => ∃ R p, Drp ((l, rc .busy p) :: R) H2 ∧
  match x with
  | .normal => K (.bool true) ((l, rc .ready none) :: R)
  | .ret => K (.bool false) ((l, rc .done (some .ret)) :: R)
  | .exit i => K (.bool false) ((l, rc .done (some (.exit i))) :: R)
  | _ => False

theorem kn_putObj {e w : World} {l : Nat} {o o' : Obj} {R : Hp} (hw : Kn e w ((l, o) :: R)) : Kn e (w.putObj l o') ((l, o') :: R) := by
  have hlt := hw.lt List.mem_cons_self
  refine hw.set (f := fun o => (l, o) :: R) .head rfl rfl rfl ?_ fun k hk => World.putObj_heap_other hk
  simp only at hlt
  simp [World.putObj, hlt]

theorem val_yield {P : Program} {e : World} {l : Nat} {fn : FuncId} {N : Nat} {ρ0 : Fr} {ps : List Nat} {assign body : Code} {D : Nat} {p : Option Code} {vs : List Value} {R : Hp} {a0 : Act} {ds0 : List Nat}
    (hrel : Rel N a0 ρ0 ds0) (hps : (ps.all fun t => Nat.blt t N) = true) (hlen : vs.length = ps.length)
    (h : wpC ⟨P, N, some l, e⟩ assign (fun x ρ1 ds1 H1 => x = .normal ∧ ds1 = [] ∧ ∃ R1 p1, Drp ((l, recL fn N ρ0 ps assign body D .ready p1) :: R1) H1 ∧
      wpC ⟨P, N, some l, e⟩ body (RQ l (recL fn N ρ0 ps assign body D) K) ρ1 [] ((l, recL fn N ρ0 ps assign body D .busy p1) :: R1)) (setPs ρ0 ps vs) [] ((l, recL fn N ρ0 ps assign body D .ready p) :: R)) :
    valK P e (.func (.yield l) #[] #[]) vs ((l, recL fn N ρ0 ps assign body D .ready p) :: R) K := fun w hw => by
  have hl := hw.has _ List.mem_cons_self
  have h1 : (do let d ← Deferred.ofValue (.func (.yield l) #[] #[]) vs.toArray; invoke d.target d.args : Sem Next).run P w =
      .ok (.round l fn ((ps.toArray.zip vs.toArray).foldl (fun tmps (t, a) => tmps.setIfInBounds t a) (frameA N ρ0)) assign body) w := by
    have := run_yield (P := P) (w := w) (args := vs.toArray) hl (by simp [hlen])
    simpa [Deferred.ofValue, invoke] using this
  rw [h1]
  show RoundIn (fence none) 0 P l fn _ assign body w (retOnly (knK e K))
  refine roundIn_of_wpIn trivial ?_
  have hr0 : Rel N { tmps := frameA N ρ0, defers := [] } ρ0 [] := ⟨by simp [frameA], by rw [← hrel.arr]; exact hrel.val, rfl⟩
  have hr1 := rel_setPs ps vs _ _ hr0 hps
  have e1 : (ps.toArray.zip vs.toArray).foldl (fun tmps (x : Nat × Value) => tmps.setIfInBounds x.1 x.2) (frameA N ρ0) = (ps.zip vs).foldl (fun tmps (x : Nat × Value) => tmps.setIfInBounds x.1 x.2) (frameA N ρ0) := by
    rw [List.zip_toArray, List.foldl_toArray]
  rw [← e1] at hr1
  refine Go.wpIn_mono (h _ _ hr1 hw) ?_
  rintro x a w1 ⟨ρ1, ds1, H1, ra, ka, rfl, rfl, R1, p1, hd, hbody⟩
  obtain ⟨G, hG⟩ := hd
  have k1 := (ka.perm hG).left
  refine ⟨_, run_beginRound (k1.has _ List.mem_cons_self) rfl, ?_⟩
  refine Go.wpIn_mono (hbody _ _ ra (kn_putObj k1)) ?_
  rintro x a w2 ⟨ρ2, ds2, H2, rb, kb, R2, p2, ⟨G2, hG2⟩, hx⟩
  have k2 := (kb.perm hG2).left
  have hl2 := k2.has _ List.mem_cons_self
  cases x with
  | normal => exact ⟨_, _, run_endRound none hl2, _, kn_putObj k2, hx⟩
  | ret => exact ⟨_, _, run_endRound (some .ret) hl2, _, kn_putObj k2, hx⟩
  | exit i => exact ⟨_, _, run_endRound (some (.exit i)) hl2, _, kn_putObj k2, hx⟩
  | _ => exact hx.elim

/-- What stands behind the call of the function that was ranged over. -/
def RangeQ (C : Cx) (l : Nat) (rc : LoopState → Option Code → Obj) (Q : Post) (ρ : Fr) (ds : List Nat) : Value → Hp → Prop := fun _ H' => ∃ st p R, st ≠ .busy ∧ Drp ((l, rc st p) :: R) H' ∧
  match p with
  | none => Q .normal ρ ds R
  | some c => wpC C c Q ρ ds R

theorem range_post {C : Cx} {l : Nat} {rc : LoopState → Option Code → Obj} {Q : Post} {ρ : Fr} {ds : List Nat} {a : Act} (hrc : ∀ st p, ∃ r : Loop, rc st p = .loop r ∧ r.state = st ∧ r.pending = p) (ha : Rel C.N a ρ ds) {x : Ending} {w : World}
    (h : retOnly (knK C.e (RangeQ C l rc Q ρ ds)) x w) : rangePost (fence C.r) 0 C.P l (lift C Q) a x w := by
  cases x with
  | returned v =>
    obtain ⟨H', k, st, p, R, hst, ⟨G, hG⟩, hq⟩ := h
    have k1 := (k.perm hG).left
    obtain ⟨⟨s0, p0, f1, t1, ps1, as1, bd1, D1⟩, hr, h1, h2⟩ := hrc st p
    simp only at h1 h2
    subst h1 h2
    have hl := k1.has _ List.mem_cons_self
    rw [hr] at hl
    have k3 := kn_putObj (o' := .loop { state := .exhausted, pending := p0, fn := f1, tmps := t1, params := ps1, assign := as1, body := bd1, defers := D1 }) k1
    have k2 : Kn C.e (w.putObj l (.loop { state := .exhausted, pending := p0, fn := f1, tmps := t1, params := ps1, assign := as1, body := bd1, defers := D1 })) R :=
      ⟨k3.os, k3.tape, k3.output, by have := k3.nodup; rw [List.map_cons, List.nodup_cons] at this; exact this.2, fun x hx => k3.has x (List.mem_cons_of_mem _ hx)⟩
    refine ⟨p0, _, run_endLoop hl hst, ?_⟩
    cases p0 with
    | none => exact ⟨ρ, ds, R, ha, k2, hq⟩
    | some c => exact hq _ _ ha k2
  | _ => exact h.elim

/-- The statement, outermost. -/
theorem wpC_rangeFunc {C : Cx} {g : Operand} {ps : List Nat} {assign body : Code} {Q : Post} {ρ : Fr} {ds : List Nat} {H : Hp} {gf : FuncId} {first cap : Array Value} {fn : Func} (hr : C.r = none)
    (hg : ev ρ g = .func (.func gf) first cap) (hf : C.P.funcs[gf]? = some fn) (hb : fn.body.isNone = false) (hn : (fn.name == "runtime.NumGoroutine") = false)
    (h : ∀ (a : Act) (l D : Nat) (f0 : FuncId), Rel C.N a ρ ds → callsK C.P C.e gf (first ++ #[.func (.yield l) #[] #[]] ++ cap) ((l, recL f0 C.N ρ ps assign body D .ready none) :: (D, .deferred (some [])) :: H)
      (RangeQ C l (recL f0 C.N ρ ps assign body D) Q ρ (D :: ds))) : wpC C (.rangeFunc g ps.toArray assign body) Q ρ ds H := fun a w ha hw => by
  refine wpIn_rangeFunc fun f0 _ => ?_
  have h1 := h a (w.heap.size + 1) w.heap.size f0 ha
  have k1 := hw.alloc (.deferred (some []))
  have k2 := k1.alloc (recL f0 C.N ρ ps assign body w.heap.size .ready none)
  have hsz : ({ w with heap := w.heap.push (.deferred (some [])) } : World).heap.size = w.heap.size + 1 := by simp
  rw [hsz] at k2
  have he := run_enterLoop_outer (P := C.P) (w := w) f0 a.tmps ps.toArray assign body
  rw [ha.arr] at he
  have hev : a.eval g = .func (.func gf) first cap := by rw [ha.eval]; exact hg
  have hn' : ¬ fn.name = "runtime.NumGoroutine" := by simpa using hn
  have hb' : ¬ fn.body = none := by intro h; rw [h] at hb; cases hb
  refine ⟨w.heap.size + 1, [{ target := .collected w.heap.size, args := #[] }], (w.alloc (.deferred (some []))).alloc (recL f0 C.N ρ ps assign body w.heap.size .ready none), { target := .fn (.func gf) cap, args := first ++ #[.func (.yield (w.heap.size + 1)) #[] #[]] }, (w.alloc (.deferred (some []))).alloc (recL f0 C.N ρ ps assign body w.heap.size .ready none), gf, first ++ #[.func (.yield (w.heap.size + 1)) #[] #[]] ++ cap, (w.alloc (.deferred (some []))).alloc (recL f0 C.N ρ ps assign body w.heap.size .ready none), ?_, ?_, fun _ _ => trivial, ?_, fun h => by simp [fence] at h, ?_⟩
  · rw [ha.arr]
    have : (fence C.r).round = none := hr
    rw [this]
    exact he
  · have : resolve a.eval (rangeCall g (w.heap.size + 1)) 0 = Deferred.ofValue (a.eval g) #[.func (.yield (w.heap.size + 1)) #[] #[]] := by
      simp only [resolve, List.map_toArray, List.map_cons, List.map_nil]
      rfl
    rw [this, hev]
    rfl
  · simp [invoke, callFunc, hf, hn', hb']
  · refine CallsIn.mono (F := fence C.r) (show CallsIn (fence C.r) 0 C.P gf _ _ _ from h1 _ k2) fun e w' hR => ?_
    exact range_post (a := { a with defers := [{ target := .collected w.heap.size, args := #[] }] ++ a.defers }) (fun st p => ⟨_, rfl, rfl, rfl⟩) ⟨ha.size, ha.val, by show _ :: a.defers = _; rw [ha.defers]; rfl⟩ hR
end

/-! ### Iterators -/

/-- What a yield does with one element, at the iterator's side: A is the iterator's own memory. -/
def YK (P : Program) (e : World) (yv : Value) (S : List (List Value) → Prop) (inv : List (List Value) → Hp → Prop) (stop : Hp → Prop) : Prop :=
  ∀ done x T A, (∃ rest, S (done ++ x :: rest)) → inv done T →
    valK P e yv x (A ++ T) (fun b H' => (b = .bool true ∧ ∃ T', inv (done ++ [x]) T' ∧ Drp (A ++ T') H') ∨ (b = .bool false ∧ ∃ T', stop T' ∧ Drp (A ++ T') H'))
/-- An iterator: it hands out one of the sequences of S, or as much of one as is asked for; B: what it reads. -/
def Iter (P : Program) (e : World) (gf : FuncId) (first cap : Array Value) (B : Hp) (S : List (List Value) → Prop) : Prop :=
  ∀ yv inv stop (K : Value → Hp → Prop) T, YK P e yv S inv stop → inv [] T → (∀ all T, S all → inv all T → K (.tuple #[]) (B ++ T)) → (∀ T, stop T → K (.tuple #[]) (B ++ T)) →
    callsK P e gf (first ++ #[yv] ++ cap) (B ++ T) K

theorem Drp.perm {X H H' : Hp} (h : Drp X H) (hp : H'.Perm H) : Drp X H' := let ⟨G, hG⟩ := h; ⟨G, hp.trans hG⟩

/-- A range over an iterator, outermost: I: what is known after some elements; St: at an early end. -/
theorem wpC_rangeIter {C : Cx} {g : Operand} {ps : List Nat} {assign body : Code} {Q : Post} {ρ : Fr} {ds : List Nat} {H : Hp} {gf : FuncId} {first cap : Array Value} {fn : Func} {B T0 : Hp} {S : List (List Value) → Prop}
    (I : List (List Value) → Hp → Prop) (St : Exit → Hp → Prop) (hI : Iter C.P C.e gf first cap B S) (hp : H.Perm (B ++ T0)) (hr : C.r = none)
    (hg : ev ρ g = .func (.func gf) first cap) (hf : C.P.funcs[gf]? = some fn) (hb : fn.body.isNone = false) (hn : (fn.name == "runtime.NumGoroutine") = false)
    (hps : (ps.all fun t => Nat.blt t C.N) = true) (hS : ∀ l, S l → ∀ x ∈ l, x.length = ps.length) (h0 : I [] T0)
    (hround : ∀ (done : List (List Value)) (x : List Value) (T A : Hp) (l : Nat) (rc : LoopState → Option Code → Obj), (∃ rest, S (done ++ x :: rest)) → I done T →
      wpC ⟨C.P, C.N, some l, C.e⟩ assign (fun z ρ1 ds1 H1 => z = .normal ∧ ds1 = [] ∧ ∃ R1 p1, Drp ((l, rc .ready p1) :: R1) H1 ∧
        wpC ⟨C.P, C.N, some l, C.e⟩ body (fun z _ _ H2 => ∃ p, match z with
          | .normal => ∃ T', I (done ++ [x]) T' ∧ Drp ((l, rc .busy p) :: (T' ++ A)) H2
          | .ret => ∃ T', St .ret T' ∧ Drp ((l, rc .busy p) :: (T' ++ A)) H2
          | .exit i => ∃ T', St (.exit i) T' ∧ Drp ((l, rc .busy p) :: (T' ++ A)) H2
          | _ => False) ρ1 [] ((l, rc .busy p1) :: R1)) (setPs ρ ps x) [] ((l, rc .ready none) :: (T ++ A)))
    (hend : ∀ D all T, S all → I all T → Q .normal ρ (D :: ds) ((D, .deferred (some [])) :: (T ++ B)))
    (hstop : ∀ D z T, St z T → match z with
      | .ret => wpC C .ret Q ρ (D :: ds) ((D, .deferred (some [])) :: (T ++ B))
      | .exit i => wpC C (.exit i) Q ρ (D :: ds) ((D, .deferred (some [])) :: (T ++ B))
      | _ => True) : wpC C (.rangeFunc g ps.toArray assign body) Q ρ ds H := by
  refine wpC_perm hp (wpC_rangeFunc hr hg hf hb hn fun a l D f0 ha => ?_)
  have h1 := hI (.func (.yield l) #[] #[])
    (fun done T => ∃ T1, I done T1 ∧ T = (l, recL f0 C.N ρ ps assign body D .ready none) :: (D, .deferred (some [])) :: T1)
    (fun T => ∃ z T1, St z T1 ∧ ((z = .ret ∧ T = (l, recL f0 C.N ρ ps assign body D .done (some .ret)) :: (D, .deferred (some [])) :: T1) ∨
      ∃ i, z = .exit i ∧ T = (l, recL f0 C.N ρ ps assign body D .done (some (.exit i))) :: (D, .deferred (some [])) :: T1))
    (RangeQ C l (recL f0 C.N ρ ps assign body D) Q ρ (D :: ds)) ((l, recL f0 C.N ρ ps assign body D .ready none) :: (D, .deferred (some [])) :: T0) ?_ ⟨T0, h0, rfl⟩ ?_ ?_
  · refine callsK_perm ?_ h1
    refine (List.Perm.trans ?_ List.perm_middle.symm)
    exact (List.Perm.trans (.refl _) List.perm_middle.symm).cons _
  · rintro done x _ A hx ⟨T1, hT1, rfl⟩
    obtain ⟨rest, hrest⟩ := hx
    have hlen := hS _ hrest x (by simp)
    have p1 : (A ++ (l, recL f0 C.N ρ ps assign body D .ready none) :: (D, .deferred (some [])) :: T1).Perm ((l, recL f0 C.N ρ ps assign body D .ready none) :: (T1 ++ ((D, .deferred (some [])) :: A))) := by
      refine List.perm_middle.trans (.cons _ ?_)
      refine List.Perm.trans List.perm_middle ?_
      exact ((List.perm_append_comm).cons _).trans List.perm_middle.symm
    refine valK_perm p1 ?_
    refine val_yield ha hps hlen ?_
    refine wpC_mono (hround done x T1 ((D, .deferred (some [])) :: A) l (recL f0 C.N ρ ps assign body D) ⟨rest, hrest⟩ hT1) ?_
    rintro z ρ1 ds1 H1 ⟨rfl, rfl, R1, p2, hd, hbody⟩
    refine ⟨rfl, rfl, R1, p2, hd, wpC_mono hbody ?_⟩
    have p2 : ∀ (o : Obj) (T' : Hp), ((l, o) :: (T' ++ ((D, Obj.deferred (some [])) :: A))).Perm (A ++ (l, o) :: (D, .deferred (some [])) :: T') := fun o T' => by
      refine List.Perm.trans (.cons _ ?_) List.perm_middle.symm
      refine List.Perm.trans ?_ List.perm_middle.symm
      exact List.perm_middle.trans ((List.perm_append_comm).cons _)
    rintro z ρ2 ds2 H2 ⟨p, hz⟩
    cases z with
    | normal =>
      obtain ⟨T', hT', hd⟩ := hz
      exact ⟨_, p, hd, .inl ⟨rfl, _, ⟨T', hT', rfl⟩, [], by rw [List.append_nil]; exact p2 _ _⟩⟩
    | ret =>
      obtain ⟨T', hT', hd⟩ := hz
      exact ⟨_, p, hd, .inr ⟨rfl, _, ⟨_, T', hT', .inl ⟨rfl, rfl⟩⟩, [], by rw [List.append_nil]; exact p2 _ _⟩⟩
    | exit i =>
      obtain ⟨T', hT', hd⟩ := hz
      exact ⟨_, p, hd, .inr ⟨rfl, _, ⟨_, T', hT', .inr ⟨i, rfl, rfl⟩⟩, [], by rw [List.append_nil]; exact p2 _ _⟩⟩
    | _ => exact hz.elim
  · rintro all _ hall ⟨T1, hT1, rfl⟩
    refine ⟨.ready, none, (D, .deferred (some [])) :: (T1 ++ B), by decide, ⟨[], ?_⟩, hend D all T1 hall hT1⟩
    rw [List.append_nil]
    exact List.perm_middle.trans ((List.perm_middle.trans (List.perm_append_comm.cons _)).cons _)
  · rintro _ ⟨z, T1, hz, ⟨rfl, rfl⟩ | ⟨i, rfl, rfl⟩⟩
    · refine ⟨.done, some .ret, (D, .deferred (some [])) :: (T1 ++ B), by decide, ⟨[], ?_⟩, hstop D _ T1 hz⟩
      rw [List.append_nil]
      exact List.perm_middle.trans ((List.perm_middle.trans (List.perm_append_comm.cons _)).cons _)
    · refine ⟨.done, some (.exit i), (D, .deferred (some [])) :: (T1 ++ B), by decide, ⟨[], ?_⟩, hstop D _ T1 hz⟩
      rw [List.append_nil]
      exact List.perm_middle.trans ((List.perm_middle.trans (List.perm_append_comm.cons _)).cons _)

theorem wpO_drp {C : Cx} {ops : Array Oper} {Q : Post} {rest : List Oper} {ρ : Fr} {ds : List Nat} {H H2 : Hp} (hd : Drp H2 H) (h : wpO C ops Q rest ρ ds H2) : wpO C ops Q rest ρ ds H :=
  fun a w ha hk => let ⟨_, hG⟩ := hd; h a w ha (hk.perm hG).left
end Go.Vl
