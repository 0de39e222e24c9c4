/-
  THE SMALL LOGIC's RULES, CONTINUED: operations that make or turn blocks; calls. Nothing of the seat's program is named here.
-/
import Derived.Test.YtpegidbkplgplaaVo
import Derived.Maps.Keyed
namespace Go.Vl
open Go.RowKit

section
variable {C : Cx} {ρ : Fr} {H : Hp} {d : Option Nat} {ty : TypeId} {pos : String} {af : Array Edge} {g : Option (Nat × Bool)} {K : Value → Hp → Prop}

theorem ex_new {o : Oper} {obj : Obj} {v : Nat → Value} (hrun : ∀ w : World, (execOp (ev ρ) o).run C.P w = .ok (.value (v w.heap.size)) { w with heap := w.heap.push obj })
    (h : ∀ b, K (v b) ((b, obj) :: H)) : Ex C o K ρ H := fun w hw => by
  rw [hrun w]
  exact ⟨_, hw.alloc obj, h _⟩

theorem ex_allocA {t : TypeId} {l : List Value} (hz : zval C.P t = some (.agg l.toArray)) (h : ∀ b, K (.pointer (some ⟨b, 0, none⟩)) ((b, cellsO l t) :: H)) :
    Ex C ⟨d, .alloc t, ty, pos, af, g⟩ K ρ H :=
  ex_new (obj := cellsO l t) (v := fun b => .pointer (some ⟨b, 0, none⟩)) (fun w => by simp [execOp, Instr.alloc, zero_run hz, newVar, newRow, Value.cells]) h
theorem cells_one {v : Value} (h : v.oneCell' = true) : v.cells = #[v] := by cases v <;> first | rfl | cases h
theorem ex_alloc1 {t : TypeId} {v : Value} (hz : zval C.P t = some v) (ho : v.oneCell' = true) (h : ∀ b, K (.pointer (some ⟨b, 0, none⟩)) ((b, cellsO [v] t) :: H)) :
    Ex C ⟨d, .alloc t, ty, pos, af, g⟩ K ρ H :=
  ex_new (obj := cellsO [v] t) (v := fun b => .pointer (some ⟨b, 0, none⟩)) (fun w => by simp [execOp, Instr.alloc, zero_run hz, newVar, newRow, cells_one ho]) h
theorem ex_boxA {t : TypeId} {x : Operand} {l : List Value} (hx : ev ρ x = .agg l.toArray) (h : ∀ b, K (.pointer (some ⟨b, 0, none⟩)) ((b, cellsO l t) :: H)) :
    Ex C ⟨d, .box t x, ty, pos, af, g⟩ K ρ H :=
  ex_new (obj := cellsO l t) (v := fun b => .pointer (some ⟨b, 0, none⟩)) (fun w => by simp [execOp, Instr.box, hx, newVar, newRow, Value.cells]) h
theorem ex_box1 {t : TypeId} {x : Operand} {v : Value} (hx : ev ρ x = v) (ho : v.oneCell' = true) (h : ∀ b, K (.pointer (some ⟨b, 0, none⟩)) ((b, cellsO [v] t) :: H)) :
    Ex C ⟨d, .box t x, ty, pos, af, g⟩ K ρ H :=
  ex_new (obj := cellsO [v] t) (v := fun b => .pointer (some ⟨b, 0, none⟩)) (fun w => by simp [execOp, Instr.box, hx, newVar, newRow, cells_one ho]) h
theorem ex_makeMap {t : TypeId} (h : ∀ b, K (.map (some b)) ((b, .map #[] 0) :: H)) : Ex C ⟨d, .makeMap t none, ty, pos, af, g⟩ K ρ H :=
  ex_new (obj := .map #[] 0) (v := fun b => .map (some b)) (fun w => by simp [execOp, Instr.makeMap]) h

/-! storing -/
def putL : List Value → Nat → List Value → List Value
  | l, _, [] => l
  | l, o, v :: vs => putL (l.set o v) (o + 1) vs

theorem putL_length : ∀ (vs : List Value) (l : List Value) (o : Nat), (putL l o vs).length = l.length
  | [], _, _ => rfl
  | v :: vs, l, o => by simp [putL, putL_length vs]

theorem store_run {P : Program} {w : World} {b o : Nat} {l : List Value} {T : TypeId} {v : Value} (hb : w.heap[b]? = some (cellsO l T)) (ho : o < l.length) (hv : v.oneCell' = true) :
    (store ⟨b, o, none⟩ v).run P w = .ok () (w.setCell ⟨b, o, none⟩ v) := by
  have hc : w.cell? ⟨b, o, none⟩ = some l[o] := by simp [World.cell?, hb, ho]
  have hf : w.frozen? ⟨b, o, none⟩ = false := by simp [World.frozen?, hb]
  unfold store
  cases v <;> simp [Value.oneCell'] at hv <;> simp [Sem.run, hc, hf]

theorem setCell_heap {w : World} {b o : Nat} {l : List Value} {T : TypeId} {v : Value} (hb : w.heap[b]? = some (cellsO l T)) :
    (w.setCell ⟨b, o, none⟩ v).heap[b]? = some (cellsO (l.set o v) T) ∧ ∀ k, k ≠ b → (w.setCell ⟨b, o, none⟩ v).heap[k]? = w.heap[k]? := by
  obtain ⟨hlt, hk⟩ := Array.getElem?_eq_some_iff.1 hb
  constructor
  · show (w.heap.modify b _)[b]? = _
    rw [Array.getElem?_eq_getElem (by rw [Array.size_modify]; exact hlt), Array.getElem_modify_self, hk]
    simp
  · exact fun k hk => Below.heap_setCell w ⟨b, o, none⟩ v k hk

theorem storeCells_run {P : Program} {b : Nat} {T : TypeId} {a0 : Nat} : ∀ (vs : List Value) (w : World) (l : List Value) (i : Nat), w.heap[b]? = some (cellsO l T) → a0 + i + vs.length ≤ l.length → (∀ v ∈ vs, v.oneCell' = true) →
    ∃ w', (storeCells ⟨b, a0, none⟩ vs i).run P w = .ok () w' ∧ w'.heap[b]? = some (cellsO (putL l (a0 + i) vs) T) ∧ (∀ k, k ≠ b → w'.heap[k]? = w.heap[k]?) ∧ w'.os = w.os ∧ w'.tape = w.tape ∧ w'.output = w.output := by
  intro vs
  induction vs with
  | nil => intro w l i hb _ _; exact ⟨w, rfl, hb, fun _ _ => rfl, rfl, rfl, rfl⟩
  | cons v vs ih =>
    intro w l i hb hlen hone
    simp only [List.length_cons] at hlen
    have h1 := store_run (P := P) (o := a0 + i) hb (by omega) (hone v (by simp))
    obtain ⟨h2, h3⟩ := setCell_heap (o := a0 + i) (v := v) hb
    obtain ⟨w', r1, r2, r3, r4, r5, r6⟩ := ih _ (l.set (a0 + i) v) (i + 1) h2 (by simp; omega) (fun u hu => hone u (by simp [hu]))
    refine ⟨w', ?_, r2, fun k hk => (r3 k hk).trans (h3 k hk), r4, r5, r6⟩
    simp only [storeCells, addr_add, Sem.run_bind, h1, Result.andThen_ok]
    exact r1

def ones : List Value → Bool
  | [] => true
  | v :: l => v.oneCell' && ones l
theorem ones_all : ∀ {l : List Value}, ones l = true → ∀ v ∈ l, v.oneCell' = true
  | [], _, _, h => by cases h
  | _ :: l, h, v, hv => by
    simp only [ones, Bool.and_eq_true] at h
    rcases List.mem_cons.1 hv with rfl | hv
    · exact h.1
    · exact ones_all h.2 v hv

theorem ex_store {t n b o : Nat} {x y : Operand} {v : Value} {l vs : List Value} {T : TypeId} {f : Obj → Hp} (hx : ev ρ x = .pointer (some ⟨b, o, none⟩)) (hy : ev ρ y = v) (hv : v.cells.toList = vs)
    (hs : sz C.P t = some n) (hn : vs.length = n) (ho : ones vs = true) (hz : Zip H b (cellsO l T) f) (hlen : Nat.ble (o + n) l.length = true) (h : K undef (f (cellsO (putL l o vs) T))) :
    Ex C ⟨d, .store t x y, ty, pos, af, g⟩ K ρ H := fun w hw => by
  have hb := hw.has _ hz.mem
  obtain ⟨w', r1, r2, r3, r4, r5, r6⟩ := storeCells_run (P := C.P) (T := T) (a0 := o) vs w l 0 hb (by have := Nat.le_of_ble_eq_true hlen; omega) (ones_all ho)
  have h0 : (Instr.storeAt t (ev ρ x) (ev ρ y)).run C.P w = .ok () w' := by
    rw [hx, hy]
    show Sem.run C.P (storeVar t ⟨b, o, none⟩ v) w = _
    have hsz : v.cells.size = n := by rw [← hn, ← hv]; simp
    unfold storeVar
    simp only [Sem.run_bind, sizeOf_run hs, Result.andThen_ok, hsz, ne_eq, not_true_eq_false, if_false, hv]
    exact r1
  have h1 : (execOp (ev ρ) ⟨d, .store t x y, ty, pos, af, g⟩).run C.P w = .ok .skip w' := by simp [execOp, h0]
  rw [h1]
  exact ⟨_, hw.set hz r4 r5 r6 (by simpa using r2) r3, h⟩

theorem ex_storeA {t b o : Nat} {x y : Operand} {l vs : List Value} {T : TypeId} {f : Obj → Hp} (hx : ev ρ x = .pointer (some ⟨b, o, none⟩)) (hy : ev ρ y = .agg vs.toArray)
    (hs : sz C.P t = some vs.length) (ho : ones vs = true) (hz : Zip H b (cellsO l T) f) (hlen : Nat.ble (o + vs.length) l.length = true) {l' : List Value} (hl' : putL l o vs = l') (h : K undef (f (cellsO l' T))) :
    Ex C ⟨d, .store t x y, ty, pos, af, g⟩ K ρ H := by subst hl'; exact ex_store hx hy rfl hs rfl ho hz hlen h
theorem ex_store1 {t b o : Nat} {x y : Operand} {v : Value} {l : List Value} {T : TypeId} {f : Obj → Hp} (hx : ev ρ x = .pointer (some ⟨b, o, none⟩)) (hy : ev ρ y = v)
    (hs : sz C.P t = some 1) (ho : v.oneCell' = true) (hz : Zip H b (cellsO l T) f) (hlen : Nat.ble (o + 1) l.length = true) {l' : List Value} (hl' : l.set o v = l') (h : K undef (f (cellsO l' T))) :
    Ex C ⟨d, .store t x y, ty, pos, af, g⟩ K ρ H := by subst hl'; exact ex_store (vs := [v]) hx hy (by rw [cells_one ho]) hs rfl (by simp [ones, ho]) hz hlen h

/-- operands, reckoned one by one -/
inductive EvL (ρ : Fr) : List Operand → List Value → Prop
  | nil : EvL ρ [] []
  | cons {x : Operand} {v : Value} {xs : List Operand} {vs : List Value} (h : ev ρ x = v) (t : EvL ρ xs vs) : EvL ρ (x :: xs) (v :: vs)
theorem EvL.map {ρ : Fr} {xs : List Operand} {vs : List Value} (h : EvL ρ xs vs) : xs.map (ev ρ) = vs := by
  induction h with
  | nil => rfl
  | cons h _ ih => rw [List.map_cons, h, ih]
inductive EvP (ρ : Fr) : List (Nat × Operand) → List (Nat × Value) → Prop
  | nil : EvP ρ [] []
  | cons {i : Nat} {x : Operand} {v : Value} {xs : List (Nat × Operand)} {vs : List (Nat × Value)} (h : ev ρ x = v) (t : EvP ρ xs vs) : EvP ρ ((i, x) :: xs) ((i, v) :: vs)
theorem EvP.map {ρ : Fr} {xs : List (Nat × Operand)} {vs : List (Nat × Value)} (h : EvP ρ xs vs) : xs.map (fun x => (x.1, ev ρ x.2)) = vs := by
  induction h with
  | nil => rfl
  | cons h _ ih => rw [List.map_cons, h, ih]

/-! calls -/
theorem via_picks {P : Program} {e : World} {f : FuncId} {args : Array Value} {H xs R : Hp} {K : Value → Hp → Prop} (hp : Picks H xs R) (h : callsK P e f args (xs ++ R) K) : callsK P e f args H K := callsK_perm hp.perm h
theorem ex_call {f : FuncId} {args : Array Operand} {ats : Array TypeId} {vs : List Value} {fn : Func} (hf : C.P.funcs[f]? = some fn) (hb : fn.body.isNone = false) (hn : (fn.name == "runtime.NumGoroutine") = false)
    (ha : args.toList.map (ev ρ) = vs) (h : callsK C.P C.e f vs.toArray H K) : Ex C ⟨d, .call ⟨.value (.func f), args, ats⟩, ty, pos, af, g⟩ K ρ H := fun w hw => by
  have hargs : args.map (ev ρ) = vs.toArray := by rw [← ha]; cases args; simp
  have h1 : (execOp (ev ρ) ⟨d, .call ⟨.value (.func f), args, ats⟩, ty, pos, af, g⟩).run C.P w = .ok (.enter f vs.toArray) w := by
    have hn' : ¬ fn.name = "runtime.NumGoroutine" := by simpa using hn
    have hb' : ¬ fn.body = none := by intro h; rw [h] at hb; cases hb
    simp [execOp, resolve, hargs, ev, Deferred.ofValue, invoke, callFunc, hf, hn', hb']
  rw [h1]
  exact h w hw
end

section rets
variable {P : Program} {e : World} {K : Value → Hp → Prop} {ρ : Fr} {H : Hp} {x : Exit}
theorem ret0 (hx : x = .normal ∨ x = .ret) (h : Drop K (.tuple #[]) H) : RetP P e [] K x ρ [] H := ⟨hx, H, [], .refl _, .nil, h⟩
theorem ret1 {t : Nat} {v : Value} (hx : x = .normal ∨ x = .ret) (hv : ρ t = v) (h : Drop K v H) : RetP P e [.tmp t] K x ρ [] H := ⟨hx, H, [v], .refl _, .tmp hv .nil, h⟩
theorem ret2 {t s : Nat} {v u : Value} (hx : x = .normal ∨ x = .ret) (hv : ρ t = v) (hu : ρ s = u) (h : Drop K (.tuple #[v, u]) H) : RetP P e [.tmp t, .tmp s] K x ρ [] H := ⟨hx, H, [v, u], .refl _, .tmp hv (.tmp hu .nil), h⟩
theorem ret3 {t s r : Nat} {v u y : Value} (hx : x = .normal ∨ x = .ret) (hv : ρ t = v) (hu : ρ s = u) (hy : ρ r = y) (h : Drop K (.tuple #[v, u, y]) H) : RetP P e [.tmp t, .tmp s, .tmp r] K x ρ [] H :=
  ⟨hx, H, [v, u, y], .refl _, .tmp hv (.tmp hu (.tmp hy .nil)), h⟩
theorem retC1 {t n b o s : Nat} {ty : TypeId} {l r : List Value} {T : TypeId} {fz : Nat × Nat} {u : Value} (hx : x = .normal ∨ x = .ret) (hv : ρ t = .pointer (some ⟨b, o, none⟩)) (hl : aggB P ty = true) (hs : sz P ty = some n)
    (hm : (b, Obj.cells l.toArray T fz) ∈ H) (hc : TakeR l o n r) (hu : ρ s = u) (h : Drop K (.tuple #[.agg r.toArray, u]) H) : RetP P e [.cell t ty, .tmp s] K x ρ [] H :=
  ⟨hx, H, [.agg r.toArray, u], .refl _, .cell hv (fun _ hw => loadVar_agg hw hl hs hm hc) (.tmp hu .nil), h⟩
theorem retDn {ds : List Nat} {R : Hp} {res : List ResultVar} {vs : List Value} (hx : x = .normal ∨ x = .ret) (hp : H.Perm (dfs ds ++ R)) (hr : ResL P e ρ R res vs) (h : Drop K (packV vs) R) : RetP P e res K x ρ ds H := ⟨hx, R, vs, hp, hr, h⟩
theorem resC {R : Hp} {t b o : Nat} {ty : TypeId} {cs : Array Value} {T : TypeId} {fz : Nat × Nat} {v : Value} {l : List ResultVar} {vs : List Value} (hv : ρ t = .pointer (some ⟨b, o, none⟩)) (hl : leaf P ty = true) (hm : (b, Obj.cells cs T fz) ∈ R) (hc : cs[o]? = some v) (h : ResL P e ρ R l vs) :
    ResL P e ρ R (.cell t ty :: l) (v :: vs) := .cell hv (fun _ hw => loadVar_leaf hl ((cell_kn hw hm).trans hc)) h
end rets

end Go.Vl
