/-
  THE SMALL LOGIC's RULES, CONTINUED: operations that make or turn blocks; maps keyed by integers; calls. Nothing of the seat's program is named here.
-/
import Derived.Test.YtbbobncokpfkmaaVo
import Derived.Maps.Keyed
namespace Go.Vl
open Go.RowKit

section
variable {C : Cx} {ρ : Fr} {H : Hp} {d : Option Nat} {ty : TypeId} {pos : String} {af : Array Edge} {g : Option (Nat × Bool)} {K : Value → Hp → Prop}

theorem ex_new {o : Oper} {obj : Obj} {v : Nat → Value} (hrun : ∀ w : World, (execOp (ev ρ) o).run C.P w = .ok (.value (v w.heap.size)) { w with heap := w.heap.push obj })
    (h : ∀ b, K (v b) ((b, obj) :: H)) : Ex C o K ρ H := fun w hw => by
  rw [hrun w]
  exact ⟨_, hw.alloc obj, h _⟩

theorem ex_allocA {t : TypeId} {l : List Value} (hz : zval C.P t = some (.agg l.toArray)) (h : ∀ b, K (.pointer (some ⟨b, 0, none⟩)) ((b, cellsO l t) :: H)) :
    Ex C ⟨d, .alloc t, ty, pos, af, g⟩ K ρ H :=
  ex_new (obj := cellsO l t) (v := fun b => .pointer (some ⟨b, 0, none⟩)) (fun w => by simp [execOp, Instr.alloc, zero_run hz, newVar, newRow, Value.cells]) h
theorem cells_one {v : Value} (h : v.oneCell' = true) : v.cells = #[v] := by cases v <;> first | rfl | cases h
theorem ex_alloc1 {t : TypeId} {v : Value} (hz : zval C.P t = some v) (ho : v.oneCell' = true) (h : ∀ b, K (.pointer (some ⟨b, 0, none⟩)) ((b, cellsO [v] t) :: H)) :
    Ex C ⟨d, .alloc t, ty, pos, af, g⟩ K ρ H :=
  ex_new (obj := cellsO [v] t) (v := fun b => .pointer (some ⟨b, 0, none⟩)) (fun w => by simp [execOp, Instr.alloc, zero_run hz, newVar, newRow, cells_one ho]) h
theorem ex_boxA {t : TypeId} {x : Operand} {l : List Value} (hx : ev ρ x = .agg l.toArray) (h : ∀ b, K (.pointer (some ⟨b, 0, none⟩)) ((b, cellsO l t) :: H)) :
    Ex C ⟨d, .box t x, ty, pos, af, g⟩ K ρ H :=
  ex_new (obj := cellsO l t) (v := fun b => .pointer (some ⟨b, 0, none⟩)) (fun w => by simp [execOp, Instr.box, hx, newVar, newRow, Value.cells]) h
theorem ex_box1 {t : TypeId} {x : Operand} {v : Value} (hx : ev ρ x = v) (ho : v.oneCell' = true) (h : ∀ b, K (.pointer (some ⟨b, 0, none⟩)) ((b, cellsO [v] t) :: H)) :
    Ex C ⟨d, .box t x, ty, pos, af, g⟩ K ρ H :=
  ex_new (obj := cellsO [v] t) (v := fun b => .pointer (some ⟨b, 0, none⟩)) (fun w => by simp [execOp, Instr.box, hx, newVar, newRow, cells_one ho]) h
theorem ex_makeMap {t : TypeId} (h : ∀ b, K (.map (some b)) ((b, .map #[] 0) :: H)) : Ex C ⟨d, .makeMap t none, ty, pos, af, g⟩ K ρ H :=
  ex_new (obj := .map #[] 0) (v := fun b => .map (some b)) (fun w => by simp [execOp, Instr.makeMap]) h

/-! storing -/
def putL : List Value → Nat → List Value → List Value
  | l, _, [] => l
  | l, o, v :: vs => putL (l.set o v) (o + 1) vs

theorem putL_length : ∀ (vs : List Value) (l : List Value) (o : Nat), (putL l o vs).length = l.length
  | [], _, _ => rfl
  | v :: vs, l, o => by simp [putL, putL_length vs]

theorem store_run {P : Program} {w : World} {b o : Nat} {l : List Value} {T : TypeId} {v : Value} (hb : w.heap[b]? = some (cellsO l T)) (ho : o < l.length) (hv : v.oneCell' = true) :
    (store ⟨b, o, none⟩ v).run P w = .ok () (w.setCell ⟨b, o, none⟩ v) := by
  have hc : w.cell? ⟨b, o, none⟩ = some l[o] := by simp [World.cell?, hb, ho]
  have hf : w.frozen? ⟨b, o, none⟩ = false := by simp [World.frozen?, hb]
  unfold store
  cases v <;> simp [Value.oneCell'] at hv <;> simp [Sem.run, hc, hf]

theorem setCell_heap {w : World} {b o : Nat} {l : List Value} {T : TypeId} {v : Value} (hb : w.heap[b]? = some (cellsO l T)) :
    (w.setCell ⟨b, o, none⟩ v).heap[b]? = some (cellsO (l.set o v) T) ∧ ∀ k, k ≠ b → (w.setCell ⟨b, o, none⟩ v).heap[k]? = w.heap[k]? := by
  obtain ⟨hlt, hk⟩ := Array.getElem?_eq_some_iff.1 hb
  constructor
  · show (w.heap.modify b _)[b]? = _
    rw [Array.getElem?_eq_getElem (by rw [Array.size_modify]; exact hlt), Array.getElem_modify_self, hk]
    simp
  · exact fun k hk => Below.heap_setCell w ⟨b, o, none⟩ v k hk

theorem storeCells_run {P : Program} {b : Nat} {T : TypeId} {a0 : Nat} : ∀ (vs : List Value) (w : World) (l : List Value) (i : Nat), w.heap[b]? = some (cellsO l T) → a0 + i + vs.length ≤ l.length → (∀ v ∈ vs, v.oneCell' = true) →
    ∃ w', (storeCells ⟨b, a0, none⟩ vs i).run P w = .ok () w' ∧ w'.heap[b]? = some (cellsO (putL l (a0 + i) vs) T) ∧ (∀ k, k ≠ b → w'.heap[k]? = w.heap[k]?) ∧ w'.os = w.os ∧ w'.tape = w.tape ∧ w'.output = w.output := by
  intro vs
  induction vs with
  | nil => intro w l i hb _ _; exact ⟨w, rfl, hb, fun _ _ => rfl, rfl, rfl, rfl⟩
  | cons v vs ih =>
    intro w l i hb hlen hone
    simp only [List.length_cons] at hlen
    have h1 := store_run (P := P) (o := a0 + i) hb (by omega) (hone v (by simp))
    obtain ⟨h2, h3⟩ := setCell_heap (o := a0 + i) (v := v) hb
    obtain ⟨w', r1, r2, r3, r4, r5, r6⟩ := ih _ (l.set (a0 + i) v) (i + 1) h2 (by simp; omega) (fun u hu => hone u (by simp [hu]))
    refine ⟨w', ?_, r2, fun k hk => (r3 k hk).trans (h3 k hk), r4, r5, r6⟩
    simp only [storeCells, addr_add, Sem.run_bind, h1, Result.andThen_ok]
    exact r1

def ones : List Value → Bool
  | [] => true
  | v :: l => v.oneCell' && ones l
theorem ones_all : ∀ {l : List Value}, ones l = true → ∀ v ∈ l, v.oneCell' = true
  | [], _, _, h => by cases h
  | _ :: l, h, v, hv => by
    simp only [ones, Bool.and_eq_true] at h
    rcases List.mem_cons.1 hv with rfl | hv
    · exact h.1
    · exact ones_all h.2 v hv

theorem ex_store {t n b o : Nat} {x y : Operand} {v : Value} {l vs : List Value} {T : TypeId} {f : Obj → Hp} (hx : ev ρ x = .pointer (some ⟨b, o, none⟩)) (hy : ev ρ y = v) (hv : v.cells.toList = vs)
    (hs : sz C.P t = some n) (hn : vs.length = n) (ho : ones vs = true) (hz : Zip H b (cellsO l T) f) (hlen : Nat.ble (o + n) l.length = true) (h : K undef (f (cellsO (putL l o vs) T))) :
    Ex C ⟨d, .store t x y, ty, pos, af, g⟩ K ρ H := fun w hw => by
  have hb := hw.has _ hz.mem
  obtain ⟨w', r1, r2, r3, r4, r5, r6⟩ := storeCells_run (P := C.P) (T := T) (a0 := o) vs w l 0 hb (by have := Nat.le_of_ble_eq_true hlen; omega) (ones_all ho)
  have h0 : (Instr.storeAt t (ev ρ x) (ev ρ y)).run C.P w = .ok () w' := by
    rw [hx, hy]
    show Sem.run C.P (storeVar t ⟨b, o, none⟩ v) w = _
    have hsz : v.cells.size = n := by rw [← hn, ← hv]; simp
    unfold storeVar
    simp only [Sem.run_bind, sizeOf_run hs, Result.andThen_ok, hsz, ne_eq, not_true_eq_false, if_false, hv]
    exact r1
  have h1 : (execOp (ev ρ) ⟨d, .store t x y, ty, pos, af, g⟩).run C.P w = .ok .skip w' := by simp [execOp, h0]
  rw [h1]
  exact ⟨_, hw.set hz r4 r5 r6 (by simpa using r2) r3, h⟩

theorem ex_storeA {t b o : Nat} {x y : Operand} {l vs : List Value} {T : TypeId} {f : Obj → Hp} (hx : ev ρ x = .pointer (some ⟨b, o, none⟩)) (hy : ev ρ y = .agg vs.toArray)
    (hs : sz C.P t = some vs.length) (ho : ones vs = true) (hz : Zip H b (cellsO l T) f) (hlen : Nat.ble (o + vs.length) l.length = true) {l' : List Value} (hl' : putL l o vs = l') (h : K undef (f (cellsO l' T))) :
    Ex C ⟨d, .store t x y, ty, pos, af, g⟩ K ρ H := by subst hl'; exact ex_store hx hy rfl hs rfl ho hz hlen h
theorem ex_store1 {t b o : Nat} {x y : Operand} {v : Value} {l : List Value} {T : TypeId} {f : Obj → Hp} (hx : ev ρ x = .pointer (some ⟨b, o, none⟩)) (hy : ev ρ y = v)
    (hs : sz C.P t = some 1) (ho : v.oneCell' = true) (hz : Zip H b (cellsO l T) f) (hlen : Nat.ble (o + 1) l.length = true) {l' : List Value} (hl' : l.set o v = l') (h : K undef (f (cellsO l' T))) :
    Ex C ⟨d, .store t x y, ty, pos, af, g⟩ K ρ H := by subst hl'; exact ex_store (vs := [v]) hx hy (by rw [cells_one ho]) hs rfl (by simp [ones, ho]) hz hlen h

/-- operands, reckoned one by one -/
inductive EvL (ρ : Fr) : List Operand → List Value → Prop
  | nil : EvL ρ [] []
  | cons {x : Operand} {v : Value} {xs : List Operand} {vs : List Value} (h : ev ρ x = v) (t : EvL ρ xs vs) : EvL ρ (x :: xs) (v :: vs)
theorem EvL.map {ρ : Fr} {xs : List Operand} {vs : List Value} (h : EvL ρ xs vs) : xs.map (ev ρ) = vs := by
  induction h with
  | nil => rfl
  | cons h _ ih => rw [List.map_cons, h, ih]
inductive EvP (ρ : Fr) : List (Nat × Operand) → List (Nat × Value) → Prop
  | nil : EvP ρ [] []
  | cons {i : Nat} {x : Operand} {v : Value} {xs : List (Nat × Operand)} {vs : List (Nat × Value)} (h : ev ρ x = v) (t : EvP ρ xs vs) : EvP ρ ((i, x) :: xs) ((i, v) :: vs)
theorem EvP.map {ρ : Fr} {xs : List (Nat × Operand)} {vs : List (Nat × Value)} (h : EvP ρ xs vs) : xs.map (fun x => (x.1, ev ρ x.2)) = vs := by
  induction h with
  | nil => rfl
  | cons h _ ih => rw [List.map_cons, h, ih]

/-! calls -/
theorem via_picks {P : Program} {e : World} {f : FuncId} {args : Array Value} {H xs R : Hp} {K : Value → Hp → Prop} (hp : Picks H xs R) (h : callsK P e f args (xs ++ R) K) : callsK P e f args H K := callsK_perm hp.perm h
theorem ex_call {f : FuncId} {args : Array Operand} {ats : Array TypeId} {vs : List Value} {fn : Func} (hf : C.P.funcs[f]? = some fn) (hb : fn.body.isNone = false) (hn : (fn.name == "runtime.NumGoroutine") = false)
    (ha : args.toList.map (ev ρ) = vs) (h : callsK C.P C.e f vs.toArray H K) : Ex C ⟨d, .call ⟨.value (.func f), args, ats⟩, ty, pos, af, g⟩ K ρ H := fun w hw => by
  have hargs : args.map (ev ρ) = vs.toArray := by rw [← ha]; cases args; simp
  have h1 : (execOp (ev ρ) ⟨d, .call ⟨.value (.func f), args, ats⟩, ty, pos, af, g⟩).run C.P w = .ok (.enter f vs.toArray) w := by
    have hn' : ¬ fn.name = "runtime.NumGoroutine" := by simpa using hn
    have hb' : ¬ fn.body = none := by intro h; rw [h] at hb; cases hb
    simp [execOp, resolve, hargs, ev, Deferred.ofValue, invoke, callFunc, hf, hn', hb']
  rw [h1]
  exact h w hw
end

section rets
variable {P : Program} {e : World} {K : Value → Hp → Prop} {ρ : Fr} {H : Hp} {x : Exit}
theorem ret0 (hx : x = .normal ∨ x = .ret) (h : Drop K (.tuple #[]) H) : RetP P e [] K x ρ [] H := ⟨hx, H, [], .nil, .nil, h⟩
theorem ret1 {t : Nat} {v : Value} (hx : x = .normal ∨ x = .ret) (hv : ρ t = v) (h : Drop K v H) : RetP P e [.tmp t] K x ρ [] H := ⟨hx, H, [v], .nil, .tmp hv .nil, h⟩
theorem ret2 {t s : Nat} {v u : Value} (hx : x = .normal ∨ x = .ret) (hv : ρ t = v) (hu : ρ s = u) (h : Drop K (.tuple #[v, u]) H) : RetP P e [.tmp t, .tmp s] K x ρ [] H := ⟨hx, H, [v, u], .nil, .tmp hv (.tmp hu .nil), h⟩
theorem ret3 {t s r : Nat} {v u y : Value} (hx : x = .normal ∨ x = .ret) (hv : ρ t = v) (hu : ρ s = u) (hy : ρ r = y) (h : Drop K (.tuple #[v, u, y]) H) : RetP P e [.tmp t, .tmp s, .tmp r] K x ρ [] H :=
  ⟨hx, H, [v, u, y], .nil, .tmp hv (.tmp hu (.tmp hy .nil)), h⟩
theorem retC1 {t n b o s : Nat} {ty : TypeId} {l r : List Value} {T : TypeId} {fz : Nat × Nat} {u : Value} (hx : x = .normal ∨ x = .ret) (hv : ρ t = .pointer (some ⟨b, o, none⟩)) (hl : aggB P ty = true) (hs : sz P ty = some n)
    (hm : (b, Obj.cells l.toArray T fz) ∈ H) (hc : TakeR l o n r) (hu : ρ s = u) (h : Drop K (.tuple #[.agg r.toArray, u]) H) : RetP P e [.cell t ty, .tmp s] K x ρ [] H :=
  ⟨hx, H, [.agg r.toArray, u], .nil, .cell hv (fun _ hw => loadVar_agg hw hl hs hm hc) (.tmp hu .nil), h⟩
end rets

/-! ### Maps keyed by integers -/

/-- the entries, as pairs -/
structure MapI (q : IntKind) (es : Array MapEntry) (clk : Nat) (l : List (Int × Value)) : Prop where
  ent : es.toList.map (fun x => (x.key, x.val)) = l.map (fun p => (.int q p.1, p.2))
  keys : (l.map Prod.fst).Nodup
  born : (es.toList.map (·.born)).Nodup
  clock : ∀ x ∈ es.toList, x.born < clk

theorem MapI.nil (q : IntKind) : MapI q #[] 0 [] := ⟨rfl, by simp, by simp, by simp⟩
theorem MapI.size {q : IntKind} {es : Array MapEntry} {clk : Nat} {l : List (Int × Value)} (h : MapI q es clk l) : es.size = l.length := by
  have := congrArg List.length h.ent
  simpa using this

def mget (l : List (Int × Value)) (n : Int) : Option Value := (l.find? (fun p => p.1 == n)).map (·.2)
def mput : List (Int × Value) → Int → Value → List (Int × Value)
  | [], n, v => [(n, v)]
  | p :: l, n, v => if p.1 = n then (n, v) :: l else p :: mput l n v

theorem findNow_map {q : IntKind} {n : Int} : ∀ (es : List MapEntry) (l : List (Int × Value)) (i : Nat), es.map (fun x => (x.key, x.val)) = l.map (fun p => (Value.int q p.1, p.2)) →
    (Instr.findNow (.int q) (.int q n) es i = some none ∧ mget l n = none ∧ ∀ p ∈ l, p.1 ≠ n) ∨
    ∃ j v, Instr.findNow (.int q) (.int q n) es i = some (some (i + j, v)) ∧ mget l n = some v ∧ l[j]? = some (n, v) := by
  intro es
  induction es with
  | nil =>
    intro l i h
    cases l with
    | nil => exact .inl ⟨rfl, rfl, by simp⟩
    | cons p l => cases h
  | cons x es ih =>
    intro l i h
    cases l with
    | nil => cases h
    | cons p l =>
      simp only [List.map_cons, List.cons.injEq, Prod.mk.injEq] at h
      obtain ⟨⟨hk, hv⟩, ht⟩ := h
      by_cases hp : p.1 = n
      · refine .inr ⟨0, p.2, ?_, by simp [mget, hp], by obtain ⟨a, b⟩ := p; simp_all⟩
        have e1 : Instr.sameNow (.int q) (.int q n) x.key = some true := by rw [hk, hp]; simp [Instr.sameNow]
        simp only [Instr.findNow, e1, hv]
        rfl
      · have hne : (n == p.1) = false := by simp; exact fun e => hp e.symm
        have e1 : Instr.sameNow (.int q) (.int q n) x.key = some false := by rw [hk]; simp [Instr.sameNow, hne]
        have hg : mget (p :: l) n = mget l n := by simp [mget, hp]
        rcases ih l (i + 1) ht with ⟨h1, h2, h3⟩ | ⟨j, v, h1, h2, h3⟩
        · refine .inl ⟨by simp only [Instr.findNow, e1]; exact h1, by rw [hg]; exact h2, fun y hy => ?_⟩
          rcases List.mem_cons.1 hy with rfl | hy
          · exact hp
          · exact h3 y hy
        · refine .inr ⟨j + 1, v, ?_, by rw [hg]; exact h2, by simpa using h3⟩
          simp only [Instr.findNow, e1]
          rw [h1, show i + 1 + j = i + (j + 1) from by omega]

theorem findKey_run {P : Program} {kt : TypeId} {q : IntKind} (hu : P.underlying kt = some (.int q)) {n : Int} {es : List MapEntry} {r : Option (Nat × Value)} (h : Instr.findNow (.int q) (.int q n) es 0 = some r) (w : World) :
    (Instr.findKey kt (.int q n) es).run P w = .ok r w := by
  unfold Instr.findKey
  simp only [Sem.run_bind, underlying_run hu, Result.andThen_ok, h]
  rfl
theorem checkKey_run {P : Program} {kt : TypeId} {q : IntKind} (hu : P.underlying kt = some (.int q)) (em : Bool) (n : Int) (w : World) : (Instr.checkKey em 10000 kt (.int q n)).run P w = .ok () w := by
  show (Instr.checkKey em (9999 + 1) kt (.int q n)).run P w = .ok () w
  unfold Instr.checkKey
  simp only [Sem.run_bind, underlying_run hu, Result.andThen_ok]
  rfl
theorem getObj_map {P : Program} {w : World} {b : Nat} {es : Array MapEntry} {clk : Nat} (h : w.heap[b]? = some (.map es clk)) : (getObj b).run P w = .ok (.map es clk) w := by
  simp [getObj, Sem.run, h]

def lookV (ok : Bool) (v : Value) (b : Bool) : Value := match ok with
  | true => .tuple #[v, .bool b]
  | false => v

section
variable {P : Program} {e : World} {ρ : Fr} {H : Hp} {d : Option Nat} {ty : TypeId} {pos : String} {af : Array Edge} {g : Option (Nat × Bool)}
variable {t kt et : TypeId} {q : IntKind} {b clk : Nat} {es : Array MapEntry} {l : List (Int × Value)} {x y : Operand} {n : Int}

theorem lookup_run (ht : P.underlying t = some (.map kt et)) (hk : P.underlying kt = some (.int q)) (hM : MapI q es clk l) {w : World} (hb : w.heap[b]? = some (.map es clk)) {z : Value} (hz : zval P et = some z) (ok : Bool) :
    (Instr.lookup t (.map (some b)) (.int q n) ok).run P w = .ok (lookV ok ((mget l n).getD z) (mget l n).isSome) w := by
  unfold Instr.lookup
  simp only [Sem.run_bind, underlying_run ht, Result.andThen_ok, getObj_map hb, Sem.run_pure, checkKey_run hk]
  rcases findNow_map (n := n) es.toList l 0 hM.ent with ⟨h1, h2, _⟩ | ⟨j, v, h1, h2, _⟩
  · simp only [findKey_run hk h1, Result.andThen_ok, Sem.run_bind, zero_run hz, Sem.run_pure, h2, Option.getD_none, Option.isSome_none]
    cases ok <;> rfl
  · simp only [findKey_run hk h1, Result.andThen_ok, h2, Option.getD_some, Option.isSome_some]
    cases ok <;> rfl

theorem rd_lookup {ok : Bool} {z : Value} (hx : ev ρ x = .map (some b)) (hy : ev ρ y = .int q n) (ht : P.underlying t = some (.map kt et)) (hk : P.underlying kt = some (.int q)) (hz : zval P et = some z)
    (hm : (b, Obj.map es clk) ∈ H) (hM : MapI q es clk l) : Rd P e ρ H ⟨d, .lookup t x y ok, ty, pos, af, g⟩ (lookV ok ((mget l n).getD z) (mget l n).isSome) := fun w hw => by
  have h0 := lookup_run (n := n) ht hk hM (hw.has _ hm) hz ok
  rw [← hx, ← hy] at h0
  simp [execOp, h0]
theorem rd_lookup_some {ok : Bool} {z v : Value} (hx : ev ρ x = .map (some b)) (hy : ev ρ y = .int q n) (ht : P.underlying t = some (.map kt et)) (hk : P.underlying kt = some (.int q)) (hz : zval P et = some z)
    (hm : (b, Obj.map es clk) ∈ H) (hM : MapI q es clk l) (hg : mget l n = some v) : Rd P e ρ H ⟨d, .lookup t x y ok, ty, pos, af, g⟩ (lookV ok v true) := by
  have := rd_lookup (d := d) (ty := ty) (pos := pos) (af := af) (g := g) (ok := ok) (e := e) hx hy ht hk hz hm hM
  rwa [hg] at this
theorem rd_lookup_none {ok : Bool} {z : Value} (hx : ev ρ x = .map (some b)) (hy : ev ρ y = .int q n) (ht : P.underlying t = some (.map kt et)) (hk : P.underlying kt = some (.int q)) (hz : zval P et = some z)
    (hm : (b, Obj.map es clk) ∈ H) (hM : MapI q es clk l) (hg : mget l n = none) : Rd P e ρ H ⟨d, .lookup t x y ok, ty, pos, af, g⟩ (lookV ok z false) := by
  have := rd_lookup (d := d) (ty := ty) (pos := pos) (af := af) (g := g) (ok := ok) (e := e) hx hy ht hk hz hm hM
  rwa [hg] at this

theorem rd_len_map {ats : Array TypeId} {m : Nat} (hx : ev ρ x = .map (some b)) (ha : ats[0]? = some t) (ht : P.underlying t = some (.map kt et)) (hm : (b, Obj.map es clk) ∈ H) (hs : es.size = m) :
    Rd P e ρ H ⟨d, .call ⟨.builtin .len, #[x], ats⟩, ty, pos, af, g⟩ (.int .i64 m) := fun w hw => by
  have hb := hw.has _ hm
  subst hs
  simp [execOp, resolve, invoke, Go.builtin, Builtin.len_, ha, underlying_run ht, hx, getObj_map hb, goInt]
end

theorem mput_mem {n : Int} {v : Value} : ∀ {l : List (Int × Value)} {p : Int × Value}, p ∈ mput l n v → p = (n, v) ∨ p ∈ l
  | [], p, h => by simp [mput] at h; exact .inl h
  | x :: l, p, h => by
    unfold mput at h
    split at h
    · rcases List.mem_cons.1 h with rfl | h
      · exact .inl rfl
      · exact .inr (by simp [h])
    · rcases List.mem_cons.1 h with rfl | h
      · exact .inr (by simp)
      · rcases mput_mem h with h | h
        · exact .inl h
        · exact .inr (by simp [h])
theorem mput_keys {n : Int} {v : Value} : ∀ {l : List (Int × Value)} (k : Int), k ∈ (mput l n v).map Prod.fst ↔ k = n ∨ k ∈ l.map Prod.fst
  | [], k => by simp [mput]
  | x :: l, k => by
    unfold mput
    split
    · rename_i h; simp [h]
    · simp only [List.map_cons, List.mem_cons, mput_keys k]
      constructor
      · rintro (h | h | h) <;> simp [h]
      · rintro (h | h | h) <;> simp [h]
theorem mput_nodup {n : Int} {v : Value} : ∀ {l : List (Int × Value)}, (l.map Prod.fst).Nodup → ((mput l n v).map Prod.fst).Nodup
  | [], _ => by simp [mput]
  | x :: l, h => by
    rw [List.map_cons, List.nodup_cons] at h
    unfold mput
    split
    · rename_i hx; rw [List.map_cons, List.nodup_cons]; exact ⟨by rw [← hx]; exact h.1, h.2⟩
    · rename_i hx
      rw [List.map_cons, List.nodup_cons]
      refine ⟨fun hm => ?_, mput_nodup h.2⟩
      rcases (mput_keys x.1).1 hm with h1 | h1
      · exact hx h1
      · exact h.1 h1
theorem mget_put_same {n : Int} {v : Value} : ∀ {l : List (Int × Value)}, mget (mput l n v) n = some v
  | [] => by simp [mput, mget]
  | x :: l => by
    unfold mput
    split
    · simp [mget]
    · rename_i h
      have := mget_put_same (n := n) (v := v) (l := l)
      simpa [mget, h] using this
theorem mget_put_other {n k : Int} {v : Value} (hk : k ≠ n) : ∀ {l : List (Int × Value)}, mget (mput l n v) k = mget l k
  | [] => by simp [mput, mget, Ne.symm hk]
  | x :: l => by
    unfold mput
    split
    · rename_i h
      simp [mget, h, Ne.symm hk]
    · have := mget_put_other (n := n) (k := k) (v := v) hk (l := l)
      by_cases hx : x.1 = k
      · simp [mget, hx]
      · simpa [mget, hx] using this
theorem mput_length_new {n : Int} {v : Value} : ∀ {l : List (Int × Value)}, (∀ p ∈ l, p.1 ≠ n) → mput l n v = l ++ [(n, v)]
  | [], _ => rfl
  | x :: l, h => by
    unfold mput
    rw [if_neg (h x (by simp)), mput_length_new (fun p hp => h p (by simp [hp]))]
    rfl
theorem mput_set {n : Int} {v u : Value} : ∀ {l : List (Int × Value)} {j : Nat}, (l.map Prod.fst).Nodup → l[j]? = some (n, u) → mput l n v = l.set j (n, v)
  | [], _, _, h => by simp at h
  | x :: l, 0, _, h => by
    simp at h
    subst h
    simp [mput]
  | x :: l, j + 1, hn, h => by
    rw [List.map_cons, List.nodup_cons] at hn
    simp only [List.getElem?_cons_succ] at h
    have hx : x.1 ≠ n := fun e => hn.1 (by rw [e]; exact List.mem_map.2 ⟨_, List.mem_of_getElem? h, rfl⟩)
    unfold mput
    rw [if_neg hx, mput_set hn.2 h]
    rfl

theorem keyStays_run {P : Program} {q : IntKind} {n : Int} (w : World) : (Instr.keyThatStays (.int q n) (.int q n)).run P w = .ok (.int q n) w := by
  unfold Instr.keyThatStays
  have : Instr.sameBits 10000 (.int q n) (.int q n) = true := by
    show Instr.sameBits (9999 + 1) _ _ = true
    simp [Instr.sameBits]
  rw [if_pos this]
  rfl

theorem setObj_run {P : Program} {w : World} {b : Nat} {es : Array MapEntry} {clk : Nat} (h : w.heap[b]? = some (.map es clk)) (o : Obj) : (setObj b o).run P w = .ok () { w with heap := w.heap.setIfInBounds b o } := by
  simp [setObj, Sem.run, h]

theorem kn_setMap {e w : World} {H : Hp} {b : Nat} {es : Array MapEntry} {clk : Nat} {f : Obj → Hp} (hw : Kn e w H) (hz : Zip H b (.map es clk) f) (o : Obj) : Kn e { w with heap := w.heap.setIfInBounds b o } (f o) := by
  have hlt := hw.lt hz.mem
  refine hw.set hz rfl rfl rfl ?_ fun k hk => ?_
  · simp at hlt; simp [hlt]
  · simp [Array.getElem?_setIfInBounds_ne (Ne.symm hk)]

theorem ex_mapUpdate {C : Cx} {ρ : Fr} {H : Hp} {d : Option Nat} {ty : TypeId} {pos : String} {af : Array Edge} {g : Option (Nat × Bool)} {K : Value → Hp → Prop}
    {t kt et : TypeId} {q : IntKind} {b clk : Nat} {es : Array MapEntry} {l : List (Int × Value)} {x y z : Operand} {n : Int} {v : Value} {f : Obj → Hp}
    (hx : ev ρ x = .map (some b)) (hy : ev ρ y = .int q n) (hv : ev ρ z = v) (ht : C.P.underlying t = some (.map kt et)) (hk : C.P.underlying kt = some (.int q)) (hz : Zip H b (.map es clk) f) (hM : MapI q es clk l)
    (h : ∀ es' clk', MapI q es' clk' (mput l n v) → K undef (f (.map es' clk'))) : Ex C ⟨d, .mapUpdate t x y z, ty, pos, af, g⟩ K ρ H := fun w hw => by
  have hb := hw.has _ hz.mem
  simp only at hb
  rcases findNow_map (n := n) es.toList l 0 hM.ent with ⟨h1, h2, h3⟩ | ⟨j, u, h1, h2, h3⟩
  · have h0 : (Instr.mapUpdate t (ev ρ x) (ev ρ y) (ev ρ z)).run C.P w = .ok () { w with heap := w.heap.setIfInBounds b (.map (es.push { key := .int q n, val := v, born := clk }) (clk + 1)) } := by
      rw [hx, hy, hv]
      unfold Instr.mapUpdate
      simp only [Sem.run_bind, underlying_run ht, Result.andThen_ok, getObj_map hb, checkKey_run hk, findKey_run hk h1, setObj_run hb]
    have h4 : (execOp (ev ρ) ⟨d, .mapUpdate t x y z, ty, pos, af, g⟩).run C.P w = .ok .skip { w with heap := w.heap.setIfInBounds b (.map (es.push { key := .int q n, val := v, born := clk }) (clk + 1)) } := by simp [execOp, h0]
    rw [h4]
    refine ⟨_, kn_setMap hw hz _, h _ _ ⟨?_, mput_nodup hM.keys, ?_, ?_⟩⟩
    · rw [mput_length_new h3]
      simp [hM.ent]
    · simp only [Array.toList_push, List.map_append, List.map_cons, List.map_nil]
      refine List.nodup_append.2 ⟨hM.born, by simp, fun a ha c hc => ?_⟩
      obtain ⟨x, hx, rfl⟩ := List.mem_map.1 ha
      have := hM.clock x hx
      simp at hc
      omega
    · intro x hx
      simp only [Array.toList_push, List.mem_append, List.mem_singleton] at hx
      rcases hx with hx | rfl
      · have := hM.clock x hx; omega
      · exact Nat.lt_succ_self _
  · obtain ⟨ej, hej, hek, hev⟩ : ∃ ej, es.toList[j]? = some ej ∧ ej.key = .int q n ∧ ej.val = u := by
      have h5 := congrArg (fun L => L[j]?) hM.ent
      simp only [List.getElem?_map, h3] at h5
      cases hj : es.toList[j]? with
      | none => rw [hj] at h5; cases h5
      | some ej => rw [hj] at h5; simp at h5; exact ⟨ej, rfl, h5.1, h5.2⟩
    have hjlt : j < es.toList.length := (List.getElem?_eq_some_iff.1 hej).1
    have hkey : ((es[j]?).map (·.key)).getD (.int q n) = .int q n := by
      have : es[j]? = some ej := by simpa using hej
      rw [this]; exact hek
    have h0 : (Instr.mapUpdate t (ev ρ x) (ev ρ y) (ev ρ z)).run C.P w = .ok () { w with heap := w.heap.setIfInBounds b (.map (es.modify j fun e => { e with key := .int q n, val := v }) clk) } := by
      rw [hx, hy, hv]
      unfold Instr.mapUpdate
      rw [Nat.zero_add] at h1
      simp only [Sem.run_bind, underlying_run ht, Result.andThen_ok, getObj_map hb, checkKey_run hk, findKey_run hk h1, hkey, keyStays_run, setObj_run hb]
    have h4 : (execOp (ev ρ) ⟨d, .mapUpdate t x y z, ty, pos, af, g⟩).run C.P w = .ok .skip { w with heap := w.heap.setIfInBounds b (.map (es.modify j fun e => { e with key := .int q n, val := v }) clk) } := by simp [execOp, h0]
    rw [h4]
    have hmod : (es.modify j fun e => { e with key := .int q n, val := v }).toList = es.toList.set j { ej with key := .int q n, val := v } := by
      apply List.ext_getElem?
      intro i
      rw [Array.toList_modify]
      rw [List.getElem?_modify, List.getElem?_set]
      by_cases hi : j = i
      · subst hi
        rw [hej, if_pos rfl, if_pos hjlt]
        simp
      · rw [if_neg hi]
        simp [hi]
    refine ⟨_, kn_setMap hw hz _, h _ _ ⟨?_, mput_nodup hM.keys, ?_, ?_⟩⟩
    · rw [hmod, mput_set hM.keys h3, List.map_set, List.map_set, hM.ent]
    · rw [hmod, List.map_set]
      have : (es.toList.map (·.born)).set j ej.born = es.toList.map (·.born) := by
        apply List.ext_getElem?
        intro i
        by_cases hi : i = j
        · subst hi; simp [List.getElem?_set, hej]; simpa using hjlt
        · simp [Ne.symm hi]
      rw [this]; exact hM.born
    · intro x hx
      rw [hmod] at hx
      rcases List.mem_or_eq_of_mem_set hx with hx | rfl
      · exact hM.clock x hx
      · exact hM.clock ej (List.mem_of_getElem? hej)
end Go.Vl
