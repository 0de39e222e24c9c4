/-
  EQUALITY OF STRUCTS OF PLAIN FIELDS; RANGES OVER MAPS; SLICES THAT CAME IN. Nothing of the seat's program is named here.
-/
import Derived.Test.YtpegidbkplgplaaVd
import Derived.Laws.IdiomRangeMap
namespace Go.Vl
open Go.RowKit

def partV (P : Program) (t : TypeId) (cs : Array Value) (off : Nat) : Option Value :=
  if leaf P t = true then cs[off]? else if aggB P t = true then (sz P t).map fun n => .agg (cs.extract off (off + n)) else none
theorem partV_run {P : Program} {t : TypeId} {cs : Array Value} {off : Nat} {v : Value} (h : partV P t cs off = some v) (w : World) : (part t cs off).run P w = .ok v w := by
  unfold partV at h
  unfold part
  split at h
  · rename_i hl
    simp only [Sem.run_bind, isAgg_leaf hl, Result.andThen_ok, Bool.false_eq_true, if_false, h]
    rfl
  · split at h
    · rename_i ha
      cases hs : sz P t with
      | none => rw [hs] at h; cases h
      | some n =>
        rw [hs] at h
        simp only [Option.map_some, Option.some.injEq] at h
        subst h
        simp only [Sem.run_bind, isAgg_agg ha, Result.andThen_ok, if_true, sizeOf_run hs]
        rfl
    · cases h

def eqL (P : Program) (E : TypeId → Value → Value → Option Bool) : List Field → Array Value → Array Value → Option Bool
  | [], _, _ => some true
  | f :: fs, xs, ys =>
    if f.name = "_" then none else
    match partV P f.type xs f.offset, partV P f.type ys f.offset with
    | some a, some b => match E f.type a b with
      | some true => eqL P E fs xs ys
      | some false => some false
      | none => none
    | _, _ => none
/-- what a comparison of structs comes to, field by field -/
def andO (a b : Option Bool) : Option Bool :=
  match a with
  | some true => b
  | some false => some false
  | none => none
theorem andO_some (a b : Bool) : andO (some a) (some b) = some (a && b) := by cases a <;> rfl
def eqV (P : Program) : Nat → TypeId → Value → Value → Option Bool
  | 0, _, _, _ => none
  | n + 1, t, x, y =>
    match P.underlying t, x, y with
    | some .bool, .bool a, .bool b => some (a == b)
    | some (.int _), .int k a, .int k' b => if k = k' then some (a == b) else none
    | some .string, .string a, .string b => some (a == b)
    | some (.struct fs), .agg xs, .agg ys => if P.stoodInHeld t = true then none else eqL P (eqV P n) fs.toList xs ys
    | _, _, _ => none

theorem program_run' {P : Program} (w : World) : (program).run P w = .ok P w := rfl

theorem eqL_run {P : Program} {E : TypeId → Value → Value → Option Bool} {S : TypeId → Value → Value → Sem Bool} (hE : ∀ t a b c, E t a b = some c → ∀ w, (S t a b).run P w = .ok c w) {xs ys : Array Value} :
    ∀ (fs : List Field) (c : Bool), eqL P E fs xs ys = some c → ∀ w,
    (do
      for f in fs do
        if f.name ≠ "_" then
          if !(← S f.type (← part f.type xs f.offset) (← part f.type ys f.offset)) then return false
      pure true : Sem Bool).run P w = .ok c w := by
  intro fs
  induction fs with
  | nil => intro c h w; simp only [eqL, Option.some.injEq] at h; subst h; rfl
  | cons f fs ih =>
    intro c h w
    unfold eqL at h
    split at h
    · cases h
    · rename_i hn
      cases h1 : partV P f.type xs f.offset with
      | none => rw [h1] at h; cases h
      | some a =>
        cases h2 : partV P f.type ys f.offset with
        | none => rw [h1, h2] at h; cases h
        | some b =>
          rw [h1, h2] at h
          simp only at h
          cases h3 : E f.type a b with
          | none => rw [h3] at h; cases h
          | some r =>
            rw [h3] at h
            have hS := hE _ _ _ _ h3
            cases r with
            | true =>
              simp only at h
              have h4 := ih c h w
              simp only [List.forIn_cons, Sem.run_bind, ne_eq, hn, not_false_eq_true, if_true, partV_run h1, partV_run h2, Result.andThen_ok, hS, Bool.not_true, Bool.false_eq_true, if_false, Sem.run_pure] at h4 ⊢
              exact h4
            | false =>
              simp only [Option.some.injEq] at h
              subst h
              simp only [List.forIn_cons, Sem.run_bind, ne_eq, hn, not_false_eq_true, if_true, partV_run h1, partV_run h2, Result.andThen_ok, hS, Bool.not_false, if_true, Sem.run_pure]

theorem eqV_run {P : Program} : ∀ (n : Nat) {t : TypeId} {x y : Value} {c : Bool}, eqV P n t x y = some c → ∀ (m : Nat) (w : World), (Op.equalIn (n + m) t x y).run P w = .ok c w := by
  intro n
  induction n with
  | zero => intro t x y c h; cases h
  | succ n ih =>
    intro t x y c h m w
    rw [show n + 1 + m = (n + m) + 1 from by omega]
    unfold eqV at h
    unfold Op.equalIn
    cases hu : P.underlying t with
    | none => rw [hu] at h; cases h
    | some d =>
      rw [hu] at h
      simp only [Sem.run_bind, underlying_run hu, Result.andThen_ok]
      split at h
      · rename_i he; cases he
        simp only [Option.some.injEq] at h; subst h; rfl
      · rename_i he; cases he
        split at h
        · rename_i hk
          simp only [Option.some.injEq] at h; subst h
          simp only [hk, if_true]
          rfl
        · cases h
      · rename_i he; cases he
        simp only [Option.some.injEq] at h; subst h; rfl
      · rename_i fs xs ys he; cases he
        split at h
        · cases h
        · rename_i hs
          have h1 := eqL_run (S := Op.equalIn (n + m)) (fun t a b c hc w => ih hc m w) _ _ h w
          simp only [Sem.run_bind, program_run', Result.andThen_ok, hs, Bool.false_eq_true, if_false]
          rw [← h1]
          simp only [Array.forIn_toList, Sem.run_bind]
      · cases h

section
variable {P : Program} {e : World} {ρ : Fr} {H : Hp} {d : Option Nat} {ty : TypeId} {pos : String} {af : Array Edge} {g : Option (Nat × Bool)} {t yt : TypeId} {x y : Operand}
theorem eqGuard_run {op : BinOp} {X Y : Array Value} (ho : op = .eql ∨ op = .neq) (h : P.eqGuardType P.depth t = false) (w : World) : (eqGuard op t x y (.agg X) (.agg Y)).run P w = .ok () w := by
  rcases ho with rfl | rfl <;>
  · simp only [eqGuard, Bool.not_true, Bool.false_eq_true, if_false, Sem.run_bind, program_run', Result.andThen_ok, h, Bool.not_false, if_true]
    rfl
theorem rd_eqS {X Y : Array Value} {c : Bool} (hx : ev ρ x = .agg X) (hy : ev ρ y = .agg Y) (hg : P.eqGuardType P.depth t = false) (h : eqV P 4 t (.agg X) (.agg Y) = some c) :
    Rd P e ρ H ⟨d, .binOp .eql t x y yt, ty, pos, af, g⟩ (.bool c) := fun w _ => by
  have h1 : (Op.equal t (.agg X) (.agg Y)).run P w = .ok c w := eqV_run 4 h 9996 w
  show Sem.run P (do pure (Next.value (← (do eqGuard .eql t x y (ev ρ x) (ev ρ y); binOp .eql t (ev ρ x) (ev ρ y))))) w = _
  rw [hx, hy, Sem.run_bind, Sem.run_bind, eqGuard_run (.inl rfl) hg]
  show ((do pure (.bool (← Op.equal t (.agg X) (.agg Y))) : Sem Value).run P w).andThen _ = _
  rw [Sem.run_bind, h1]
  rfl
theorem rd_neS {X Y : Array Value} {c v : Bool} (hx : ev ρ x = .agg X) (hy : ev ρ y = .agg Y) (hg : P.eqGuardType P.depth t = false) (h : eqV P 4 t (.agg X) (.agg Y) = some c) (hv : (!c) = v) :
    Rd P e ρ H ⟨d, .binOp .neq t x y yt, ty, pos, af, g⟩ (.bool v) := fun w _ => by
  subst hv
  have h1 : (Op.equal t (.agg X) (.agg Y)).run P w = .ok c w := eqV_run 4 h 9996 w
  show Sem.run P (do pure (Next.value (← (do eqGuard .neq t x y (ev ρ x) (ev ρ y); binOp .neq t (ev ρ x) (ev ρ y))))) w = _
  rw [hx, hy, Sem.run_bind, Sem.run_bind, eqGuard_run (.inr rfl) hg]
  show ((do pure (.bool (!(← Op.equal t (.agg X) (.agg Y)))) : Sem Value).run P w).andThen _ = _
  rw [Sem.run_bind, h1]
  rfl
end

/-! ### Slices that came in -/

def RowAt (cs : Array Value) (o n : Nat) (r : List Value) : Prop := r.length = n ∧ ∀ j v, r[j]? = some v → cs[o + j]? = some v
/-- a slice that can be read: what its elements hold lies in F -/
def InSl (F : Hp) (n : Nat) (rows : List (List Value)) (v : Value) : Prop :=
  ∃ a cap, v = .slice a rows.length cap ∧ rows.length ≤ cap ∧ (∀ r ∈ rows, r.length = n ∧ ones r = true) ∧ (rows = [] ∨ ∃ b o cs T fz, a = some ⟨b, o, none⟩ ∧ (b, Obj.cells cs T fz) ∈ F ∧ RowAt cs o (rows.length * n) rows.flatten)
theorem flat_get {n : Nat} : ∀ {rows : List (List Value)} {i : Nat} {r : List Value}, (∀ r ∈ rows, r.length = n) → rows[i]? = some r → ∀ j v, r[j]? = some v → rows.flatten[i * n + j]? = some v := by
  intro rows
  induction rows with
  | nil => intro i r _ hi; simp at hi
  | cons a rows ih =>
    intro i r hr hi j v hj
    rw [List.flatten_cons]
    have ha := hr a (by simp)
    cases i with
    | zero =>
      simp at hi
      subst hi
      rw [List.getElem?_append_left (by have := (List.getElem?_eq_some_iff.1 hj).1; omega)]
      simpa using hj
    | succ i =>
      rw [List.getElem?_append_right (by rw [ha, Nat.succ_mul]; omega), ha]
      have := ih (fun x hx => hr x (by simp [hx])) (by simpa using hi) j v hj
      rw [← this]
      congr 1
      rw [Nat.succ_mul]
      omega
theorem RowAt.row {cs : Array Value} {o n : Nat} {rows : List (List Value)} {i : Nat} {r : List Value} (h : RowAt cs o (rows.length * n) rows.flatten) (hr : ∀ r ∈ rows, r.length = n) (hi : rows[i]? = some r) : RowAt cs (o + i * n) n r :=
  ⟨hr r (List.mem_of_getElem? hi), fun j v hj => by rw [Nat.add_assoc]; exact h.2 _ v (flat_get hr hi j v hj)⟩
theorem InSl.row {F : Hp} {n : Nat} {rows : List (List Value)} {v : Value} (h : InSl F n rows v) {i : Nat} {r : List Value} (hi : rows[i]? = some r) : ∃ b o cs T fz cap, v = .slice (some ⟨b, o, none⟩) rows.length cap ∧ (b, Obj.cells cs T fz) ∈ F ∧ RowAt cs (o + i * n) n r := by
  obtain ⟨a, cap, rfl, _, hr, h⟩ := h
  rcases h with rfl | ⟨b, o, cs, T, fz, rfl, hm, h⟩
  · simp at hi
  · exact ⟨b, o, cs, T, fz, cap, rfl, hm, h.row (fun r hr' => (hr r hr').1) hi⟩
theorem InSl.more {F F' : Hp} {n : Nat} {rows : List (List Value)} {v : Value} (h : InSl F n rows v) (hs : ∀ x ∈ F, x ∈ F') : InSl F' n rows v := by
  obtain ⟨a, cap, hv, hc, hr, h⟩ := h
  refine ⟨a, cap, hv, hc, hr, ?_⟩
  rcases h with h | ⟨b, o, cs, T, fz, ha, hm, h⟩
  · exact .inl h
  · exact .inr ⟨b, o, cs, T, fz, ha, hs _ hm, h⟩
theorem InSl.nil {F : Hp} {n : Nat} {a : Option Addr} {c : Nat} : InSl F n [] (.slice a 0 c) := ⟨a, c, rfl, Nat.zero_le _, by simp, .inl rfl⟩

theorem RowAt.part {cs : Array Value} {o n : Nat} {r : List Value} (h : RowAt cs o n r) (l k : Nat) (hlk : l + k ≤ n) : RowAt cs (o + l) k ((r.drop l).take k) := by
  refine ⟨by simp [h.1]; omega, fun j v hj => ?_⟩
  rw [List.getElem?_take] at hj
  split at hj
  · rw [List.getElem?_drop] at hj
    rw [Nat.add_assoc]
    exact h.2 _ v hj
  · cases hj
theorem flat_drop {n : Nat} : ∀ {rows : List (List Value)} (l : Nat), (∀ r ∈ rows, r.length = n) → (rows.drop l).flatten = rows.flatten.drop (l * n)
  | _, 0, _ => by simp
  | [], l + 1, _ => by simp
  | a :: rows, l + 1, h => by
    have ha := h a (by simp)
    rw [List.drop_succ_cons, flat_drop l (fun r hr => h r (by simp [hr])), List.flatten_cons, List.drop_append, ha, Nat.succ_mul]
    rw [List.drop_of_length_le (by omega : a.length ≤ l * n + n), List.nil_append]
    congr 1
    omega
theorem flat_take {n : Nat} : ∀ {rows : List (List Value)} (l : Nat), (∀ r ∈ rows, r.length = n) → (rows.take l).flatten = rows.flatten.take (l * n)
  | _, 0, _ => by simp
  | [], l + 1, _ => by simp
  | a :: rows, l + 1, h => by
    have ha := h a (by simp)
    rw [List.take_succ_cons, List.flatten_cons, flat_take l (fun r hr => h r (by simp [hr])), List.flatten_cons, List.take_append, ha, Nat.succ_mul]
    rw [List.take_of_length_le (by omega : a.length ≤ l * n + n)]
    congr 2
    omega
theorem InSl.at {F : Hp} {n : Nat} {rows : List (List Value)} {v : Value} (h : InSl F n rows v) {i : Nat} {r : List Value} (hi : rows[i]? = some r) : ∃ b o cs T fz cap, v = .slice (some ⟨b, o, none⟩) rows.length cap ∧ (b, Obj.cells cs T fz) ∈ F ∧ RowAt cs (o + i * n) n r := h.row hi

section
variable {P : Program} {e : World} {ρ : Fr} {H : Hp} {d : Option Nat} {ty : TypeId} {pos : String} {af : Array Edge} {g : Option (Nat × Bool)}
theorem rd_indexAddrK {x y : Operand} {t el n : TypeId} {b o len c : Nat} {q : IntKind} {k : Nat} (hx : ev ρ x = .slice (some ⟨b, o, none⟩) len c) (hy : ev ρ y = .int q (k : Int)) (ht : P.underlying t = some (.slice el))
    (hs : (sz P el).isSome = true) (hn : (sz P el).getD 0 = n) (h1 : k < len) : Rd P e ρ H ⟨d, .indexAddr t x y, ty, pos, af, g⟩ (.pointer (some ⟨b, o + k * n, none⟩)) := by
  obtain ⟨m, hm⟩ := Option.isSome_iff_exists.1 hs
  rw [hm] at hn
  simp only [Option.getD_some] at hn
  subst hn
  have := rd_indexAddr (e := e) (H := H) (d := d) (ty := ty) (pos := pos) (af := af) (g := g) hx hy ht hm (by omega) (by omega)
  simpa using this
theorem rd_loadR {x : Operand} {t n : TypeId} {b o : Nat} {cs : Array Value} {r : List Value} {T : TypeId} {fz : Nat × Nat} (hx : ev ρ x = .pointer (some ⟨b, o, none⟩)) (hl : aggB P t = true) (hs' : (sz P t).isSome = true) (hn : (sz P t).getD 0 = n)
    (hm : (b, Obj.cells cs T fz) ∈ H) (hr : RowAt cs o n r) : Rd P e ρ H ⟨d, .load t x, ty, pos, af, g⟩ (.agg r.toArray) := fun w hw => by
  have hs : sz P t = some n := by
    obtain ⟨m, hm⟩ := Option.isSome_iff_exists.1 hs'
    rw [hm] at hn ⊢
    exact congrArg some hn
  have h1 : (loadCellsFrom ⟨b, o, none⟩ 0 n #[]).run P w = .ok (#[] ++ r.toArray) w := by
    have := loadCellsFrom_run (P := P) (w := w) (b := b) (o := o) r 0 #[] (fun j v hj => by rw [cell_kn hw hm]; simpa using hr.2 j v hj)
    rw [hr.1] at this
    exact this
  have h0 : (loadVar t ⟨b, o, none⟩).run P w = .ok (.agg r.toArray) w := by
    unfold loadVar
    simp only [Sem.run_bind, isAgg_agg hl, Result.andThen_ok, if_true, sizeOf_run hs, loadCells]
    simp only [h1]
    simp
  have h2 : (Instr.loadAt t (ev ρ x)).run P w = .ok (.agg r.toArray) w := by
    rw [hx]
    simp only [Instr.loadAt, Instr.sureAddr, Sem.run_bind, Sem.run_pure, Result.andThen_ok, h0]
  simp [execOp, h2]
theorem rd_loadA {x : Operand} {t : TypeId} {b o : Nat} {cs : Array Value} {T : TypeId} {fz : Nat × Nat} {v : Value} (hx : ev ρ x = .pointer (some ⟨b, o, none⟩)) (hl : leaf P t = true)
    (hm : (b, Obj.cells cs T fz) ∈ H) (hr : RowAt cs o 1 [v]) : Rd P e ρ H ⟨d, .load t x, ty, pos, af, g⟩ v := rd_load hx hl hm (by simpa using hr.2 0 v rfl)
end

theorem cells_run {w : World} {a : Addr} {n : Nat} {cs : List Value} (hn : 0 < n) (h : w.cells? 0 a n = some cs) : ∃ b o arr T fz, a = ⟨b, o, none⟩ ∧ w.heap[b]? = some (.cells arr T fz) ∧ RowAt arr o n cs := by
  unfold World.cells? at h
  rw [if_pos (Nat.zero_le _)] at h
  have hlen : cs.length = n := by simpa using mapM_some_length h
  have hget : ∀ i, i < n → w.cell? (a.add i) = cs[i]? := fun i hi => mapM_some_get h i i (by simp [hi])
  obtain ⟨b, o, sp⟩ := a
  have h0 := hget 0 hn
  rw [List.getElem?_eq_getElem (by omega)] at h0
  obtain rfl : sp = none := by simpa [Addr.add] using World.cell?_spot h0
  have h1 : w.cell? ⟨b, o, none⟩ = some (cs[0]'(by omega)) := by simpa [Addr.add] using h0
  unfold World.cell? at h1
  cases hb : w.heap[b]? with
  | none => simp [hb] at h1
  | some x =>
    cases x with
    | cells arr T fz =>
      refine ⟨b, o, arr, T, fz, rfl, hb, hlen, fun j v hj => ?_⟩
      have hjn : j < n := by
        have := (List.getElem?_eq_some_iff.1 hj).1
        omega
      have h2 := hget j hjn
      rw [hj, addr_add] at h2
      unfold World.cell? at h2
      simpa [hb] using h2
    | _ => simp [hb] at h1
end Go.Vl
