/-
  THE SMALL LOGIC's RULES FOR OPERATIONS: what each one answers, and what it does to the known blocks. Nothing of the seat's program is named here.
-/
import Derived.Test.YtpegidbkplgplaaVl
namespace Go.Vl
open Go.RowKit

/-! ### Types, reckoned -/
def leaf (P : Program) (t : TypeId) : Bool :=
  match P.underlying t with
  | some (.struct _) => false
  | some (.array _ _) => false
  | some _ => true
  | none => false
def aggB (P : Program) (t : TypeId) : Bool :=
  match P.underlying t with
  | some (.struct _) => true
  | some (.array _ _) => true
  | _ => false
def sz (P : Program) (t : TypeId) : Option Nat := (P.info? t).map (·.size)
/-- where a field lies; its size, if it is a struct or an array -/
def fld (P : Program) (s : TypeId) (f : Nat) : Option (Nat × Option Nat) :=
  match P.underlying s with
  | some (.struct fs) =>
    match fs[f]? with
    | some x => match P.info? x.type with
      | some i => if leaf P x.type then some (x.offset, none) else if aggB P x.type then some (x.offset, some i.size) else none
      | none => none
    | none => none
  | _ => none
/-- a field's place behind an address -/
def fldA (P : Program) (s : TypeId) (f : Nat) : Option Nat :=
  match P.underlying s with
  | some (.struct fs) =>
    match fs[f]? with
    | some x => match P.info? x.type with
      | some i => if i.size = 0 then none else some x.offset
      | none => none
    | none => none
  | _ => none
def zval (P : Program) (t : TypeId) : Option Value := (P.info? t).bind (·.zero)

abbrev cellsO (l : List Value) (T : TypeId) : Obj := .cells l.toArray T (0, 0)

/-- n cells from place o on -/
inductive TakeR : List Value → Nat → Nat → List Value → Prop
  | nil {l : List Value} : TakeR l 0 0 []
  | cons {v : Value} {l r : List Value} {n : Nat} (h : TakeR l 0 n r) : TakeR (v :: l) 0 (n + 1) (v :: r)
  | skip {v : Value} {l r : List Value} {o n : Nat} (h : TakeR l o n r) : TakeR (v :: l) (o + 1) n r

section
variable {P : Program} {e : World} {ρ : Fr} {H : Hp} {d : Option Nat} {ty : TypeId} {pos : String} {af : Array Edge} {g : Option (Nat × Bool)}

theorem isAgg_leaf {t : TypeId} (h : leaf P t = true) (w : World) : (isAgg t).run P w = .ok false w := by
  unfold leaf at h
  unfold isAgg underlying
  simp only [Sem.run_bind, run_program, Result.andThen_ok]
  cases hu : P.underlying t with
  | none => rw [hu] at h; cases h
  | some x => rw [hu] at h; cases x <;> first | rfl | cases h
theorem isAgg_agg {t : TypeId} (h : aggB P t = true) (w : World) : (isAgg t).run P w = .ok true w := by
  unfold aggB at h
  unfold isAgg underlying
  simp only [Sem.run_bind, run_program, Result.andThen_ok]
  cases hu : P.underlying t with
  | none => rw [hu] at h; cases h
  | some x => rw [hu] at h; cases x <;> first | rfl | cases h
theorem sizeOf_run {t n : TypeId} (h : sz P t = some n) (w : World) : (sizeOf t).run P w = .ok n w := by
  unfold sz at h
  unfold sizeOf typeInfo
  simp only [Sem.run_bind, run_program, Result.andThen_ok]
  cases hu : P.info? t with
  | none => rw [hu] at h; cases h
  | some i => rw [hu] at h; cases h; rfl
theorem underlying_run {t : TypeId} {x : TypeDesc} (h : P.underlying t = some x) (w : World) : (Go.underlying t).run P w = .ok x w := by
  unfold Go.underlying
  simp only [Sem.run_bind, run_program, Result.andThen_ok, h]
  rfl
theorem zero_run {t : TypeId} {z : Value} (h : zval P t = some z) (w : World) : (zeroValue t).run P w = .ok z w := by
  unfold zval at h
  unfold zeroValue typeInfo
  simp only [Sem.run_bind, run_program, Result.andThen_ok]
  cases hu : P.info? t with
  | none => rw [hu] at h; cases h
  | some i => rw [hu] at h; simp at h; simp [h]

theorem cell_kn {w : World} (hw : Kn e w H) {b o : Nat} {cs : Array Value} {T : TypeId} {fz : Nat × Nat} (hm : (b, Obj.cells cs T fz) ∈ H) : w.cell? ⟨b, o, none⟩ = cs[o]? := by
  have := hw.has _ hm
  simp only at this
  simp [World.cell?, this]

theorem load_run {w : World} {a : Addr} {v : Value} (h : w.cell? a = some v) : (load a).run P w = .ok v w := by simp [h]

theorem addr_add (b o n : Nat) : (Addr.mk b o none).add n = ⟨b, o + n, none⟩ := by
  unfold Addr.add
  split
  · rename_i h; rw [h]; rfl
  · rfl

theorem loadCellsFrom_run {w : World} {b o : Nat} : ∀ (l : List Value) (i : Nat) (acc : Array Value), (∀ j v, l[j]? = some v → w.cell? ⟨b, o + (i + j), none⟩ = some v) →
    (loadCellsFrom ⟨b, o, none⟩ i l.length acc).run P w = .ok (acc ++ l.toArray) w := by
  intro l
  induction l with
  | nil => intro i acc _; simp [loadCellsFrom]
  | cons v l ih =>
    intro i acc h
    have h0 : w.cell? ⟨b, o + i, none⟩ = some v := by simpa using h 0 v rfl
    have h1 := ih (i + 1) (acc.push v) (fun j u hj => by have := h (j + 1) u (by simpa using hj); rwa [show i + (j + 1) = i + 1 + j from by omega] at this)
    simp only [List.length_cons, loadCellsFrom, addr_add, Sem.run_bind, load_run h0, Result.andThen_ok, h1]
    simp

theorem takeN_get {l r : List Value} {o n : Nat} (h : TakeR l o n r) : r.length = n ∧ ∀ j v, r[j]? = some v → l[o + j]? = some v := by
  induction h with
  | nil => exact ⟨rfl, by simp⟩
  | cons _ ih =>
    refine ⟨by simp [ih.1], fun j v hj => ?_⟩
    cases j with
    | zero => simpa using hj
    | succ j => have := ih.2 j v (by simpa using hj); simpa using this
  | @skip v l r o n _ ih =>
    refine ⟨ih.1, fun j u hj => ?_⟩
    rw [show o + 1 + j = (o + j) + 1 from by omega, List.getElem?_cons_succ]
    exact ih.2 j u hj

theorem loadVar_leaf {w : World} {t : TypeId} {a : Addr} {v : Value} (hl : leaf P t = true) (h : w.cell? a = some v) : (loadVar t a).run P w = .ok v w := by
  unfold loadVar
  simp only [Sem.run_bind, isAgg_leaf hl, Result.andThen_ok, Bool.false_eq_true, if_false]
  exact load_run h
theorem loadVar_agg {w : World} (hw : Kn e w H) {t n : TypeId} {b o : Nat} {l r : List Value} {T : TypeId} {fz : Nat × Nat} (hl : aggB P t = true) (hs : sz P t = some n)
    (hm : (b, Obj.cells l.toArray T fz) ∈ H) (hr : TakeR l o n r) : (loadVar t ⟨b, o, none⟩).run P w = .ok (.agg r.toArray) w := by
  obtain ⟨hn, hg⟩ := takeN_get hr
  have := loadCellsFrom_run (P := P) (w := w) (b := b) (o := o) r 0 #[] (fun j v hj => by
    rw [cell_kn hw hm]
    simpa using hg j v hj)
  unfold loadVar loadCells
  simp only [Sem.run_bind, isAgg_agg hl, Result.andThen_ok, if_true, sizeOf_run hs]
  rw [← hn, this]
  simp

/-! ### Operations that only read -/
theorem rd_move {x : Operand} {v : Value} (h : ev ρ x = v) : Rd P e ρ H ⟨d, .move x, ty, pos, af, g⟩ v := fun w _ => by rw [← h]; rfl
theorem rd_assign {x : Operand} {v : Value} (h : ev ρ x = v) : Rd P e ρ H ⟨d, .assign x, ty, pos, af, g⟩ v := fun w _ => by rw [← h]; rfl
theorem rd_pick_t {c a b : Operand} {v : Value} (hc : ev ρ c = .bool true) (h : ev ρ a = v) : Rd P e ρ H ⟨d, .pick c a b, ty, pos, af, g⟩ v := fun w _ => by
  subst h; simp [execOp, hc, asBool]
theorem rd_pick_f {c a b : Operand} {v : Value} (hc : ev ρ c = .bool false) (h : ev ρ b = v) : Rd P e ρ H ⟨d, .pick c a b, ty, pos, af, g⟩ v := fun w _ => by
  subst h; simp [execOp, hc, asBool]

theorem rd_load {x : Operand} {t : TypeId} {b o : Nat} {cs : Array Value} {T : TypeId} {fz : Nat × Nat} {v : Value} (hx : ev ρ x = .pointer (some ⟨b, o, none⟩)) (hl : leaf P t = true)
    (hm : (b, Obj.cells cs T fz) ∈ H) (hc : cs[o]? = some v) : Rd P e ρ H ⟨d, .load t x, ty, pos, af, g⟩ v := fun w hw => by
  have h0 : (Instr.loadAt t (ev ρ x)).run P w = .ok v w := by
    rw [hx]
    show Sem.run P (loadVar t ⟨b, o, none⟩) w = _
    exact loadVar_leaf hl ((cell_kn hw hm).trans hc)
  simp [execOp, h0]
theorem rd_loadN {x : Operand} {t n : TypeId} {b o : Nat} {l r : List Value} {T : TypeId} {fz : Nat × Nat} (hx : ev ρ x = .pointer (some ⟨b, o, none⟩)) (hl : aggB P t = true) (hs : sz P t = some n)
    (hm : (b, Obj.cells l.toArray T fz) ∈ H) (hc : TakeR l o n r) : Rd P e ρ H ⟨d, .load t x, ty, pos, af, g⟩ (.agg r.toArray) := fun w hw => by
  have h0 : (Instr.loadAt t (ev ρ x)).run P w = .ok (.agg r.toArray) w := by
    rw [hx]
    show Sem.run P (loadVar t ⟨b, o, none⟩) w = _
    exact loadVar_agg hw hl hs hm hc
  simp [execOp, h0]

theorem rd_nilCheck {x : Operand} {a : Addr} (hx : ev ρ x = .pointer (some a)) : Rd P e ρ H ⟨d, .nilCheck x, ty, pos, af, g⟩ (.pointer (some a)) := fun w _ => by simp [execOp, hx]

theorem rd_fieldAddr {x : Operand} {s f off b o : Nat} (hx : ev ρ x = .pointer (some ⟨b, o, none⟩)) (hf : fldA P s f = some off) :
    Rd P e ρ H ⟨d, .fieldAddr s x f, ty, pos, af, g⟩ (.pointer (some ⟨b, o + off, none⟩)) := fun w _ => by
  have h0 : (Instr.fieldAt s (ev ρ x) f).run P w = .ok (.pointer (some ⟨b, o + off, none⟩)) w := by
    rw [hx]
    unfold fldA at hf
    cases hu : P.underlying s with
    | none => rw [hu] at hf; cases hf
    | some x =>
      rw [hu] at hf
      cases x with
      | struct fs =>
        simp only at hf
        cases hfs : fs[f]? with
        | none => rw [hfs] at hf; cases hf
        | some y =>
          rw [hfs] at hf
          simp only at hf
          cases hi : P.info? y.type with
          | none => rw [hi] at hf; cases hf
          | some i =>
            rw [hi] at hf
            simp only at hf
            split at hf
            · cases hf
            · rename_i hz
              simp only [Option.some.injEq] at hf
              have hsz : sz P y.type = some i.size := by simp [sz, hi]
              simp only [Instr.fieldAt, Sem.run_bind, underlying_run hu, Result.andThen_ok, hfs, Instr.sureAddr, Sem.run_pure, fieldPlace, sizeOf_run hsz, hz, if_false, addr_add, hf]
      | _ => cases hf
  simp [execOp, h0]

theorem rd_field {x : Operand} {s f off : Nat} {cs : Array Value} {v : Value} (hx : ev ρ x = .agg cs) (hf : fld P s f = some (off, none)) (hc : cs[off]? = some v) :
    Rd P e ρ H ⟨d, .field s x f, ty, pos, af, g⟩ v := fun w _ => by
  have h0 : (Instr.field s (ev ρ x) f).run P w = .ok v w := by
    rw [hx]
    unfold fld at hf
    cases hu : P.underlying s with
    | none => rw [hu] at hf; cases hf
    | some x =>
      rw [hu] at hf
      cases x with
      | struct fs =>
        simp only at hf
        cases hfs : fs[f]? with
        | none => rw [hfs] at hf; cases hf
        | some y =>
          rw [hfs] at hf
          simp only at hf
          cases hi : P.info? y.type with
          | none => rw [hi] at hf; cases hf
          | some i =>
            rw [hi] at hf
            simp only at hf
            split at hf
            · rename_i hl
              simp only [Option.some.injEq, Prod.mk.injEq, and_true] at hf
              simp [Instr.field, underlying_run hu, hfs, asAgg, part, isAgg_leaf hl, hf, hc]
            · split at hf <;> simp at hf
      | _ => cases hf
  simp [execOp, h0]
theorem rd_fieldN {x : Operand} {s f off n : Nat} {cs : Array Value} (hx : ev ρ x = .agg cs) (hf : fld P s f = some (off, some n)) :
    Rd P e ρ H ⟨d, .field s x f, ty, pos, af, g⟩ (.agg (cs.extract off (off + n))) := fun w _ => by
  have h0 : (Instr.field s (ev ρ x) f).run P w = .ok (.agg (cs.extract off (off + n))) w := by
    rw [hx]
    unfold fld at hf
    cases hu : P.underlying s with
    | none => rw [hu] at hf; cases hf
    | some x =>
      rw [hu] at hf
      cases x with
      | struct fs =>
        simp only at hf
        cases hfs : fs[f]? with
        | none => rw [hfs] at hf; cases hf
        | some y =>
          rw [hfs] at hf
          simp only at hf
          cases hi : P.info? y.type with
          | none => rw [hi] at hf; cases hf
          | some i =>
            rw [hi] at hf
            simp only at hf
            split at hf
            · simp at hf
            · split at hf
              · rename_i ha
                simp only [Option.some.injEq, Prod.mk.injEq] at hf
                have hsz : sz P y.type = some i.size := by simp [sz, hi]
                simp [Instr.field, underlying_run hu, hfs, asAgg, part, isAgg_agg ha, sizeOf_run hsz, hf.1, hf.2]
              · cases hf
      | _ => cases hf
  simp [execOp, h0]

theorem rd_extract {x : Operand} {i : Nat} {vs : Array Value} {v : Value} (hx : ev ρ x = .tuple vs) (hv : vs[i]? = some v) : Rd P e ρ H ⟨d, .extract x i, ty, pos, af, g⟩ v := fun w _ => by
  simp [execOp, hx, Instr.extract, hv]
theorem rd_makeFunc {fn : Fn} {first captured : Array Operand} {f' c' : Array Value} (h1 : first.map (ev ρ) = f') (h2 : captured.map (ev ρ) = c') : Rd P e ρ H ⟨d, .makeFunc fn first captured, ty, pos, af, g⟩ (.func fn f' c') := fun w _ => by
  subst h1; subst h2; simp [execOp, Instr.makeFunc]

section binops
variable {t yt : TypeId} {x y : Operand} {k : IntKind} {a b : Int}
theorem rd_arith {op : BinOp} {r : Int} (hx : ev ρ x = .int k a) (hy : ev ρ y = .int k b) (hr : (op = .add ∧ r = k.wrap (a + b)) ∨ (op = .sub ∧ r = k.wrap (a - b)) ∨ (op = .mul ∧ r = k.wrap (a * b))) :
    Rd P e ρ H ⟨d, .binOp op t x y yt, ty, pos, af, g⟩ (.int k r) := fun w _ => by
  rcases hr with ⟨rfl, rfl⟩ | ⟨rfl, rfl⟩ | ⟨rfl, rfl⟩ <;> simp [execOp, hx, hy, eqGuard, binOp, Op.intArith]
theorem wrap64_id {n : Int} (h1 : -9223372036854775808 ≤ n) (h2 : n ≤ 9223372036854775807) : IntKind.i64.wrap n = n := by
  unfold IntKind.wrap
  simp [IntKind.signed, IntKind.bits]
  omega
theorem rd_add64 (hx : ev ρ x = .int .i64 a) (hy : ev ρ y = .int .i64 b) (h1 : -9223372036854775808 ≤ a + b) (h2 : a + b ≤ 9223372036854775807) :
    Rd P e ρ H ⟨d, .binOp .add t x y yt, ty, pos, af, g⟩ (.int .i64 (a + b)) := rd_arith hx hy (.inl ⟨rfl, (wrap64_id h1 h2).symm⟩)
theorem rd_sub64 (hx : ev ρ x = .int .i64 a) (hy : ev ρ y = .int .i64 b) (h1 : -9223372036854775808 ≤ a - b) (h2 : a - b ≤ 9223372036854775807) :
    Rd P e ρ H ⟨d, .binOp .sub t x y yt, ty, pos, af, g⟩ (.int .i64 (a - b)) := rd_arith hx hy (.inr (.inl ⟨rfl, (wrap64_id h1 h2).symm⟩))
theorem rd_addw (hx : ev ρ x = .int k a) (hy : ev ρ y = .int k b) : Rd P e ρ H ⟨d, .binOp .add t x y yt, ty, pos, af, g⟩ (.int k (k.wrap (a + b))) := rd_arith hx hy (.inl ⟨rfl, rfl⟩)
theorem rd_subw (hx : ev ρ x = .int k a) (hy : ev ρ y = .int k b) : Rd P e ρ H ⟨d, .binOp .sub t x y yt, ty, pos, af, g⟩ (.int k (k.wrap (a - b))) := rd_arith hx hy (.inr (.inl ⟨rfl, rfl⟩))
theorem rd_mulw (hx : ev ρ x = .int k a) (hy : ev ρ y = .int k b) : Rd P e ρ H ⟨d, .binOp .mul t x y yt, ty, pos, af, g⟩ (.int k (k.wrap (a * b))) := rd_arith hx hy (.inr (.inr ⟨rfl, rfl⟩))

theorem rd_lss {c : Bool} (hx : ev ρ x = .int k a) (hy : ev ρ y = .int k b) (h : decide (a < b) = c) : Rd P e ρ H ⟨d, .binOp .lss t x y yt, ty, pos, af, g⟩ (.bool c) := fun w _ => by
  subst h; simp [execOp, hx, hy, eqGuard, binOp, Op.intCmp]
theorem rd_leq {c : Bool} (hx : ev ρ x = .int k a) (hy : ev ρ y = .int k b) (h : decide (a ≤ b) = c) : Rd P e ρ H ⟨d, .binOp .leq t x y yt, ty, pos, af, g⟩ (.bool c) := fun w _ => by
  subst h; simp [execOp, hx, hy, eqGuard, binOp, Op.intCmp]
theorem rd_gtr {c : Bool} (hx : ev ρ x = .int k a) (hy : ev ρ y = .int k b) (h : decide (b < a) = c) : Rd P e ρ H ⟨d, .binOp .gtr t x y yt, ty, pos, af, g⟩ (.bool c) := fun w _ => by
  subst h; simp [execOp, hx, hy, eqGuard, binOp, Op.intCmp]
theorem rd_geq {c : Bool} (hx : ev ρ x = .int k a) (hy : ev ρ y = .int k b) (h : decide (b ≤ a) = c) : Rd P e ρ H ⟨d, .binOp .geq t x y yt, ty, pos, af, g⟩ (.bool c) := fun w _ => by
  subst h; simp [execOp, hx, hy, eqGuard, binOp, Op.intCmp]
theorem rd_eql {c : Bool} (hx : ev ρ x = .int k a) (hy : ev ρ y = .int k b) (h : decide (a = b) = c) : Rd P e ρ H ⟨d, .binOp .eql t x y yt, ty, pos, af, g⟩ (.bool c) := fun w _ => by
  subst h
  have : (a == b) = decide (a = b) := by rw [Bool.eq_iff_iff]; simp
  simp [execOp, hx, hy, eqGuard, binOp, Op.intCmp, this]
theorem rd_neq {c : Bool} (hx : ev ρ x = .int k a) (hy : ev ρ y = .int k b) (h : decide (a ≠ b) = c) : Rd P e ρ H ⟨d, .binOp .neq t x y yt, ty, pos, af, g⟩ (.bool c) := fun w _ => by
  subst h
  have : (a != b) = decide (a ≠ b) := by rw [Bool.eq_iff_iff]; simp
  simp [execOp, hx, hy, eqGuard, binOp, Op.intCmp, this]
end binops

theorem rd_not {x : Operand} {t : TypeId} {c : Bool} (hx : ev ρ x = .bool c) : Rd P e ρ H ⟨d, .unOp .not t x, ty, pos, af, g⟩ (.bool (!c)) := fun w _ => by
  simp [execOp, hx, Op.unary]

section nils
variable {t yt el : TypeId} {x y : Operand}
theorem rd_same {op : BinOp} {X Y : Value} {c : Bool} (hx : ev ρ x = X) (hy : ev ρ y = Y) (ho : (op = .eql ∧ binOp .eql t X Y = (do pure (.bool (← Op.equal t X Y)))) ∨ (op = .neq ∧ binOp .neq t X Y = (do pure (.bool (!(← Op.equal t X Y))))))
    (hg : eqGuard op t x y X Y = pure ()) (he : ∀ w : World, (Op.equalIn (9999 + 1) t X Y).run P w = .ok c w) {v : Bool} (hv : (op = .eql ∧ v = c) ∨ (op = .neq ∧ v = !c)) :
    Rd P e ρ H ⟨d, .binOp op t x y yt, ty, pos, af, g⟩ (.bool v) := fun w _ => by
  have h1 : (Op.equal t X Y).run P w = .ok c w := he w
  have h2 : (do eqGuard op t x y X Y; binOp op t X Y : Sem Value).run P w = .ok (.bool v) w := by
    rw [hg]
    rcases ho with ⟨rfl, ho⟩ | ⟨rfl, ho⟩
    · rcases hv with ⟨_, rfl⟩ | ⟨h, _⟩
      · simp only [ho, Sem.run_bind, Sem.run_pure, Result.andThen_ok, h1]
      · cases h
    · rcases hv with ⟨h, _⟩ | ⟨_, rfl⟩
      · cases h
      · simp only [ho, Sem.run_bind, Sem.run_pure, Result.andThen_ok, h1]
  show Sem.run P (do pure (Next.value (← (do eqGuard op t x y (ev ρ x) (ev ρ y); binOp op t (ev ρ x) (ev ρ y))))) w = _
  rw [hx, hy, Sem.run_bind, h2]
  rfl
theorem rd_ptr_eq_nil {a : Addr} (hx : ev ρ x = .pointer (some a)) (hy : ev ρ y = .pointer none) (hu : P.underlying t = some (.pointer el)) :
    Rd P e ρ H ⟨d, .binOp .eql t x y yt, ty, pos, af, g⟩ (.bool false) :=
  rd_same hx hy (.inl ⟨rfl, rfl⟩) rfl (fun w => by unfold Op.equalIn; simp only [Sem.run_bind, underlying_run hu, Result.andThen_ok]; rfl) (.inl ⟨rfl, rfl⟩)
theorem rd_nil_eq_nil (hx : ev ρ x = .pointer none) (hy : ev ρ y = .pointer none) (hu : P.underlying t = some (.pointer el)) :
    Rd P e ρ H ⟨d, .binOp .eql t x y yt, ty, pos, af, g⟩ (.bool true) :=
  rd_same hx hy (.inl ⟨rfl, rfl⟩) rfl (fun w => by unfold Op.equalIn; simp only [Sem.run_bind, underlying_run hu, Result.andThen_ok]; rfl) (.inl ⟨rfl, rfl⟩)
theorem rd_ptr_ne_nil {a : Addr} (hx : ev ρ x = .pointer (some a)) (hy : ev ρ y = .pointer none) (hu : P.underlying t = some (.pointer el)) :
    Rd P e ρ H ⟨d, .binOp .neq t x y yt, ty, pos, af, g⟩ (.bool true) :=
  rd_same hx hy (.inr ⟨rfl, rfl⟩) rfl (fun w => by unfold Op.equalIn; simp only [Sem.run_bind, underlying_run hu, Result.andThen_ok]; rfl) (.inr ⟨rfl, rfl⟩)
theorem rd_nil_ne_nil (hx : ev ρ x = .pointer none) (hy : ev ρ y = .pointer none) (hu : P.underlying t = some (.pointer el)) :
    Rd P e ρ H ⟨d, .binOp .neq t x y yt, ty, pos, af, g⟩ (.bool false) :=
  rd_same hx hy (.inr ⟨rfl, rfl⟩) rfl (fun w => by unfold Op.equalIn; simp only [Sem.run_bind, underlying_run hu, Result.andThen_ok]; rfl) (.inr ⟨rfl, rfl⟩)
variable {kt et : TypeId}
theorem rd_map_eq_nil {b : Nat} (hx : ev ρ x = .map (some b)) (hy : ev ρ y = .map none) (hu : P.underlying t = some (.map kt et)) :
    Rd P e ρ H ⟨d, .binOp .eql t x y yt, ty, pos, af, g⟩ (.bool false) :=
  rd_same hx hy (.inl ⟨rfl, rfl⟩) rfl (fun w => by unfold Op.equalIn; simp only [Sem.run_bind, underlying_run hu, Result.andThen_ok]; rfl) (.inl ⟨rfl, rfl⟩)
theorem rd_nomap_eq_nil (hx : ev ρ x = .map none) (hy : ev ρ y = .map none) (hu : P.underlying t = some (.map kt et)) :
    Rd P e ρ H ⟨d, .binOp .eql t x y yt, ty, pos, af, g⟩ (.bool true) :=
  rd_same hx hy (.inl ⟨rfl, rfl⟩) rfl (fun w => by unfold Op.equalIn; simp only [Sem.run_bind, underlying_run hu, Result.andThen_ok]; rfl) (.inl ⟨rfl, rfl⟩)
end nils
end
end Go.Vl
