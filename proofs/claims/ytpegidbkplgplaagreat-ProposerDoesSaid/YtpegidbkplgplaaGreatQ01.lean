/-
  Steps of the proof: Vl, Vo.
-/
import Derived.RangeFuncNested
import Derived.RangeFuncLeaves
import Derived.OrdersIn
import Derived.TacticsIn
import Derived.KernelRfl
import Derived.Below
namespace Go.Vl
open Go.RowKit

abbrev Fr := Nat → Value
abbrev Hp := List (Nat × Obj)

def ev (ρ : Fr) : Operand → Value
  | .tmp t => ρ t
  | .const v => v
  | .global g => .pointer (some ⟨g, 0, none⟩)
  | .func f => .func (.func f) #[] #[]

def upd (ρ : Fr) (d : Nat) (v : Value) : Fr := fun t => bif Nat.beq t d then v else ρ t
def updO (ρ : Fr) (d : Option Nat) (v : Value) : Fr :=
  match d with
  | some d => upd ρ d v
  | none => ρ

theorem upd_same (ρ : Fr) (d : Nat) (v : Value) : upd ρ d v d = v := by simp [upd]
theorem upd_other (ρ : Fr) {d t : Nat} (v : Value) (h : t ≠ d) : upd ρ d v t = ρ t := by
  have : Nat.beq t d = false := by
    cases hb : Nat.beq t d
    · rfl
    · exact absurd (Nat.eq_of_beq_eq_true hb) h
  simp [upd, this]
theorem upd_self (ρ : Fr) (d : Nat) : upd ρ d (ρ d) = ρ := by
  funext t
  by_cases h : t = d
  · subst h; exact upd_same ..
  · exact upd_other _ _ h
theorem upd_comm (ρ : Fr) {d c : Nat} (v u : Value) (h : d ≠ c) : upd (upd ρ d v) c u = upd (upd ρ c u) d v := by
  funext t
  by_cases h1 : t = c
  · subst h1; rw [upd_same, upd_other _ _ (Ne.symm h), upd_same]
  · by_cases h2 : t = d
    · subst h2; rw [upd_other _ _ h1, upd_same, upd_same]
    · rw [upd_other _ _ h1, upd_other _ _ h2, upd_other _ _ h2, upd_other _ _ h1]
theorem updO_comm (ρ : Fr) {x y : Option Nat} (v u : Value) (h : ∀ d, x = some d → y ≠ some d) : updO (updO ρ x v) y u = updO (updO ρ y u) x v := by
  cases x with
  | none => rfl
  | some d =>
    cases y with
    | none => rfl
    | some c => exact upd_comm ρ v u (fun e => h d rfl (by rw [e]))
theorem ev_updO {ρ : Fr} {dst : Option Nat} {v : Value} {x : Operand} (h : ∀ d, dst = some d → x ≠ .tmp d) : ev (updO ρ dst v) x = ev ρ x := by
  cases dst with
  | none => rfl
  | some d =>
    cases x with
    | tmp t => exact upd_other _ _ (fun e => h d rfl (by rw [e]))
    | _ => rfl

/-- The frame at a call's start. -/
def argF : List Value → Fr
  | [], _ => undef
  | v :: _, 0 => v
  | _ :: l, n + 1 => argF l n

structure Rel (N : Nat) (a : Act) (ρ : Fr) (ds : List Nat) : Prop where
  size : a.tmps.size = N
  val : ∀ i, a.tmps.getD i undef = ρ i
  defers : a.defers = ds.map fun r => { target := .collected r, args := #[] }

theorem Rel.eval {N : Nat} {a : Act} {ρ : Fr} {ds : List Nat} (h : Rel N a ρ ds) : a.eval = ev ρ := by
  funext x
  cases x with
  | tmp t => exact h.val t
  | _ => rfl

def dstOK (N : Nat) : Option Nat → Bool
  | some d => Nat.blt d N
  | none => true

theorem Rel.put {N : Nat} {a : Act} {ρ : Fr} {ds : List Nat} (h : Rel N a ρ ds) {dst : Option Nat} (hd : dstOK N dst = true) (v : Value) : Rel N (a.put dst v) (updO ρ dst v) ds := by
  cases dst with
  | none => exact h
  | some d =>
    have hlt : d < N := by simpa [dstOK, Nat.blt_eq] using hd
    refine ⟨by simp [Act.put, h.size], fun i => ?_, h.defers⟩
    show (a.tmps.setIfInBounds d v).getD i undef = upd ρ d v i
    by_cases hi : i = d
    · subst hi
      rw [upd_same]
      simp [h.size, hlt]
    · rw [upd_other _ _ hi, ← h.val i]
      simp [Array.getElem?_setIfInBounds_ne (Ne.symm hi)]

theorem rel_enter (args : List Value) (N : Nat) (hN : args.length ≤ N) : Rel N { tmps := args.toArray ++ Array.replicate (N - args.toArray.size) undef, defers := [] } (argF args) [] := by
  refine ⟨by simp; omega, fun i => ?_, rfl⟩
  have key : ∀ (l : List Value) (i : Nat), (l ++ List.replicate (N - args.length) undef)[i]?.getD undef = argF l i := by
    intro l
    induction l with
    | nil =>
      intro i
      rw [List.nil_append, List.getElem?_replicate]
      split <;> rfl
    | cons v l ih =>
      intro i
      cases i with
      | zero => rfl
      | succ i => simpa [argF] using ih i
  have h := key args i
  rw [List.getElem?_append] at h
  simp only [Array.getD_eq_getD_getElem?, Array.getElem?_append, List.size_toArray, List.getElem?_toArray, List.getElem?_replicate, Array.getElem?_replicate] at h ⊢
  exact h

/-! ### The heap as a list of known blocks -/

structure Kn (e w : World) (H : Hp) : Prop where
  os : w.os = e.os
  tape : w.tape = e.tape
  output : w.output = e.output
  nodup : (H.map Prod.fst).Nodup
  has : ∀ x ∈ H, w.heap[x.1]? = some x.2

theorem Kn.lt {e w : World} {H : Hp} (h : Kn e w H) {x : Nat × Obj} (hx : x ∈ H) : x.1 < w.heap.size := (Array.getElem?_eq_some_iff.1 (h.has x hx)).1

theorem Kn.alloc {e w : World} {H : Hp} (h : Kn e w H) (o : Obj) : Kn e { w with heap := w.heap.push o } ((w.heap.size, o) :: H) := by
  refine ⟨h.os, h.tape, h.output, ?_, ?_⟩
  · rw [List.map_cons, List.nodup_cons]
    refine ⟨fun hm => ?_, h.nodup⟩
    obtain ⟨x, hx, e⟩ := List.mem_map.1 hm
    have := h.lt hx
    rw [e] at this
    exact absurd this (Nat.lt_irrefl _)
  · intro x hx
    rcases List.mem_cons.1 hx with rfl | hx
    · simp
    · have hlt := h.lt hx
      have := h.has x hx
      simp only [Array.getElem?_push]
      rw [if_neg (by omega)]
      exact this

theorem Kn.drawn {e w : World} {H : Hp} (h : Kn e w H) (n : Nat) : Kn e { w with drawn := n } H := ⟨h.os, h.tape, h.output, h.nodup, h.has⟩

theorem Kn.perm {e w : World} {H H' : Hp} (h : Kn e w H) (hp : H.Perm H') : Kn e w H' :=
  ⟨h.os, h.tape, h.output, (hp.map Prod.fst).nodup_iff.1 h.nodup, fun x hx => h.has x (hp.mem_iff.2 hx)⟩

theorem Kn.left {e w : World} {H G : Hp} (h : Kn e w (H ++ G)) : Kn e w H :=
  ⟨h.os, h.tape, h.output, by have := h.nodup; rw [List.map_append] at this; exact (List.nodup_append.1 this).1, fun x hx => h.has x (List.mem_append_left _ hx)⟩

/-- A known block, and the list with it turned. -/
inductive Zip : Hp → Nat → Obj → (Obj → Hp) → Prop
  | head {b : Nat} {o : Obj} {R : Hp} : Zip ((b, o) :: R) b o (fun o' => (b, o') :: R)
  | tail {y : Nat × Obj} {R : Hp} {b : Nat} {o : Obj} {f : Obj → Hp} (h : Zip R b o f) : Zip (y :: R) b o (fun o' => y :: f o')
  | inl {A B : Hp} {b : Nat} {o : Obj} {f : Obj → Hp} (h : Zip A b o f) : Zip (A ++ B) b o (fun o' => f o' ++ B)
  | inr {A B : Hp} {b : Nat} {o : Obj} {f : Obj → Hp} (h : Zip B b o f) : Zip (A ++ B) b o (fun o' => A ++ f o')

theorem Zip.mem {H : Hp} {b : Nat} {o : Obj} {f : Obj → Hp} (h : Zip H b o f) : (b, o) ∈ H := by
  induction h with
  | head => exact List.mem_cons_self
  | tail _ ih => exact List.mem_cons_of_mem _ ih
  | inl _ ih => exact List.mem_append_left _ ih
  | inr _ ih => exact List.mem_append_right _ ih

theorem Zip.keys {H : Hp} {b : Nat} {o : Obj} {f : Obj → Hp} (h : Zip H b o f) (o' : Obj) : (f o').map Prod.fst = H.map Prod.fst := by
  induction h with
  | head => rfl
  | tail _ ih => simp [ih]
  | inl _ ih => simp [ih]
  | inr _ ih => simp [ih]

theorem Zip.turned {H : Hp} {b : Nat} {o : Obj} {f : Obj → Hp} (h : Zip H b o f) (hn : (H.map Prod.fst).Nodup) (o' : Obj) : ∀ x ∈ f o', x = (b, o') ∨ (x ∈ H ∧ x.1 ≠ b) := by
  induction h with
  | @head b o R =>
    intro x hx
    rcases List.mem_cons.1 hx with rfl | hx
    · exact .inl rfl
    · refine .inr ⟨List.mem_cons_of_mem _ hx, fun e => ?_⟩
      rw [List.map_cons, List.nodup_cons] at hn
      exact hn.1 (List.mem_map.2 ⟨x, hx, e⟩)
  | @tail y R b o f h ih =>
    rw [List.map_cons, List.nodup_cons] at hn
    intro x hx
    rcases List.mem_cons.1 hx with rfl | hx
    · refine .inr ⟨List.mem_cons_self, fun e => hn.1 ?_⟩
      rw [e]
      exact List.mem_map.2 ⟨(b, o), h.mem, rfl⟩
    · rcases ih hn.2 x hx with h1 | h1
      · exact .inl h1
      · exact .inr ⟨List.mem_cons_of_mem _ h1.1, h1.2⟩
  | @inl A B b o f h ih =>
    rw [List.map_append, List.nodup_append] at hn
    intro x hx
    rcases List.mem_append.1 hx with hx | hx
    · rcases ih hn.1 x hx with h1 | h1
      · exact .inl h1
      · exact .inr ⟨List.mem_append_left _ h1.1, h1.2⟩
    · refine .inr ⟨List.mem_append_right _ hx, fun e => hn.2.2 b (List.mem_map.2 ⟨(b, o), h.mem, rfl⟩) x.1 (List.mem_map.2 ⟨x, hx, rfl⟩) e.symm⟩
  | @inr A B b o f h ih =>
    rw [List.map_append, List.nodup_append] at hn
    intro x hx
    rcases List.mem_append.1 hx with hx | hx
    · refine .inr ⟨List.mem_append_left _ hx, fun e => hn.2.2 x.1 (List.mem_map.2 ⟨x, hx, rfl⟩) b (List.mem_map.2 ⟨(b, o), h.mem, rfl⟩) e⟩
    · rcases ih hn.2.1 x hx with h1 | h1
      · exact .inl h1
      · exact .inr ⟨List.mem_append_right _ h1.1, h1.2⟩

theorem Kn.set {e w w' : World} {H : Hp} {b : Nat} {o o' : Obj} {f : Obj → Hp} (h : Kn e w H) (hz : Zip H b o f) (h1 : w'.os = w.os) (h2 : w'.tape = w.tape) (h3 : w'.output = w.output)
    (hb : w'.heap[b]? = some o') (hs : ∀ k, k ≠ b → w'.heap[k]? = w.heap[k]?) : Kn e w' (f o') := by
  refine ⟨h1.trans h.os, h2.trans h.tape, h3.trans h.output, by rw [hz.keys]; exact h.nodup, fun x hx => ?_⟩
  rcases hz.turned h.nodup o' x hx with rfl | ⟨hm, hne⟩
  · exact hb
  · rw [hs _ hne]; exact h.has x hm

/-- One block taken out. -/
inductive Pick : Hp → Nat × Obj → Hp → Prop
  | head {x : Nat × Obj} {R : Hp} : Pick (x :: R) x R
  | tail {y x : Nat × Obj} {R R' : Hp} (h : Pick R x R') : Pick (y :: R) x (y :: R')
  | inl {A A' B : Hp} {x : Nat × Obj} (h : Pick A x A') : Pick (A ++ B) x (A' ++ B)
  | inr {A B B' : Hp} {x : Nat × Obj} (h : Pick B x B') : Pick (A ++ B) x (A ++ B')
theorem Pick.perm {H : Hp} {x : Nat × Obj} {R : Hp} (h : Pick H x R) : H.Perm (x :: R) := by
  induction h with
  | head => exact .refl _
  | tail _ ih => exact (ih.cons _).trans (.swap _ _ _)
  | inl _ ih => exact ih.append_right _
  | inr _ ih => exact (ih.append_left _).trans List.perm_middle

inductive Picks : Hp → Hp → Hp → Prop
  | nil {H : Hp} : Picks H [] H
  | cons {H R R' : Hp} {x : Nat × Obj} {xs : Hp} (h : Pick H x R) (t : Picks R xs R') : Picks H (x :: xs) R'
theorem Picks.perm {H xs R : Hp} (h : Picks H xs R) : H.Perm (xs ++ R) := by
  induction h with
  | nil => exact .refl _
  | cons h _ ih => exact h.perm.trans (ih.cons _)

/-! ### Operations -/

structure Cx where
  P : Program
  N : Nat
  r : Option Nat
  e : World

abbrev Post := Exit → Fr → List Nat → Hp → Prop

def fence (r : Option Nat) : Fence := { fn := fun _ => True, depth := none, alive := false, round := r }

def lift (C : Cx) (Q : Post) : Exit → Act → World → Prop := fun x a w => ∃ ρ ds H, Rel C.N a ρ ds ∧ Kn C.e w H ∧ Q x ρ ds H

def retOnly (R : Value → World → Prop) : Ending → World → Prop
  | .returned v, w => R v w
  | _, _ => False

def knK (e : World) (K : Value → Hp → Prop) : Value → World → Prop := fun v w => ∃ H, Kn e w H ∧ K v H

def callsK (P : Program) (e : World) (f : FuncId) (args : Array Value) (H : Hp) (K : Value → Hp → Prop) : Prop :=
  ∀ w, Kn e w H → CallsIn (fence none) 0 P f args w (retOnly (knK e K))

def resOK (C : Cx) (K : Value → Hp → Prop) : Result Next → Prop
  | .ok (.value v) w' => knK C.e K v w'
  | .ok .skip w' => knK C.e K undef w'
  | .ok (.enter f args) w' => CallsIn (fence none) 0 C.P f args w' (retOnly (knK C.e K))
  | .ok (.round l f tmps assign body) w' => RoundIn (fence none) 0 C.P l f tmps assign body w' (retOnly (knK C.e K))
  | _ => False

def Ex (C : Cx) (o : Oper) (K : Value → Hp → Prop) (ρ : Fr) (H : Hp) : Prop :=
  ∀ w, Kn C.e w H → resOK C K ((execOp (ev ρ) o).run C.P w)

def Rd (P : Program) (e : World) (ρ : Fr) (H : Hp) (o : Oper) (v : Value) : Prop :=
  ∀ w, Kn e w H → (execOp (ev ρ) o).run P w = .ok (.value v) w

theorem Rd.ex {C : Cx} {o : Oper} {K : Value → Hp → Prop} {ρ : Fr} {H : Hp} {v : Value} (h : Rd C.P C.e ρ H o v) (hk : K v H) : Ex C o K ρ H := by
  intro w hw
  rw [h w hw]
  exact ⟨H, hw, hk⟩

theorem Rd.more {P : Program} {e : World} {ρ : Fr} {H H' : Hp} {o : Oper} {v : Value} (h : Rd P e ρ H o v) (hs : ∀ x ∈ H, x ∈ H') (hn : (H.map Prod.fst).Nodup) : Rd P e ρ H' o v :=
  fun w hw => h w ⟨hw.os, hw.tape, hw.output, hn, fun x hx => hw.has x (hs x hx)⟩

theorem Ex.mono {C : Cx} {o : Oper} {K K' : Value → Hp → Prop} {ρ : Fr} {H : Hp} (h : Ex C o K ρ H) (hk : ∀ v H, K v H → K' v H) : Ex C o K' ρ H := by
  intro w hw
  have := h w hw
  cases hr : (execOp (ev ρ) o).run C.P w with
  | halt h w' => rw [hr] at this; exact this
  | ok n w' =>
    rw [hr] at this
    have mk : ∀ e w, retOnly (knK C.e K) e w → retOnly (knK C.e K') e w := fun e w => by
      cases e with
      | returned v => exact fun ⟨H, h1, h2⟩ => ⟨H, h1, hk _ _ h2⟩
      | _ => exact id
    cases n with
    | value v => obtain ⟨H', h1, h2⟩ := this; exact ⟨H', h1, hk _ _ h2⟩
    | skip => obtain ⟨H', h1, h2⟩ := this; exact ⟨H', h1, hk _ _ h2⟩
    | enter f args => exact CallsIn.mono this mk
    | round l f tmps assign body => exact RoundIn.mono this mk
    | _ => exact this

theorem Ex.notDefer {C : Cx} {o : Oper} {K : Value → Hp → Prop} {ρ : Fr} {H : Hp} {w : World} (h : Ex C o K ρ H) (hw : Kn C.e w H) : ∀ c, o.op ≠ .defer c := by
  intro c hc
  have := h w hw
  obtain ⟨dst, op, type, pos, after, guard⟩ := o
  simp only at hc
  subst hc
  simp only [execOp, Sem.run_bind] at this
  cases hr : (resolve (ev ρ) c type).run C.P w with
  | ok d w' => rw [hr] at this; exact this
  | halt h w' => rw [hr] at this; exact this

theorem Ex.wpIn {C : Cx} {o : Oper} {K : Value → Hp → Prop} {ρ : Fr} {H : Hp} {ds : List Nat} {a : Act} {w : World} {next : Act → World → Prop} {Q : Exit → Act → World → Prop}
    (h : Ex C o K ρ H) (ha : Rel C.N a ρ ds) (hw : Kn C.e w H) (hn : ∀ v H' w', Kn C.e w' H' → K v H' → next (a.put o.dst v) w') :
    o.wpIn (fence C.r) 0 C.P a w next Q := by
  refine ⟨fun f _ => trivial, ?_⟩
  have he : Oper.semAt (fence C.r).round a.eval o = execOp (ev ρ) o := by rw [ha.eval]; exact Oper.semAt_eq _ _ _ (h.notDefer hw)
  rw [he]
  have h1 := h w hw
  cases hr : (execOp (ev ρ) o).run C.P w with
  | halt h w' => rw [hr] at h1; exact h1.elim
  | ok n w' =>
    rw [hr] at h1
    cases n with
    | value v => obtain ⟨H', h2, h3⟩ := h1; exact hn _ _ _ h2 h3
    | skip => obtain ⟨H', h2, h3⟩ := h1; exact hn _ _ _ h2 h3
    | enter f args =>
      refine ⟨fun h => by simp [fence] at h, ?_⟩
      refine CallsIn.mono (F := fence C.r) (show CallsIn (fence C.r) 0 C.P f args w' _ from h1) fun e w'' hR => ?_
      cases e with
      | returned v => obtain ⟨H', h2, h3⟩ := hR; exact hn _ _ _ h2 h3
      | _ => exact hR.elim
    | round l f tmps assign body =>
      refine ⟨fun h => by simp [fence] at h, ?_⟩
      refine RoundIn.mono (F := fence C.r) (show RoundIn (fence C.r) 0 C.P l f tmps assign body w' _ from h1) fun e w'' hR => ?_
      cases e with
      | returned v => obtain ⟨H', h2, h3⟩ := hR; exact hn _ _ _ h2 h3
      | _ => exact hR.elim
    | _ => exact h1.elim

/-- The value of a guard's operation. -/
def gval (N : Nat) (ops : Array Oper) (ρ : Fr) (j : Nat) : Option Bool :=
  match (ops[j]?).bind (·.dst) with
  | some d => bif Nat.blt d N then (match ρ d with | .bool b => some b | _ => none) else none
  | none => none

def wantV (N : Nat) (ops : Array Oper) (ρ : Fr) (o : Oper) : Bool := Region.wanted o (gval N ops ρ)

theorem Rel.yielded {N : Nat} {a : Act} {ρ : Fr} {ds : List Nat} (h : Rel N a ρ ds) (ops : Array Oper) : yielded ops a.tmps = gval N ops ρ := by
  funext j
  unfold Go.yielded gval
  cases hd : (ops[j]?).bind (·.dst) with
  | none => rfl
  | some d =>
    simp only [Option.bind_some]
    by_cases hlt : d < N
    · have hb : Nat.blt d N = true := by simpa [Nat.blt_eq] using hlt
      have hs : d < a.tmps.size := by rw [h.size]; exact hlt
      have hv := h.val d
      simp only [Array.getD_eq_getD_getElem?, Array.getElem?_eq_getElem hs, Option.getD_some] at hv
      simp only [Array.getElem?_eq_getElem hs, hb, cond_true, hv]
      cases ρ d <;> rfl
    · have hb : Nat.blt d N = false := by
        cases hb : Nat.blt d N
        · rfl
        · exact absurd (by simpa [Nat.blt_eq] using hb) hlt
      have hs : a.tmps[d]? = none := Array.getElem?_eq_none (by rw [h.size]; exact Nat.le_of_not_lt hlt)
      simp [hs, hb]

def wpO (C : Cx) (ops : Array Oper) (Q : Post) (rest : List Oper) (ρ : Fr) (ds : List Nat) (H : Hp) : Prop :=
  ∀ a w, Rel C.N a ρ ds → Kn C.e w H → wpListIn (fence C.r) 0 C.P ops (lift C Q) rest a w

section ops
variable {C : Cx} {ops : Array Oper} {Q : Post} {rest : List Oper} {o : Oper} {ρ : Fr} {ds : List Nat} {H : Hp}

theorem wpO_nil (h : Q .normal ρ ds H) : wpO C ops Q [] ρ ds H := fun _ _ ha hw => ⟨ρ, ds, H, ha, hw, h⟩

theorem wpO_ex (hw : wantV C.N ops ρ o = true) (hd : dstOK C.N o.dst = true) (h : Ex C o (fun v H' => wpO C ops Q rest (updO ρ o.dst v) ds H') ρ H) : wpO C ops Q (o :: rest) ρ ds H := by
  intro a w ha hk
  unfold wpListIn
  have hw' : Region.wanted o (gval C.N ops ρ) = true := hw
  rw [ha.yielded, if_pos hw']
  exact h.wpIn ha hk fun v H' w' h1 h2 => h2 _ _ (ha.put hd v) h1

theorem wpO_rd {v : Value} (hw : wantV C.N ops ρ o = true) (hd : dstOK C.N o.dst = true) (hr : Rd C.P C.e ρ H o v) (h : wpO C ops Q rest (updO ρ o.dst v) ds H) : wpO C ops Q (o :: rest) ρ ds H :=
  wpO_ex hw hd (hr.ex h)

theorem wpO_skip (hw : wantV C.N ops ρ o = false) (hd : dstOK C.N o.dst = true) (h : wpO C ops Q rest (updO ρ o.dst undef) ds H) : wpO C ops Q (o :: rest) ρ ds H := by
  intro a w ha hk
  unfold wpListIn
  rw [ha.yielded, if_neg (by rw [show Region.wanted o (gval C.N ops ρ) = wantV C.N ops ρ o from rfl, hw]; simp)]
  exact ⟨fun f _ => trivial, h _ _ (ha.put hd undef) hk⟩

section lits
variable {op : Op} {ty : TypeId} {pos : String} {af : Array Edge} {g : Option (Nat × Bool)} {d : Nat} {v : Value}
theorem wpO_rds (hw : wantV C.N ops ρ ⟨some d, op, ty, pos, af, g⟩ = true) (hd : Nat.blt d C.N = true) (hr : Rd C.P C.e ρ H ⟨some d, op, ty, pos, af, g⟩ v) (h : wpO C ops Q rest (upd ρ d v) ds H) :
    wpO C ops Q (⟨some d, op, ty, pos, af, g⟩ :: rest) ρ ds H := wpO_rd hw hd hr h
theorem wpO_exs (hw : wantV C.N ops ρ ⟨some d, op, ty, pos, af, g⟩ = true) (hd : Nat.blt d C.N = true) (h : Ex C ⟨some d, op, ty, pos, af, g⟩ (fun v H' => wpO C ops Q rest (upd ρ d v) ds H') ρ H) :
    wpO C ops Q (⟨some d, op, ty, pos, af, g⟩ :: rest) ρ ds H := wpO_ex hw hd h
theorem wpO_exn (hw : wantV C.N ops ρ ⟨none, op, ty, pos, af, g⟩ = true) (h : Ex C ⟨none, op, ty, pos, af, g⟩ (fun _ H' => wpO C ops Q rest ρ ds H') ρ H) :
    wpO C ops Q (⟨none, op, ty, pos, af, g⟩ :: rest) ρ ds H := wpO_ex hw rfl h
theorem wpO_sks (hw : wantV C.N ops ρ ⟨some d, op, ty, pos, af, g⟩ = false) (hd : Nat.blt d C.N = true) (h : wpO C ops Q rest (upd ρ d undef) ds H) :
    wpO C ops Q (⟨some d, op, ty, pos, af, g⟩ :: rest) ρ ds H := wpO_skip hw hd h
theorem wpO_skn (hw : wantV C.N ops ρ ⟨none, op, ty, pos, af, g⟩ = false) (h : wpO C ops Q rest ρ ds H) :
    wpO C ops Q (⟨none, op, ty, pos, af, g⟩ :: rest) ρ ds H := wpO_skip hw rfl h
end lits

end ops

/-! ### Code -/

def wpC (C : Cx) (c : Code) (Q : Post) (ρ : Fr) (ds : List Nat) (H : Hp) : Prop :=
  ∀ a w, Rel C.N a ρ ds → Kn C.e w H → c.wpIn (fence C.r) 0 C.P (lift C Q) a w

def Then (C : Cx) (y : Code) (Q : Post) : Post
  | .normal, ρ, ds, H => wpC C y Q ρ ds H
  | x, ρ, ds, H => Q x ρ ds H

def InBlock (id : Nat) (Q : Post) : Post
  | .exit i, ρ, ds, H => if i = id then Q .normal ρ ds H else Q (.exit i) ρ ds H
  | x, ρ, ds, H => Q x ρ ds H

section code
variable {C : Cx} {Q : Post} {ρ : Fr} {ds : List Nat} {H : Hp} {c y : Code}

theorem wpC_mono {Q' : Post} (h : wpC C c Q ρ ds H) (hq : ∀ x ρ ds H, Q x ρ ds H → Q' x ρ ds H) : wpC C c Q' ρ ds H :=
  fun a w ha hw => Go.wpIn_mono (h a w ha hw) fun _ _ _ ⟨ρ', ds', H', h1, h2, h3⟩ => ⟨ρ', ds', H', h1, h2, hq _ _ _ _ h3⟩
theorem wpC_perm {H' : Hp} (hp : H.Perm H') (h : wpC C c Q ρ ds H') : wpC C c Q ρ ds H := fun a w ha hk => h a w ha (hk.perm hp)
theorem wpC_skip (h : Q .normal ρ ds H) : wpC C .skip Q ρ ds H := fun _ _ ha hw => wpIn_skip ⟨ρ, ds, H, ha, hw, h⟩
theorem wpC_label {l : Nat} (h : Q .normal ρ ds H) : wpC C (.label l) Q ρ ds H := fun _ _ ha hw => wpIn_label ⟨ρ, ds, H, ha, hw, h⟩
theorem wpC_exit {id : Nat} (h : Q (.exit id) ρ ds H) : wpC C (.exit id) Q ρ ds H := fun _ _ ha hw => wpIn_exit ⟨ρ, ds, H, ha, hw, h⟩
theorem wpC_ret (h : Q .ret ρ ds H) : wpC C .ret Q ρ ds H := fun _ _ ha hw => wpIn_ret ⟨ρ, ds, H, ha, hw, h⟩
theorem wpC_seq {x : Code} (h : wpC C x (Then C y Q) ρ ds H) : wpC C (.seq x y) Q ρ ds H := by
  intro a w ha hw
  refine wpIn_seq (Go.wpIn_mono (h a w ha hw) ?_)
  rintro e a' w' ⟨ρ', ds', H', h1, h2, h3⟩
  cases e with
  | normal => exact h3 _ _ h1 h2
  | _ => exact ⟨ρ', ds', H', h1, h2, h3⟩
theorem wpC_cond_true {x : Code} {g : Operand} (hg : ev ρ g = .bool true) (h : wpC C x Q ρ ds H) : wpC C (.cond g x y) Q ρ ds H :=
  fun a w ha hw => wpIn_cond_true (by rw [ha.eval]; exact hg) (h a w ha hw)
theorem wpC_cond_false {x : Code} {g : Operand} (hg : ev ρ g = .bool false) (h : wpC C y Q ρ ds H) : wpC C (.cond g x y) Q ρ ds H :=
  fun a w ha hw => wpIn_cond_false (by rw [ha.eval]; exact hg) (h a w ha hw)
theorem wpC_block {id : Nat} (h : wpC C c (InBlock id Q) ρ ds H) : wpC C (.block id c) Q ρ ds H := by
  intro a w ha hw
  refine wpIn_block (Go.wpIn_mono (h a w ha hw) ?_)
  rintro e a' w' ⟨ρ', ds', H', h1, h2, h3⟩
  cases e with
  | exit i =>
    simp only [Exit.inBlock]
    simp only [InBlock] at h3
    by_cases hi : i = id
    · rw [if_pos hi]; rw [if_pos hi] at h3; exact ⟨ρ', ds', H', h1, h2, h3⟩
    · rw [if_neg hi]; rw [if_neg hi] at h3; exact ⟨ρ', ds', H', h1, h2, h3⟩
  | _ => exact ⟨ρ', ds', H', h1, h2, h3⟩
theorem wpC_region {id : Nat} {l : List Oper} (h : wpO C l.toArray Q l ρ ds H) : wpC C (.region id l.toArray false) Q ρ ds H :=
  fun a w ha hw => wpIn_region_lit (h a w ha hw)

theorem then_normal {y : Code} (h : wpC C y Q ρ ds H) : Then C y Q .normal ρ ds H := h
theorem then_ret (h : Q .ret ρ ds H) : Then C y Q .ret ρ ds H := h
theorem then_exit {i : Nat} (h : Q (.exit i) ρ ds H) : Then C y Q (.exit i) ρ ds H := h
theorem inBlock_normal {id : Nat} (h : Q .normal ρ ds H) : InBlock id Q .normal ρ ds H := h
theorem inBlock_ret {id : Nat} (h : Q .ret ρ ds H) : InBlock id Q .ret ρ ds H := h
theorem inBlock_same {id : Nat} (h : Q .normal ρ ds H) : InBlock id Q (.exit id) ρ ds H := by simpa [InBlock] using h
theorem inBlock_other {id i : Nat} (hi : Nat.beq i id = false) (h : Q (.exit i) ρ ds H) : InBlock id Q (.exit i) ρ ds H := by
  have : i ≠ id := fun e => by subst e; simp at hi
  simpa [InBlock, this] using h

/-- A loop: S k: the slots that hold at a round's head; F k: the blocks; more ghosts in k. -/
def setL : List (Nat × Value) → Fr → Fr
  | [], ρ => ρ
  | (d, v) :: l, ρ => upd (setL l ρ) d v

def slots (ρ : Fr) : List (Nat × Value) → Prop
  | [] => True
  | (d, v) :: l => ρ d = v ∧ slots ρ l

theorem setL_self {ρ : Fr} : ∀ {l : List (Nat × Value)}, slots ρ l → setL l ρ = ρ
  | [], _ => rfl
  | (d, v) :: l, ⟨h1, h2⟩ => by
    show upd (setL l ρ) d v = ρ
    rw [setL_self h2, ← h1, upd_self]

def LoopPost (Q : Post) (I : Fr → List Nat → Hp → Prop) : Post
  | .normal, ρ, ds, H => I ρ ds H
  | x, ρ, ds, H => Q x ρ ds H

/-- blocks left out -/
inductive Sb : Hp → Hp → Prop
  | refl {F : Hp} : Sb F F
  | skip {F R : Hp} {x : Nat × Obj} (h : Sb F R) : Sb F (x :: R)
theorem Sb.perm {F R : Hp} (h : Sb F R) : ∃ G, R.Perm (F ++ G) := by
  induction h with
  | refl => exact ⟨[], by simp⟩
  | skip _ ih => obtain ⟨G, h⟩ := ih; exact ⟨_ :: G, (h.cons _).trans List.perm_middle.symm⟩
def Drp (X H : Hp) : Prop := ∃ G, H.Perm (X ++ G)
theorem loop_ret {I : Fr → List Nat → Hp → Prop} (h : Q .ret ρ ds H) : LoopPost Q I .ret ρ ds H := h
theorem loop_exit {I : Fr → List Nat → Hp → Prop} {i : Nat} (h : Q (.exit i) ρ ds H) : LoopPost Q I (.exit i) ρ ds H := h

end code

/-! ### Results, a function's body, a call -/

inductive ResL (P : Program) (e : World) (ρ : Fr) (R : Hp) : List ResultVar → List Value → Prop
  | nil : ResL P e ρ R [] []
  | tmp {t : Tmp} {v : Value} {l : List ResultVar} {vs : List Value} (h : ρ t = v) (hl : ResL P e ρ R l vs) : ResL P e ρ R (.tmp t :: l) (v :: vs)
  | cell {c : Tmp} {a : Addr} {t : TypeId} {v : Value} {l : List ResultVar} {vs : List Value} (ha : ρ c = .pointer (some a)) (h : ∀ w, Kn e w R → (loadVar t a).run P w = .ok v w) (hl : ResL P e ρ R l vs) : ResL P e ρ R (.cell c t :: l) (v :: vs)

def packV : List Value → Value
  | [v] => v
  | vs => .tuple vs.toArray

def resF (tmps : Array Value) : ResultVar → Sem Value
  | .tmp t => pure (tmps.getD t undef)
  | .cell a t => do loadVar t (← asAddr (tmps.getD a undef))

theorem resF_run {P : Program} {e : World} {ρ : Fr} {R : Hp} {tmps : Array Value} (ht : ∀ i, tmps.getD i undef = ρ i) {w : World} (hw : Kn e w R) {l : List ResultVar} {vs : List Value}
    (h : ResL P e ρ R l vs) : (l.mapM (resF tmps)).run P w = .ok vs w := by
  induction h with
  | nil => rfl
  | @tmp t v l vs h _ ih =>
    have h1 : (resF tmps (.tmp t)).run P w = .ok v w := by show (Pure.pure (tmps.getD t undef) : Sem Value).run P w = _; rw [ht, h]; rfl
    rw [List.mapM_cons, Sem.run_bind, h1, Result.andThen_ok, Sem.run_bind, ih]
    rfl
  | @cell c a t v l vs ha h _ ih =>
    have h0 : (asAddr (tmps.getD c undef)).run P w = .ok a w := by rw [ht, ha]; rfl
    have h1 : (resF tmps (.cell c t)).run P w = .ok v w := by
      show Sem.run P (asAddr (tmps.getD c undef) >>= fun x => loadVar t x) w = _
      rw [Sem.run_bind, h0, Result.andThen_ok, h w hw]
    rw [List.mapM_cons, Sem.run_bind, h1, Result.andThen_ok, Sem.run_bind, ih]
    rfl

theorem results_run {P : Program} {e : World} {ρ : Fr} {R : Hp} {fn : Func} {tmps : Array Value} (ht : ∀ i, tmps.getD i undef = ρ i) {l : List ResultVar} {vs : List Value}
    (h : ResL P e ρ R l vs) (hl : fn.results = l.toArray) {w : World} (hw : Kn e w R) : (results fn tmps).run P w = .ok (packV vs) w := by
  have e1 : results fn tmps = (fn.results.mapM (resF tmps) >>= fun vs => pure (if h : vs.size = 1 then vs[0] else .tuple vs)) := by
    unfold results
    congr 1
  rw [e1, hl, Array.mapM_eq_mapM_toList, Sem.run_bind, Sem.run_map, resF_run ht hw h]
  cases vs with
  | nil => rfl
  | cons v vs => cases vs <;> rfl

/-- What follows may forget blocks. -/
def Drop (K : Value → Hp → Prop) (v : Value) (R : Hp) : Prop := ∃ R' G, R.Perm (R' ++ G) ∧ K v R'
/-- calls that are put off, each over -/
abbrev dfs (ds : List Nat) : Hp := ds.map fun D => (D, .deferred (some []))
def RetP (P : Program) (e : World) (res : List ResultVar) (K : Value → Hp → Prop) : Post := fun x ρ ds H =>
  (x = .normal ∨ x = .ret) ∧ ∃ R vs, H.Perm (dfs ds ++ R) ∧ ResL P e ρ R res vs ∧ Drop K (packV vs) R

theorem leave_run {C : Cx} {fn : Func} {a : Act} {ρ : Fr} {res : List ResultVar} {K : Value → Hp → Prop} (hres : fn.results = res.toArray) (ht : ∀ i, a.tmps.getD i undef = ρ i)
    {R : Hp} {vs : List Value} (hr : ResL C.P C.e ρ R res vs) (hK : Drop K (packV vs) R) :
    ∀ (ds : List Nat) (H : Hp) (w : World), Kn C.e w H → H.Perm (dfs ds ++ R) →
      LeavesInM (fence none) 0 C.P fn a.tmps (retOnly (knK C.e K)) (ds.map fun r => { target := .collected r, args := #[] }) .returning w := by
  intro ds
  induction ds with
  | nil =>
    intro H w hw hp
    obtain ⟨R', G, hpp, hk⟩ := hK
    have hwR : Kn C.e w R := hw.perm (by simpa [dfs] using hp)
    exact ⟨packV vs, results_run ht hr hres hwR, R', (hwR.perm hpp).left, hk⟩
  | cons D ds ih =>
    intro H w hw hp
    have hk : Kn C.e w ((D, .deferred (some [])) :: (dfs ds ++ R)) := hw.perm hp
    have hD := hk.has _ List.mem_cons_self
    refine ⟨by simp, .inl ⟨D, _, rfl, run_takeDeferred hD, ih (dfs ds ++ R) _ ?_ (.refl _)⟩⟩
    have hlt := hk.lt List.mem_cons_self
    have hnd := hk.nodup
    rw [List.map_cons, List.nodup_cons] at hnd
    refine ⟨hw.os, hw.tape, hw.output, hnd.2, fun x hx => ?_⟩
    have hne : x.1 ≠ D := fun e => hnd.1 (List.mem_map.2 ⟨x, hx, e⟩)
    exact (World.putObj_heap_other hne).trans (hk.has x (List.mem_cons_of_mem _ hx))

theorem calls_body {P : Program} {e : World} {f : FuncId} {fn : Func} {c : Code} {N : Nat} {args : List Value} {H : Hp} {res : List ResultVar} {K : Value → Hp → Prop}
    (hf : P.funcs[f]? = some fn) (hb : fn.body = some c) (hN : fn.ntmps = N) (hres : fn.results = res.toArray) (hlen : args.length ≤ N)
    (h : wpC ⟨P, N, none, e⟩ c (RetP P e res K) (argF args) [] H) : callsK P e f args.toArray H K := by
  intro w hw
  refine callsIn_of_wp_marks hf hb trivial ?_ rfl
  rw [hN]
  refine Go.wpIn_mono (h _ _ (rel_enter args N hlen) hw) ?_
  rintro x a w' ⟨ρ, ds, H', hr, hk, hx, R, vs, hp, hv, hK⟩
  have := leave_run (C := ⟨P, N, none, e⟩) (fn := fn) (a := a) hres hr.val hv hK ds H' w' hk hp
  rw [← hr.defers] at this
  rcases hx with rfl | rfl
  · exact this
  · exact this

theorem callsK_perm {P : Program} {e : World} {f : FuncId} {args : Array Value} {H H' : Hp} {K : Value → Hp → Prop} (hp : H.Perm H') (h : callsK P e f args H' K) : callsK P e f args H K :=
  fun w hw => h w (hw.perm hp)
/-- What a law's row wants. -/
theorem below_of_kn {w w' : World} (h : Kn w w' (w.heap.toList.zipIdx.map fun x => (x.2, x.1))) : Below w.heap.size w w' := by
  have hb : ∀ k, k < w.heap.size → w'.heap[k]? = w.heap[k]? := fun k hk => by
    have hm : (k, w.heap[k]) ∈ (w.heap.toList.zipIdx.map fun x => (x.2, x.1)) := by
      refine List.mem_map.2 ⟨(w.heap[k], k), ?_, rfl⟩
      rw [List.mem_zipIdx_iff_getElem?]
      simp [hk]
    rw [h.has _ hm]
    simp [hk]
  refine ⟨h.os, h.tape, h.output, ?_, hb⟩
  rcases Nat.eq_zero_or_pos w.heap.size with h0 | h0
  · omega
  · have h1 := hb (w.heap.size - 1) (by omega)
    have h2 : w.heap[w.heap.size - 1]? = some (w.heap[w.heap.size - 1]'(by omega)) := Array.getElem?_eq_getElem _
    rw [h2] at h1
    have := (Array.getElem?_eq_some_iff.1 h1).1
    omega

/-- The whole heap of a world, as a list. -/
def all (w : World) : Hp := w.heap.toList.zipIdx.map fun x => (x.2, x.1)
theorem kn_all (w : World) : Kn w w (all w) := by
  refine ⟨rfl, rfl, rfl, ?_, fun x hx => ?_⟩
  · have : (all w).map Prod.fst = List.range w.heap.size := by
      unfold all
      rw [List.map_map]
      have : (Prod.fst ∘ fun x : Obj × Nat => (x.2, x.1)) = Prod.snd := rfl
      rw [this, List.zipIdx_map_snd]
      simp [List.range_eq_range']
    rw [this]
    exact List.nodup_range
  · obtain ⟨⟨o, k⟩, hm, rfl⟩ := List.mem_map.1 hx
    rw [List.mem_zipIdx_iff_getElem?] at hm
    simpa using hm
theorem mem_all {w : World} {k : Nat} {o : Obj} (h : w.heap[k]? = some o) : (k, o) ∈ all w := by
  refine List.mem_map.2 ⟨(o, k), ?_, rfl⟩
  rw [List.mem_zipIdx_iff_getElem?]
  simpa using h

/-- A law's contract out of its call. -/
theorem law_calls {P : Program} {f : FuncId} {args : Array Value} {w : World} {K : Value → Hp → Prop} {v : Value} (h : callsK P w f args (all w) K)
    (hK : ∀ x H, K x H → x = v ∧ ∃ G, H.Perm (all w ++ G)) : Calls P f args w fun e w' => e = .returned v ∧ Below w.heap.size w w' := by
  refine (callsIn_wide (n := 0)).1 ((show CallsIn Fence.wide 0 P f args w _ from h w (kn_all w)).mono ?_)
  rintro x w' hx
  cases x with
  | returned u =>
    obtain ⟨H, hk, hu⟩ := hx
    obtain ⟨rfl, G, hp⟩ := hK _ _ hu
    exact ⟨rfl, below_of_kn (hk.perm hp).left⟩
  | _ => exact hx.elim
end Go.Vl

namespace Go.Vl
open Go.RowKit

/-! ### Types, reckoned -/
def leaf (P : Program) (t : TypeId) : Bool :=
  match P.underlying t with
  | some (.struct _) => false
  | some (.array _ _) => false
  | some _ => true
  | none => false
def aggB (P : Program) (t : TypeId) : Bool :=
  match P.underlying t with
  | some (.struct _) => true
  | some (.array _ _) => true
  | _ => false
def sz (P : Program) (t : TypeId) : Option Nat := (P.info? t).map (·.size)
/-- where a field lies; its size, if it is a struct or an array -/
def fld (P : Program) (s : TypeId) (f : Nat) : Option (Nat × Option Nat) :=
  match P.underlying s with
  | some (.struct fs) =>
    match fs[f]? with
    | some x => match P.info? x.type with
      | some i => if leaf P x.type then some (x.offset, none) else if aggB P x.type then some (x.offset, some i.size) else none
      | none => none
    | none => none
  | _ => none
/-- a field's place behind an address -/
def fldA (P : Program) (s : TypeId) (f : Nat) : Option Nat :=
  match P.underlying s with
  | some (.struct fs) =>
    match fs[f]? with
    | some x => match P.info? x.type with
      | some i => if i.size = 0 then none else some x.offset
      | none => none
    | none => none
  | _ => none
def zval (P : Program) (t : TypeId) : Option Value := (P.info? t).bind (·.zero)

abbrev cellsO (l : List Value) (T : TypeId) : Obj := .cells l.toArray T (0, 0)

/-- n cells from place o on -/
inductive TakeR : List Value → Nat → Nat → List Value → Prop
  | nil {l : List Value} : TakeR l 0 0 []
  | cons {v : Value} {l r : List Value} {n : Nat} (h : TakeR l 0 n r) : TakeR (v :: l) 0 (n + 1) (v :: r)
  | skip {v : Value} {l r : List Value} {o n : Nat} (h : TakeR l o n r) : TakeR (v :: l) (o + 1) n r

section
variable {P : Program} {e : World} {ρ : Fr} {H : Hp} {d : Option Nat} {ty : TypeId} {pos : String} {af : Array Edge} {g : Option (Nat × Bool)}

theorem isAgg_leaf {t : TypeId} (h : leaf P t = true) (w : World) : (isAgg t).run P w = .ok false w := by
  unfold leaf at h
  unfold isAgg underlying
  simp only [Sem.run_bind, run_program, Result.andThen_ok]
  cases hu : P.underlying t with
  | none => rw [hu] at h; cases h
  | some x => rw [hu] at h; cases x <;> first | rfl | cases h
theorem isAgg_agg {t : TypeId} (h : aggB P t = true) (w : World) : (isAgg t).run P w = .ok true w := by
  unfold aggB at h
  unfold isAgg underlying
  simp only [Sem.run_bind, run_program, Result.andThen_ok]
  cases hu : P.underlying t with
  | none => rw [hu] at h; cases h
  | some x => rw [hu] at h; cases x <;> first | rfl | cases h
theorem sizeOf_run {t n : TypeId} (h : sz P t = some n) (w : World) : (sizeOf t).run P w = .ok n w := by
  unfold sz at h
  unfold sizeOf typeInfo
  simp only [Sem.run_bind, run_program, Result.andThen_ok]
  cases hu : P.info? t with
  | none => rw [hu] at h; cases h
  | some i => rw [hu] at h; cases h; rfl
theorem underlying_run {t : TypeId} {x : TypeDesc} (h : P.underlying t = some x) (w : World) : (Go.underlying t).run P w = .ok x w := by
  unfold Go.underlying
  simp only [Sem.run_bind, run_program, Result.andThen_ok, h]
  rfl
theorem zero_run {t : TypeId} {z : Value} (h : zval P t = some z) (w : World) : (zeroValue t).run P w = .ok z w := by
  unfold zval at h
  unfold zeroValue typeInfo
  simp only [Sem.run_bind, run_program, Result.andThen_ok]
  cases hu : P.info? t with
  | none => rw [hu] at h; cases h
  | some i => rw [hu] at h; simp at h; simp [h]

theorem cell_kn {w : World} (hw : Kn e w H) {b o : Nat} {cs : Array Value} {T : TypeId} {fz : Nat × Nat} (hm : (b, Obj.cells cs T fz) ∈ H) : w.cell? ⟨b, o, none⟩ = cs[o]? := by
  have := hw.has _ hm
  simp only at this
  simp [World.cell?, this]

theorem load_run {w : World} {a : Addr} {v : Value} (h : w.cell? a = some v) : (load a).run P w = .ok v w := by simp [h]

theorem addr_add (b o n : Nat) : (Addr.mk b o none).add n = ⟨b, o + n, none⟩ := by
  unfold Addr.add
  split
  · rename_i h; rw [h]; rfl
  · rfl

theorem loadCellsFrom_run {w : World} {b o : Nat} : ∀ (l : List Value) (i : Nat) (acc : Array Value), (∀ j v, l[j]? = some v → w.cell? ⟨b, o + (i + j), none⟩ = some v) →
    (loadCellsFrom ⟨b, o, none⟩ i l.length acc).run P w = .ok (acc ++ l.toArray) w := by
  intro l
  induction l with
  | nil => intro i acc _; simp [loadCellsFrom]
  | cons v l ih =>
    intro i acc h
    have h0 : w.cell? ⟨b, o + i, none⟩ = some v := by simpa using h 0 v rfl
    have h1 := ih (i + 1) (acc.push v) (fun j u hj => by have := h (j + 1) u (by simpa using hj); rwa [show i + (j + 1) = i + 1 + j from by omega] at this)
    simp only [List.length_cons, loadCellsFrom, addr_add, Sem.run_bind, load_run h0, Result.andThen_ok, h1]
    simp

theorem takeN_get {l r : List Value} {o n : Nat} (h : TakeR l o n r) : r.length = n ∧ ∀ j v, r[j]? = some v → l[o + j]? = some v := by
  induction h with
  | nil => exact ⟨rfl, by simp⟩
  | cons _ ih =>
    refine ⟨by simp [ih.1], fun j v hj => ?_⟩
    cases j with
    | zero => simpa using hj
    | succ j => have := ih.2 j v (by simpa using hj); simpa using this
  | @skip v l r o n _ ih =>
    refine ⟨ih.1, fun j u hj => ?_⟩
    rw [show o + 1 + j = (o + j) + 1 from by omega, List.getElem?_cons_succ]
    exact ih.2 j u hj

theorem loadVar_leaf {w : World} {t : TypeId} {a : Addr} {v : Value} (hl : leaf P t = true) (h : w.cell? a = some v) : (loadVar t a).run P w = .ok v w := by
  unfold loadVar
  simp only [Sem.run_bind, isAgg_leaf hl, Result.andThen_ok, Bool.false_eq_true, if_false]
  exact load_run h
theorem loadVar_agg {w : World} (hw : Kn e w H) {t n : TypeId} {b o : Nat} {l r : List Value} {T : TypeId} {fz : Nat × Nat} (hl : aggB P t = true) (hs : sz P t = some n)
    (hm : (b, Obj.cells l.toArray T fz) ∈ H) (hr : TakeR l o n r) : (loadVar t ⟨b, o, none⟩).run P w = .ok (.agg r.toArray) w := by
  obtain ⟨hn, hg⟩ := takeN_get hr
  have := loadCellsFrom_run (P := P) (w := w) (b := b) (o := o) r 0 #[] (fun j v hj => by
    rw [cell_kn hw hm]
    simpa using hg j v hj)
  unfold loadVar loadCells
  simp only [Sem.run_bind, isAgg_agg hl, Result.andThen_ok, if_true, sizeOf_run hs]
  rw [← hn, this]
  simp

/-! ### Operations that only read -/
theorem rd_move {x : Operand} {v : Value} (h : ev ρ x = v) : Rd P e ρ H ⟨d, .move x, ty, pos, af, g⟩ v := fun w _ => by rw [← h]; rfl
theorem rd_assign {x : Operand} {v : Value} (h : ev ρ x = v) : Rd P e ρ H ⟨d, .assign x, ty, pos, af, g⟩ v := fun w _ => by rw [← h]; rfl
theorem rd_pick_t {c a b : Operand} {v : Value} (hc : ev ρ c = .bool true) (h : ev ρ a = v) : Rd P e ρ H ⟨d, .pick c a b, ty, pos, af, g⟩ v := fun w _ => by
  subst h; simp [execOp, hc, asBool]
theorem rd_pick_f {c a b : Operand} {v : Value} (hc : ev ρ c = .bool false) (h : ev ρ b = v) : Rd P e ρ H ⟨d, .pick c a b, ty, pos, af, g⟩ v := fun w _ => by
  subst h; simp [execOp, hc, asBool]

theorem rd_load {x : Operand} {t : TypeId} {b o : Nat} {cs : Array Value} {T : TypeId} {fz : Nat × Nat} {v : Value} (hx : ev ρ x = .pointer (some ⟨b, o, none⟩)) (hl : leaf P t = true)
    (hm : (b, Obj.cells cs T fz) ∈ H) (hc : cs[o]? = some v) : Rd P e ρ H ⟨d, .load t x, ty, pos, af, g⟩ v := fun w hw => by
  have h0 : (Instr.loadAt t (ev ρ x)).run P w = .ok v w := by
    rw [hx]
    show Sem.run P (loadVar t ⟨b, o, none⟩) w = _
    exact loadVar_leaf hl ((cell_kn hw hm).trans hc)
  simp [execOp, h0]
theorem rd_loadN {x : Operand} {t n : TypeId} {b o : Nat} {l r : List Value} {T : TypeId} {fz : Nat × Nat} (hx : ev ρ x = .pointer (some ⟨b, o, none⟩)) (hl : aggB P t = true) (hs : sz P t = some n)
    (hm : (b, Obj.cells l.toArray T fz) ∈ H) (hc : TakeR l o n r) : Rd P e ρ H ⟨d, .load t x, ty, pos, af, g⟩ (.agg r.toArray) := fun w hw => by
  have h0 : (Instr.loadAt t (ev ρ x)).run P w = .ok (.agg r.toArray) w := by
    rw [hx]
    show Sem.run P (loadVar t ⟨b, o, none⟩) w = _
    exact loadVar_agg hw hl hs hm hc
  simp [execOp, h0]

theorem rd_nilCheck {x : Operand} {a : Addr} (hx : ev ρ x = .pointer (some a)) : Rd P e ρ H ⟨d, .nilCheck x, ty, pos, af, g⟩ (.pointer (some a)) := fun w _ => by simp [execOp, hx]

theorem rd_fieldAddr {x : Operand} {s f off b o : Nat} (hx : ev ρ x = .pointer (some ⟨b, o, none⟩)) (hf : fldA P s f = some off) :
    Rd P e ρ H ⟨d, .fieldAddr s x f, ty, pos, af, g⟩ (.pointer (some ⟨b, o + off, none⟩)) := fun w _ => by
  have h0 : (Instr.fieldAt s (ev ρ x) f).run P w = .ok (.pointer (some ⟨b, o + off, none⟩)) w := by
    rw [hx]
    unfold fldA at hf
    cases hu : P.underlying s with
    | none => rw [hu] at hf; cases hf
    | some x =>
      rw [hu] at hf
      cases x with
      | struct fs =>
        simp only at hf
        cases hfs : fs[f]? with
        | none => rw [hfs] at hf; cases hf
        | some y =>
          rw [hfs] at hf
          simp only at hf
          cases hi : P.info? y.type with
          | none => rw [hi] at hf; cases hf
          | some i =>
            rw [hi] at hf
            simp only at hf
            split at hf
            · cases hf
            · rename_i hz
              simp only [Option.some.injEq] at hf
              have hsz : sz P y.type = some i.size := by simp [sz, hi]
              simp only [Instr.fieldAt, Sem.run_bind, underlying_run hu, Result.andThen_ok, hfs, Instr.sureAddr, Sem.run_pure, fieldPlace, sizeOf_run hsz, hz, if_false, addr_add, hf]
      | _ => cases hf
  simp [execOp, h0]

theorem rd_field {x : Operand} {s f off : Nat} {cs : Array Value} {v : Value} (hx : ev ρ x = .agg cs) (hf : fld P s f = some (off, none)) (hc : cs[off]? = some v) :
    Rd P e ρ H ⟨d, .field s x f, ty, pos, af, g⟩ v := fun w _ => by
  have h0 : (Instr.field s (ev ρ x) f).run P w = .ok v w := by
    rw [hx]
    unfold fld at hf
    cases hu : P.underlying s with
    | none => rw [hu] at hf; cases hf
    | some x =>
      rw [hu] at hf
      cases x with
      | struct fs =>
        simp only at hf
        cases hfs : fs[f]? with
        | none => rw [hfs] at hf; cases hf
        | some y =>
          rw [hfs] at hf
          simp only at hf
          cases hi : P.info? y.type with
          | none => rw [hi] at hf; cases hf
          | some i =>
            rw [hi] at hf
            simp only at hf
            split at hf
            · rename_i hl
              simp only [Option.some.injEq, Prod.mk.injEq, and_true] at hf
              simp [Instr.field, underlying_run hu, hfs, asAgg, part, isAgg_leaf hl, hf, hc]
            · split at hf <;> simp at hf
      | _ => cases hf
  simp [execOp, h0]
theorem rd_fieldN {x : Operand} {s f off n : Nat} {cs : Array Value} (hx : ev ρ x = .agg cs) (hf : fld P s f = some (off, some n)) :
    Rd P e ρ H ⟨d, .field s x f, ty, pos, af, g⟩ (.agg (cs.extract off (off + n))) := fun w _ => by
  have h0 : (Instr.field s (ev ρ x) f).run P w = .ok (.agg (cs.extract off (off + n))) w := by
    rw [hx]
    unfold fld at hf
    cases hu : P.underlying s with
    | none => rw [hu] at hf; cases hf
    | some x =>
      rw [hu] at hf
      cases x with
      | struct fs =>
        simp only at hf
        cases hfs : fs[f]? with
        | none => rw [hfs] at hf; cases hf
        | some y =>
          rw [hfs] at hf
          simp only at hf
          cases hi : P.info? y.type with
          | none => rw [hi] at hf; cases hf
          | some i =>
            rw [hi] at hf
            simp only at hf
            split at hf
            · simp at hf
            · split at hf
              · rename_i ha
                simp only [Option.some.injEq, Prod.mk.injEq] at hf
                have hsz : sz P y.type = some i.size := by simp [sz, hi]
                simp [Instr.field, underlying_run hu, hfs, asAgg, part, isAgg_agg ha, sizeOf_run hsz, hf.1, hf.2]
              · cases hf
      | _ => cases hf
  simp [execOp, h0]

theorem rd_extract {x : Operand} {i : Nat} {vs : Array Value} {v : Value} (hx : ev ρ x = .tuple vs) (hv : vs[i]? = some v) : Rd P e ρ H ⟨d, .extract x i, ty, pos, af, g⟩ v := fun w _ => by
  simp [execOp, hx, Instr.extract, hv]
theorem rd_makeFunc {fn : Fn} {first captured : Array Operand} {f' c' : Array Value} (h1 : first.map (ev ρ) = f') (h2 : captured.map (ev ρ) = c') : Rd P e ρ H ⟨d, .makeFunc fn first captured, ty, pos, af, g⟩ (.func fn f' c') := fun w _ => by
  subst h1; subst h2; simp [execOp, Instr.makeFunc]

section binops
variable {t yt : TypeId} {x y : Operand} {k : IntKind} {a b : Int}
theorem rd_arith {op : BinOp} {r : Int} (hx : ev ρ x = .int k a) (hy : ev ρ y = .int k b) (hr : (op = .add ∧ r = k.wrap (a + b)) ∨ (op = .sub ∧ r = k.wrap (a - b)) ∨ (op = .mul ∧ r = k.wrap (a * b))) :
    Rd P e ρ H ⟨d, .binOp op t x y yt, ty, pos, af, g⟩ (.int k r) := fun w _ => by
  rcases hr with ⟨rfl, rfl⟩ | ⟨rfl, rfl⟩ | ⟨rfl, rfl⟩ <;> simp [execOp, hx, hy, eqGuard, binOp, Op.intArith]
theorem wrap64_id {n : Int} (h1 : -9223372036854775808 ≤ n) (h2 : n ≤ 9223372036854775807) : IntKind.i64.wrap n = n := by
  unfold IntKind.wrap
  simp [IntKind.signed, IntKind.bits]
  omega
theorem rd_add64 (hx : ev ρ x = .int .i64 a) (hy : ev ρ y = .int .i64 b) (h1 : -9223372036854775808 ≤ a + b) (h2 : a + b ≤ 9223372036854775807) :
    Rd P e ρ H ⟨d, .binOp .add t x y yt, ty, pos, af, g⟩ (.int .i64 (a + b)) := rd_arith hx hy (.inl ⟨rfl, (wrap64_id h1 h2).symm⟩)
theorem rd_sub64 (hx : ev ρ x = .int .i64 a) (hy : ev ρ y = .int .i64 b) (h1 : -9223372036854775808 ≤ a - b) (h2 : a - b ≤ 9223372036854775807) :
    Rd P e ρ H ⟨d, .binOp .sub t x y yt, ty, pos, af, g⟩ (.int .i64 (a - b)) := rd_arith hx hy (.inr (.inl ⟨rfl, (wrap64_id h1 h2).symm⟩))
theorem rd_addw (hx : ev ρ x = .int k a) (hy : ev ρ y = .int k b) : Rd P e ρ H ⟨d, .binOp .add t x y yt, ty, pos, af, g⟩ (.int k (k.wrap (a + b))) := rd_arith hx hy (.inl ⟨rfl, rfl⟩)
theorem rd_subw (hx : ev ρ x = .int k a) (hy : ev ρ y = .int k b) : Rd P e ρ H ⟨d, .binOp .sub t x y yt, ty, pos, af, g⟩ (.int k (k.wrap (a - b))) := rd_arith hx hy (.inr (.inl ⟨rfl, rfl⟩))
theorem rd_mulw (hx : ev ρ x = .int k a) (hy : ev ρ y = .int k b) : Rd P e ρ H ⟨d, .binOp .mul t x y yt, ty, pos, af, g⟩ (.int k (k.wrap (a * b))) := rd_arith hx hy (.inr (.inr ⟨rfl, rfl⟩))

end binops

theorem rd_not {x : Operand} {t : TypeId} {c : Bool} (hx : ev ρ x = .bool c) : Rd P e ρ H ⟨d, .unOp .not t x, ty, pos, af, g⟩ (.bool (!c)) := fun w _ => by
  simp [execOp, hx, Op.unary]

section nils
variable {t yt el : TypeId} {x y : Operand}
variable {kt et : TypeId}
end nils
end
end Go.Vl
