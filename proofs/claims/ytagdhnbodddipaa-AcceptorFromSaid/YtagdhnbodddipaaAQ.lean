/-
  More of the plain acceptor: where putS puts; From; the operations of a script; Forget's list.
-/
import Derived.Test.YtagdhnbodddipaaA0
namespace Go.Vl
theorem putS_split {x : Sl} : ∀ (L1 L2 : List Sl), (∀ z ∈ L1, z.slot < x.slot) → putS (L1 ++ L2) x = L1 ++ putS L2 x
  | [], _, _ => rfl
  | y :: L1, L2, h => by
    have h1 := putS_split L1 L2 fun z hz => h z (by simp [hz])
    show (if y.slot < x.slot then y :: putS (L1 ++ L2) x else _) = _
    rw [if_pos (h y (by simp)), h1]
    rfl
theorem putS_nil (x : Sl) : putS [] x = [x] := rfl
theorem putS_eq {x y : Sl} {L : List Sl} (h : y.slot = x.slot) : putS (y :: L) x = x :: L := by unfold putS; rw [if_neg (by omega), if_pos h]
theorem putS_gt {x y : Sl} {L : List Sl} (h : x.slot < y.slot) : putS (y :: L) x = x :: y :: L := by unfold putS; rw [if_neg (by omega), if_neg (by omega)]
theorem putS_len {x : Sl} : ∀ (L : List Sl), (putS L x).length ≤ L.length + 1
  | [] => by simp [putS]
  | y :: L => by
    unfold putS
    split
    · have := putS_len (x := x) L; simp; omega
    · split <;> simp
theorem Sorted.uniq {L : List Sl} (h : Sorted L) {x y : Sl} (hx : x ∈ L) (hy : y ∈ L) (he : x.slot = y.slot) : x = y := by
  induction L with
  | nil => cases hx
  | cons z L ih =>
    unfold Sorted at h ih
    rw [List.pairwise_cons] at h
    rcases List.mem_cons.1 hx with rfl | hx
    · rcases List.mem_cons.1 hy with rfl | hy
      · rfl
      · have := h.1 y hy; omega
    · rcases List.mem_cons.1 hy with hy | hy
      · have := h.1 x hx; rw [hy] at he; omega
      · exact ih h.2 hx hy
theorem fromS_len (L : List Sl) (n : Int) : (fromS L n).length ≤ L.length := List.length_filter_le _ _
theorem fromS_mem {L : List Sl} {n : Int} {x : Sl} (h : x ∈ fromS L n) : x ∈ L := (List.mem_filter.1 h).1
/-- a script's operation -/
structure OpS where
  kind : Int
  bal : Bal
  slot : Int
  en : EnC
  stop : Int
def Ac.op (a : Ac) (o : OpS) : Ac :=
  if o.kind = 0 then (a.prepare o.bal o.slot).2.2 else if o.kind = 1 then (a.accept o.bal o.slot o.en).2 else if o.kind = 2 then (a.forget o.slot).2 else a
abbrev Ac.new : Ac := ⟨⟨0, 0⟩, 0, []⟩
theorem Ac.new_ok : Ac.new.ok := ⟨.nil, (fun x h => by cases h), by decide⟩
theorem Ac.prepare_L (a : Ac) (b : Bal) (n : Int) : (a.prepare b n).2.2.L = a.L := by
  unfold Ac.prepare
  split
  · rfl
  · split <;> rfl
theorem Ac.accept_len (a : Ac) (b : Bal) (n : Int) (e : EnC) : (a.accept b n e).2.L.length ≤ a.L.length + 1 := by
  unfold Ac.accept
  split
  · exact Nat.le_succ _
  · split
    · exact Nat.le_succ _
    · split
      · exact Nat.le_succ _
      · exact putS_len _
theorem Ac.forget_len (a : Ac) (n : Int) : (a.forget n).2.L.length ≤ a.L.length := by
  unfold Ac.forget
  split
  · exact Nat.le_refl _
  · exact fromS_len _ _
theorem Ac.op_len (a : Ac) (o : OpS) : (a.op o).L.length ≤ a.L.length + 1 := by
  unfold Ac.op
  split
  · rw [Ac.prepare_L]; exact Nat.le_succ _
  · split
    · exact Ac.accept_len _ _ _ _
    · split
      · exact Nat.le_trans (Ac.forget_len _ _) (Nat.le_succ _)
      · exact Nat.le_succ _
/-- all entries have a property -/
def Ac.all (p : EnC → Prop) (a : Ac) : Prop := ∀ x ∈ a.L, p x.en
theorem Ac.all_prepare {p : EnC → Prop} {a : Ac} (h : a.all p) (b : Bal) (n : Int) : (a.prepare b n).2.2.all p := by unfold Ac.all; rw [Ac.prepare_L]; exact h
theorem Ac.all_accept {p : EnC → Prop} {a : Ac} (h : a.all p) {b : Bal} {n : Int} {e : EnC} (he : p e) : (a.accept b n e).2.all p := by
  unfold Ac.accept
  split
  · exact h
  · split
    · exact h
    · split
      · exact h
      · intro x hx
        rcases putS_mem hx with rfl | hx
        · exact he
        · exact h x hx
theorem Ac.all_forget {p : EnC → Prop} {a : Ac} (h : a.all p) (n : Int) : (a.forget n).2.all p := by
  unfold Ac.forget
  split
  · exact h
  · exact fun x hx => h x (fromS_mem hx)
theorem Ac.all_op {p : EnC → Prop} {a : Ac} (h : a.all p) {o : OpS} (he : p o.en) : (a.op o).all p := by
  unfold Ac.op
  split
  · exact Ac.all_prepare h _ _
  · split
    · exact Ac.all_accept h he
    · split
      · exact Ac.all_forget h _
      · exact h
theorem Ac.op_prom (a : Ac) (o : OpS) : ¬ (a.op o).prom.lt a.prom := by
  unfold Ac.op
  split
  · unfold Ac.prepare
    split
    · exact Bal.lt_irrefl _
    · split
      · exact Bal.lt_irrefl _
      · assumption
  · split
    · unfold Ac.accept
      split
      · exact Bal.lt_irrefl _
      · split
        · exact Bal.lt_irrefl _
        · split
          · exact Bal.lt_irrefl _
          · assumption
    · split
      · unfold Ac.forget
        split <;> exact Bal.lt_irrefl _
      · exact Bal.lt_irrefl _
/-- a state out of a list -/
def fromL (prom : Bal) (first : Int) : List Sl → List Sl → Int × List Sl
  | [], acc => (0, acc)
  | x :: l, acc =>
    if ¬ slotOK x.slot ∨ x.slot < first ∨ ¬ x.bal.ok ∨ prom.lt x.bal then (1, [])
    else if ∃ y ∈ acc, y.slot = x.slot then (5, [])
    else fromL prom first l (putS acc x)
def fromOK (prom : Bal) (first : Int) : Prop := (prom = ⟨0, 0⟩ ∨ prom.ok) ∧ slotOK first
instance (prom : Bal) (first : Int) : Decidable (fromOK prom first) := inferInstanceAs (Decidable (_ ∧ _))
end Go.Vl
