/-
  EQUALITY OF STRUCTS OF PLAIN FIELDS; RANGES OVER MAPS; SLICES THAT CAME IN. Nothing of the seat's program is named here.
-/
import Derived.Test.YtbbobncokpfkmaaVd
import Derived.Laws.IdiomRangeMap
namespace Go.Vl
open Go.RowKit

def partV (P : Program) (t : TypeId) (cs : Array Value) (off : Nat) : Option Value :=
  if leaf P t = true then cs[off]? else if aggB P t = true then (sz P t).map fun n => .agg (cs.extract off (off + n)) else none
theorem partV_run {P : Program} {t : TypeId} {cs : Array Value} {off : Nat} {v : Value} (h : partV P t cs off = some v) (w : World) : (part t cs off).run P w = .ok v w := by
  unfold partV at h
  unfold part
  split at h
  · rename_i hl
    simp only [Sem.run_bind, isAgg_leaf hl, Result.andThen_ok, Bool.false_eq_true, if_false, h]
    rfl
  · split at h
    · rename_i ha
      cases hs : sz P t with
      | none => rw [hs] at h; cases h
      | some n =>
        rw [hs] at h
        simp only [Option.map_some, Option.some.injEq] at h
        subst h
        simp only [Sem.run_bind, isAgg_agg ha, Result.andThen_ok, if_true, sizeOf_run hs]
        rfl
    · cases h

def eqL (P : Program) (E : TypeId → Value → Value → Option Bool) : List Field → Array Value → Array Value → Option Bool
  | [], _, _ => some true
  | f :: fs, xs, ys =>
    if f.name = "_" then none else
    match partV P f.type xs f.offset, partV P f.type ys f.offset with
    | some a, some b => match E f.type a b with
      | some true => eqL P E fs xs ys
      | some false => some false
      | none => none
    | _, _ => none
/-- what a comparison of structs comes to, field by field -/
def andO (a b : Option Bool) : Option Bool :=
  match a with
  | some true => b
  | some false => some false
  | none => none
theorem andO_some (a b : Bool) : andO (some a) (some b) = some (a && b) := by cases a <;> rfl
def eqV (P : Program) : Nat → TypeId → Value → Value → Option Bool
  | 0, _, _, _ => none
  | n + 1, t, x, y =>
    match P.underlying t, x, y with
    | some .bool, .bool a, .bool b => some (a == b)
    | some (.int _), .int k a, .int k' b => if k = k' then some (a == b) else none
    | some .string, .string a, .string b => some (a == b)
    | some (.struct fs), .agg xs, .agg ys => if P.stoodInHeld t = true then none else eqL P (eqV P n) fs.toList xs ys
    | _, _, _ => none

theorem program_run' {P : Program} (w : World) : (program).run P w = .ok P w := rfl

theorem eqL_run {P : Program} {E : TypeId → Value → Value → Option Bool} {S : TypeId → Value → Value → Sem Bool} (hE : ∀ t a b c, E t a b = some c → ∀ w, (S t a b).run P w = .ok c w) {xs ys : Array Value} :
    ∀ (fs : List Field) (c : Bool), eqL P E fs xs ys = some c → ∀ w,
    (do
      for f in fs do
        if f.name ≠ "_" then
          if !(← S f.type (← part f.type xs f.offset) (← part f.type ys f.offset)) then return false
      pure true : Sem Bool).run P w = .ok c w := by
  intro fs
  induction fs with
  | nil => intro c h w; simp only [eqL, Option.some.injEq] at h; subst h; rfl
  | cons f fs ih =>
    intro c h w
    unfold eqL at h
    split at h
    · cases h
    · rename_i hn
      cases h1 : partV P f.type xs f.offset with
      | none => rw [h1] at h; cases h
      | some a =>
        cases h2 : partV P f.type ys f.offset with
        | none => rw [h1, h2] at h; cases h
        | some b =>
          rw [h1, h2] at h
          simp only at h
          cases h3 : E f.type a b with
          | none => rw [h3] at h; cases h
          | some r =>
            rw [h3] at h
            have hS := hE _ _ _ _ h3
            cases r with
            | true =>
              simp only at h
              have h4 := ih c h w
              simp only [List.forIn_cons, Sem.run_bind, ne_eq, hn, not_false_eq_true, if_true, partV_run h1, partV_run h2, Result.andThen_ok, hS, Bool.not_true, Bool.false_eq_true, if_false, Sem.run_pure] at h4 ⊢
              exact h4
            | false =>
              simp only [Option.some.injEq] at h
              subst h
              simp only [List.forIn_cons, Sem.run_bind, ne_eq, hn, not_false_eq_true, if_true, partV_run h1, partV_run h2, Result.andThen_ok, hS, Bool.not_false, if_true, Sem.run_pure]

theorem eqV_run {P : Program} : ∀ (n : Nat) {t : TypeId} {x y : Value} {c : Bool}, eqV P n t x y = some c → ∀ (m : Nat) (w : World), (Op.equalIn (n + m) t x y).run P w = .ok c w := by
  intro n
  induction n with
  | zero => intro t x y c h; cases h
  | succ n ih =>
    intro t x y c h m w
    rw [show n + 1 + m = (n + m) + 1 from by omega]
    unfold eqV at h
    unfold Op.equalIn
    cases hu : P.underlying t with
    | none => rw [hu] at h; cases h
    | some d =>
      rw [hu] at h
      simp only [Sem.run_bind, underlying_run hu, Result.andThen_ok]
      split at h
      · rename_i he; cases he
        simp only [Option.some.injEq] at h; subst h; rfl
      · rename_i he; cases he
        split at h
        · rename_i hk
          simp only [Option.some.injEq] at h; subst h
          simp only [hk, if_true]
          rfl
        · cases h
      · rename_i he; cases he
        simp only [Option.some.injEq] at h; subst h; rfl
      · rename_i fs xs ys he; cases he
        split at h
        · cases h
        · rename_i hs
          have h1 := eqL_run (S := Op.equalIn (n + m)) (fun t a b c hc w => ih hc m w) _ _ h w
          simp only [Sem.run_bind, program_run', Result.andThen_ok, hs, Bool.false_eq_true, if_false]
          rw [← h1]
          simp only [Array.forIn_toList, Sem.run_bind]
      · cases h

section
variable {P : Program} {e : World} {ρ : Fr} {H : Hp} {d : Option Nat} {ty : TypeId} {pos : String} {af : Array Edge} {g : Option (Nat × Bool)} {t yt : TypeId} {x y : Operand}
theorem eqGuard_run {op : BinOp} {X Y : Array Value} (ho : op = .eql ∨ op = .neq) (h : P.eqGuardType P.depth t = false) (w : World) : (eqGuard op t x y (.agg X) (.agg Y)).run P w = .ok () w := by
  rcases ho with rfl | rfl <;>
  · simp only [eqGuard, Bool.not_true, Bool.false_eq_true, if_false, Sem.run_bind, program_run', Result.andThen_ok, h, Bool.not_false, if_true]
    rfl
theorem rd_eqS {X Y : Array Value} {c : Bool} (hx : ev ρ x = .agg X) (hy : ev ρ y = .agg Y) (hg : P.eqGuardType P.depth t = false) (h : eqV P 4 t (.agg X) (.agg Y) = some c) :
    Rd P e ρ H ⟨d, .binOp .eql t x y yt, ty, pos, af, g⟩ (.bool c) := fun w _ => by
  have h1 : (Op.equal t (.agg X) (.agg Y)).run P w = .ok c w := eqV_run 4 h 9996 w
  show Sem.run P (do pure (Next.value (← (do eqGuard .eql t x y (ev ρ x) (ev ρ y); binOp .eql t (ev ρ x) (ev ρ y))))) w = _
  rw [hx, hy, Sem.run_bind, Sem.run_bind, eqGuard_run (.inl rfl) hg]
  show ((do pure (.bool (← Op.equal t (.agg X) (.agg Y))) : Sem Value).run P w).andThen _ = _
  rw [Sem.run_bind, h1]
  rfl
theorem rd_neS {X Y : Array Value} {c v : Bool} (hx : ev ρ x = .agg X) (hy : ev ρ y = .agg Y) (hg : P.eqGuardType P.depth t = false) (h : eqV P 4 t (.agg X) (.agg Y) = some c) (hv : (!c) = v) :
    Rd P e ρ H ⟨d, .binOp .neq t x y yt, ty, pos, af, g⟩ (.bool v) := fun w _ => by
  subst hv
  have h1 : (Op.equal t (.agg X) (.agg Y)).run P w = .ok c w := eqV_run 4 h 9996 w
  show Sem.run P (do pure (Next.value (← (do eqGuard .neq t x y (ev ρ x) (ev ρ y); binOp .neq t (ev ρ x) (ev ρ y))))) w = _
  rw [hx, hy, Sem.run_bind, Sem.run_bind, eqGuard_run (.inr rfl) hg]
  show ((do pure (.bool (!(← Op.equal t (.agg X) (.agg Y)))) : Sem Value).run P w).andThen _ = _
  rw [Sem.run_bind, h1]
  rfl
end

/-! ### Ranges over maps keyed by integers, which the loop does not write -/

def keyIs (n : Int) : Value → Bool
  | .int _ m => m == n
  | _ => false
theorem key_inj {L : List MapEntry} (hn : (L.map (·.key)).Nodup) {a c : MapEntry} (ha : a ∈ L) (hc : c ∈ L) (hac : a.key = c.key) : a = c := by
  induction L with
  | nil => cases ha
  | cons z L ih =>
    rw [List.map_cons, List.nodup_cons] at hn
    rcases List.mem_cons.1 ha with rfl | ha'
    · rcases List.mem_cons.1 hc with rfl | hc'
      · rfl
      · exact absurd (List.mem_map.2 ⟨c, hc', hac.symm⟩) hn.1
    · rcases List.mem_cons.1 hc with rfl | hc'
      · exact absurd (List.mem_map.2 ⟨a, ha', hac⟩) hn.1
      · exact ih hn.2 ha' hc'

def IterM (q : IntKind) (bm : Nat) (es : Array MapEntry) (clk : Nat) (last : Option (Int × Value)) (left : List (Int × Value)) (o : Obj) : Prop :=
  ∃ seen, o = .mapIter (some bm) clk seen clk ∧ ((es.toList.filter fun x => !seen.contains x.born).map fun x => (x.key, x.val)) = left.map (fun p => (.int q p.1, p.2)) ∧
    ∀ p, last = some p → ∃ x ∈ es.toList, x.key = .int q p.1 ∧ x.val = p.2 ∧ seen.back? = some x.born

section
variable {C : Cx} {ρ : Fr} {H : Hp} {d : Option Nat} {ty : TypeId} {pos : String} {af : Array Edge} {g : Option (Nat × Bool)} {K : Value → Hp → Prop}
variable {q : IntKind} {b bi clk : Nat} {es : Array MapEntry} {l : List (Int × Value)} {x : Operand}

theorem ex_range {t kt et : TypeId} (hx : ev ρ x = .map (some b)) (ht : C.P.underlying t = some (.map kt et)) (hm : (b, Obj.map es clk) ∈ H) (hM : MapI q es clk l)
    (h : ∀ bi o, IterM q b es clk none l o → K (.pointer (some ⟨bi, 0, none⟩)) ((bi, o) :: H)) : Ex C ⟨d, .range t x, ty, pos, af, g⟩ K ρ H := fun w hw => by
  have h0 := run_range_map w t kt et b es clk ht (hw.has _ hm)
  have h1 : (execOp (ev ρ) ⟨d, .range t x, ty, pos, af, g⟩).run C.P w = .ok (.value (.pointer (some ⟨w.heap.size, 0, none⟩))) { w with heap := w.heap.push (.mapIter (some b) clk #[] clk) } := by
    rw [← hx] at h0
    simp only [execOp, Sem.run_bind, h0, Result.andThen_ok]
    rfl
  rw [h1]
  refine ⟨_, hw.alloc _, h _ _ ⟨#[], rfl, ?_, fun p hp => by cases hp⟩⟩
  rw [← hM.ent]
  congr 1
  rw [List.filter_eq_self]
  intro a _
  simp

theorem ex_next_end {last : Option (Int × Value)} {o : Obj} {f : Obj → Hp} (hx : ev ρ x = .pointer (some ⟨bi, 0, none⟩)) (hz : Zip H bi o f) (hm : (b, Obj.map es clk) ∈ H) (hM : MapI q es clk l) (hI : IterM q b es clk last [] o)
    (h : K (.tuple #[.bool false]) H) : Ex C ⟨d, .next x false, ty, pos, af, g⟩ K ρ H := fun w hw => by
  obtain ⟨seen, rfl, hs, _⟩ := hI
  have hi := hw.has _ hz.mem
  have hb := hw.has _ hm
  simp only at hi hb
  have e0 : es.filter (fun e => !seen.contains e.born) = #[] := by
    apply Array.toList_inj.1
    rw [Array.toList_filter]
    simpa using hs
  have h0 : (Instr.next (.pointer (some ⟨bi, 0, none⟩)) false ty).run C.P w = .ok (.tuple #[.bool false]) w := by
    simp only [Instr.next, getObj, Sem.run_bind, Sem.run, hi, hb, Result.andThen, next_test_false seen es clk clk hM.clock (Nat.le_refl _), Bool.false_eq_true, if_false, e0]
    simp [choose, Sem.run, Question.forced]
  have h1 : (execOp (ev ρ) ⟨d, .next x false, ty, pos, af, g⟩).run C.P w = .ok (.value (.tuple #[.bool false])) w := by
    rw [← hx] at h0
    simp only [execOp, Sem.run_bind, h0, Result.andThen_ok]
    rfl
  rw [h1]
  exact ⟨_, hw, h⟩

theorem choose_run {P : Program} (w : World) (n : Nat) (h : 0 < n) : ∃ j m, j < n ∧ (choose (Question.mapNext n)).run P w = .ok j { w with drawn := m } := by
  by_cases hf : n ≤ 1
  · exact ⟨0, w.drawn, h, by simp [choose, Sem.run, Question.forced, hf]⟩
  · exact ⟨_, w.drew.drawn, Nat.mod_lt _ (by omega), by
      simp only [choose, Sem.run, Question.forced, decide_eq_true_eq, hf, if_false, Question.cut]
      rfl⟩

theorem ex_next_more {last : Option (Int × Value)} {left : List (Int × Value)} {o : Obj} {f : Obj → Hp} (hx : ev ρ x = .pointer (some ⟨bi, 0, none⟩)) (hz : Zip H bi o f) (hm : (b, Obj.map es clk) ∈ H) (hM : MapI q es clk l)
    (hI : IterM q b es clk last left o) (hl : 0 < left.length)
    (h : ∀ p ∈ left, ∀ o', IterM q b es clk (some p) (left.filter fun y => decide (y.1 ≠ p.1)) o' → K (.tuple #[.bool true, .int q p.1, p.2]) (f o')) : Ex C ⟨d, .next x false, ty, pos, af, g⟩ K ρ H := fun w hw => by
  obtain ⟨seen, rfl, hs, _⟩ := hI
  have hi := hw.has _ hz.mem
  have hb := hw.has _ hm
  simp only at hi hb
  have hL : (leftOf es seen).toList = es.toList.filter fun x => !seen.contains x.born := by unfold leftOf; rw [Array.toList_filter]
  have hlen : (leftOf es seen).size = left.length := by
    have := congrArg List.length hs
    rw [← hL] at this
    simpa using this
  have hmem : ∀ x ∈ (leftOf es seen).toList, x.born < clk := fun x hx => hM.clock x (mem_left hx).1
  have e1 : (leftOf es seen).filter (fun x => decide (x.born < clk)) = leftOf es seen := Array.filter_eq_self.2 (fun x hx => by simpa using hmem x (by simpa using hx))
  have e2 : (leftOf es seen).filter (fun x => decide (x.born ≥ clk)) = #[] := by
    rw [Array.filter_eq_empty_iff]
    intro x hx
    have := hmem x (by simpa using hx)
    simp
    omega
  have hne : (leftOf es seen).isEmpty = false := by rw [Array.isEmpty_eq_false_iff]; intro hc; rw [hc] at hlen; simp at hlen; omega
  obtain ⟨j, m, hj, hch⟩ := choose_run (P := C.P) w (leftOf es seen).size (by omega)
  have hlt := hw.lt hz.mem
  simp only at hlt
  have hset : (setObj bi (.mapIter (some b) clk (seen.push (leftOf es seen)[j].born) clk)).run C.P { w with drawn := m } = .ok () { w with drawn := m, heap := w.heap.setIfInBounds bi (.mapIter (some b) clk (seen.push (leftOf es seen)[j].born) clk) } :=
    by simp [setObj, Sem.run, hi]
  have h0 : (Instr.next (.pointer (some ⟨bi, 0, none⟩)) false ty).run C.P w = .ok (.tuple #[.bool true, (leftOf es seen)[j].key, (leftOf es seen)[j].val]) { w with drawn := m, heap := w.heap.setIfInBounds bi (.mapIter (some b) clk (seen.push (leftOf es seen)[j].born) clk) } := by
    have hg : ∀ {β : Type} (k : Obj → Sem β), ((getObj bi >>= k).run C.P w) = (k (.mapIter (some b) clk seen clk)).run C.P w := fun k => by simp [Sem.run_bind, getObj, Sem.run, hi]
    have hg2 : ∀ {β : Type} (k : Obj → Sem β), ((getObj b >>= k).run C.P w) = (k (.map es clk)).run C.P w := fun k => by simp [Sem.run_bind, getObj, Sem.run, hb]
    unfold Instr.next
    simp only [hg, hg2, next_test_false seen es clk clk hM.clock (Nat.le_refl _), Bool.false_eq_true, if_false]
    have e1' : (es.filter fun e => !seen.contains e.born).filter (fun x => decide (x.born < clk)) = leftOf es seen := e1
    have e2' : (es.filter fun e => !seen.contains e.born).filter (fun x => decide (x.born ≥ clk)) = #[] := e2
    simp only [e1', e2', Array.append_empty, hne, Bool.false_eq_true, if_false, Array.empty_append, Array.size_map, Sem.run_bind, hch, Result.andThen_ok, Array.getElem?_map, Array.getElem?_eq_getElem hj, Option.map_some, hset]
    rfl
  have h1 : (execOp (ev ρ) ⟨d, .next x false, ty, pos, af, g⟩).run C.P w = .ok (.value (.tuple #[.bool true, (leftOf es seen)[j].key, (leftOf es seen)[j].val])) { w with drawn := m, heap := w.heap.setIfInBounds bi (.mapIter (some b) clk (seen.push (leftOf es seen)[j].born) clk) } := by
    rw [← hx] at h0
    simp only [execOp, Sem.run_bind, h0, Result.andThen_ok]
    rfl
  rw [h1]
  have hjl : j < left.length := by omega
  have hx' : (leftOf es seen)[j] ∈ (leftOf es seen).toList := by simp
  obtain ⟨hxe, hxs⟩ := mem_left hx'
  have hp : (leftOf es seen)[j].key = .int q left[j].1 ∧ (leftOf es seen)[j].val = left[j].2 := by
    have h2 : ((leftOf es seen).toList.map fun x => (x.key, x.val))[j]? = (left.map fun p => (Value.int q p.1, p.2))[j]? := by rw [hL, hs]
    simp only [List.getElem?_map, Array.getElem?_toList, Array.getElem?_eq_getElem hj, List.getElem?_eq_getElem hjl, Option.map_some, Option.some.injEq, Prod.mk.injEq] at h2
    exact h2
  have hw2 : Kn C.e { w with drawn := m, heap := w.heap.setIfInBounds bi (.mapIter (some b) clk (seen.push (leftOf es seen)[j].born) clk) } (f (.mapIter (some b) clk (seen.push (leftOf es seen)[j].born) clk)) := by
    refine (hw.drawn m).set hz rfl rfl rfl ?_ fun k hk => ?_
    · simp [hlt]
    · simp [Array.getElem?_setIfInBounds_ne (Ne.symm hk)]
  refine ⟨_, hw2, ?_⟩
  rw [hp.1, hp.2]
  refine h left[j] (List.getElem_mem hjl) _ ⟨_, rfl, ?_, fun p hpe => ?_⟩
  · -- the entries that are left
    have hkeys : (es.toList.map (·.key)).Nodup := by
      have e3 : es.toList.map (·.key) = (l.map Prod.fst).map (Value.int q) := by
        have := congrArg (List.map Prod.fst) hM.ent
        simp only [List.map_map] at this ⊢
        exact this
      rw [e3]
      exact List.Pairwise.map _ (fun a b hab h => hab (by injection h)) hM.keys
    have hborn : ∀ y ∈ es.toList, (y.born == (leftOf es seen)[j].born) = keyIs left[j].1 y.key := by
      intro y hy
      obtain ⟨p, hpl, hyk⟩ : ∃ p ∈ l, y.key = Value.int q p.1 := by
        have : (y.key, y.val) ∈ es.toList.map (fun x => (x.key, x.val)) := List.mem_map.2 ⟨y, hy, rfl⟩
        rw [hM.ent] at this
        obtain ⟨p, hpl, hpe⟩ := List.mem_map.1 this
        exact ⟨p, hpl, (congrArg Prod.fst hpe).symm⟩
      by_cases hyb : y.born = (leftOf es seen)[j].born
      · have := born_inj hM.born hy hxe hyb
        rw [hyb, this, hp.1]
        simp [keyIs]
      · have hk : ¬ p.1 = left[j].1 := fun hk => hyb (by
          have : y = (leftOf es seen)[j] := key_inj hkeys hy hxe (by rw [hyk, hp.1, hk])
          rw [this])
        rw [hyk]
        rw [beq_false_of_ne hyb]; exact (beq_false_of_ne hk).symm
    have e4 : (es.toList.filter fun x => !(seen.push (leftOf es seen)[j].born).contains x.born) = (es.toList.filter fun x => !seen.contains x.born).filter fun x => !keyIs left[j].1 x.key := by
      rw [List.filter_filter]
      apply List.filter_congr
      intro y hy
      rw [contains_push, hborn y hy]
      cases keyIs left[j].1 y.key <;> simp
    rw [e4]
    have e5 : ((es.toList.filter fun x => !seen.contains x.born).filter fun x => !keyIs left[j].1 x.key).map (fun x => (x.key, x.val)) = ((es.toList.filter fun x => !seen.contains x.born).map fun x => (x.key, x.val)).filter fun z => !keyIs left[j].1 z.1 := by
      rw [List.filter_map]
      rfl
    rw [e5, hs, List.filter_map]
    congr 1
    apply List.filter_congr
    intro y _
    by_cases hy : y.1 = left[j].1 <;> simp [keyIs, hy]
  · cases hpe
    exact ⟨_, hxe, hp.1, hp.2, by simp⟩

theorem rd_entry {p : Int × Value} {left : List (Int × Value)} {o : Obj} (hx : ev ρ x = .pointer (some ⟨bi, 0, none⟩)) (ho : (bi, o) ∈ H) (hI : IterM q b es clk (some p) left o) (hm : (b, Obj.map es clk) ∈ H) (hM : MapI q es clk l) :
    Rd C.P C.e ρ H ⟨d, .entry x, ty, pos, af, g⟩ (.tuple #[.int q p.1, p.2]) := fun w hw => by
  obtain ⟨seen, rfl, _, hl⟩ := hI
  obtain ⟨y, hy, hk, hv, hb⟩ := hl p rfl
  have hi := hw.has _ ho
  have hbm := hw.has _ hm
  simp only at hi hbm
  have hf : es.find? (fun z => z.born == y.born) = some y := by rw [← Array.find?_toList]; exact find_born y es.toList hM.born hy
  have h0 : (Instr.entry (.pointer (some ⟨bi, 0, none⟩))).run C.P w = .ok (.tuple #[.int q p.1, p.2]) w := by
    simp only [Instr.entry, getObj, Sem.run_bind, Sem.run, hi, hbm, Result.andThen, hb, bne_self_eq_false, Bool.false_eq_true, if_false, hf]
    rw [hk, hv]
    rfl
  rw [← hx] at h0
  simp only [execOp, Sem.run_bind, h0, Result.andThen_ok]
  rfl
end

/-! ### Slices that came in -/

def RowAt (cs : Array Value) (o n : Nat) (r : List Value) : Prop := r.length = n ∧ ∀ j v, r[j]? = some v → cs[o + j]? = some v
def InSl (F : Hp) (n : Nat) (rows : List (List Value)) (v : Value) : Prop :=
  ∃ a cap, v = .slice a rows.length cap ∧ ∀ i r, rows[i]? = some r → ∃ b o cs T fz, a = some ⟨b, o, none⟩ ∧ (b, Obj.cells cs T fz) ∈ F ∧ RowAt cs (o + i * n) n r

section
variable {P : Program} {e : World} {ρ : Fr} {H : Hp} {d : Option Nat} {ty : TypeId} {pos : String} {af : Array Edge} {g : Option (Nat × Bool)}
theorem rd_indexAddrK {x y : Operand} {t el n : TypeId} {b o len c : Nat} {q : IntKind} {k : Nat} (hx : ev ρ x = .slice (some ⟨b, o, none⟩) len c) (hy : ev ρ y = .int q (k : Int)) (ht : P.underlying t = some (.slice el))
    (hs : (sz P el).isSome = true) (hn : (sz P el).getD 0 = n) (h1 : k < len) : Rd P e ρ H ⟨d, .indexAddr t x y, ty, pos, af, g⟩ (.pointer (some ⟨b, o + k * n, none⟩)) := by
  obtain ⟨m, hm⟩ := Option.isSome_iff_exists.1 hs
  rw [hm] at hn
  simp only [Option.getD_some] at hn
  subst hn
  have := rd_indexAddr (e := e) (H := H) (d := d) (ty := ty) (pos := pos) (af := af) (g := g) hx hy ht hm (by omega) (by omega)
  simpa using this
theorem rd_loadR {x : Operand} {t n : TypeId} {b o : Nat} {cs : Array Value} {r : List Value} {T : TypeId} {fz : Nat × Nat} (hx : ev ρ x = .pointer (some ⟨b, o, none⟩)) (hl : aggB P t = true) (hs' : (sz P t).isSome = true) (hn : (sz P t).getD 0 = n)
    (hm : (b, Obj.cells cs T fz) ∈ H) (hr : RowAt cs o n r) : Rd P e ρ H ⟨d, .load t x, ty, pos, af, g⟩ (.agg r.toArray) := fun w hw => by
  have hs : sz P t = some n := by
    obtain ⟨m, hm⟩ := Option.isSome_iff_exists.1 hs'
    rw [hm] at hn ⊢
    exact congrArg some hn
  have h1 : (loadCellsFrom ⟨b, o, none⟩ 0 n #[]).run P w = .ok (#[] ++ r.toArray) w := by
    have := loadCellsFrom_run (P := P) (w := w) (b := b) (o := o) r 0 #[] (fun j v hj => by rw [cell_kn hw hm]; simpa using hr.2 j v hj)
    rw [hr.1] at this
    exact this
  have h0 : (loadVar t ⟨b, o, none⟩).run P w = .ok (.agg r.toArray) w := by
    unfold loadVar
    simp only [Sem.run_bind, isAgg_agg hl, Result.andThen_ok, if_true, sizeOf_run hs, loadCells]
    simp only [h1]
    simp
  have h2 : (Instr.loadAt t (ev ρ x)).run P w = .ok (.agg r.toArray) w := by
    rw [hx]
    simp only [Instr.loadAt, Instr.sureAddr, Sem.run_bind, Sem.run_pure, Result.andThen_ok, h0]
  simp [execOp, h2]
theorem rd_loadA {x : Operand} {t : TypeId} {b o : Nat} {cs : Array Value} {T : TypeId} {fz : Nat × Nat} {v : Value} (hx : ev ρ x = .pointer (some ⟨b, o, none⟩)) (hl : leaf P t = true)
    (hm : (b, Obj.cells cs T fz) ∈ H) (hr : RowAt cs o 1 [v]) : Rd P e ρ H ⟨d, .load t x, ty, pos, af, g⟩ v := rd_load hx hl hm (by simpa using hr.2 0 v rfl)
end

theorem cells_run {w : World} {a : Addr} {n : Nat} {cs : List Value} (hn : 0 < n) (h : w.cells? 0 a n = some cs) : ∃ b o arr T fz, a = ⟨b, o, none⟩ ∧ w.heap[b]? = some (.cells arr T fz) ∧ RowAt arr o n cs := by
  unfold World.cells? at h
  rw [if_pos (Nat.zero_le _)] at h
  have hlen : cs.length = n := by simpa using mapM_some_length h
  have hget : ∀ i, i < n → w.cell? (a.add i) = cs[i]? := fun i hi => mapM_some_get h i i (by simp [hi])
  obtain ⟨b, o, sp⟩ := a
  have h0 := hget 0 hn
  rw [List.getElem?_eq_getElem (by omega)] at h0
  obtain rfl : sp = none := by simpa [Addr.add] using World.cell?_spot h0
  have h1 : w.cell? ⟨b, o, none⟩ = some (cs[0]'(by omega)) := by simpa [Addr.add] using h0
  unfold World.cell? at h1
  cases hb : w.heap[b]? with
  | none => simp [hb] at h1
  | some x =>
    cases x with
    | cells arr T fz =>
      refine ⟨b, o, arr, T, fz, rfl, hb, hlen, fun j v hj => ?_⟩
      have hjn : j < n := by
        have := (List.getElem?_eq_some_iff.1 hj).1
        omega
      have h2 := hget j hjn
      rw [hj, addr_add] at h2
      unfold World.cell? at h2
      simpa [hb] using h2
    | _ => simp [hb] at h1
end Go.Vl
