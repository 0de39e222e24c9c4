/-
  Steps of the proof: Vm, Vq.
-/
import Derived.Test.YtpegidbkplgplaaGreatQ02
import Derived.Maps.Keyed
import Derived.Laws.IdiomRangeMap
namespace Go.Vl
open Go.RowKit

set_option linter.unusedSectionVars false
/-! ### Lists of pairs -/
section lists
variable {κ α : Type} [DecidableEq κ]
def aget (l : List (κ × α)) (n : κ) : Option α := (l.find? (fun p => decide (p.1 = n))).map (·.2)
def aput : List (κ × α) → κ → α → List (κ × α)
  | [], n, v => [(n, v)]
  | p :: l, n, v => if p.1 = n then (n, v) :: l else p :: aput l n v
def adel (l : List (κ × α)) (n : κ) : List (κ × α) := l.filter fun p => decide (p.1 ≠ n)

@[simp] theorem aget_nil (n : κ) : aget ([] : List (κ × α)) n = none := rfl
theorem aget_cons (p : κ × α) (l : List (κ × α)) (n : κ) : aget (p :: l) n = if p.1 = n then some p.2 else aget l n := by
  unfold aget
  rw [List.find?_cons]
  by_cases h : p.1 = n <;> simp [h]
theorem aget_some_mem {l : List (κ × α)} {n : κ} {v : α} (h : aget l n = some v) : (n, v) ∈ l := by
  induction l with
  | nil => cases h
  | cons p l ih =>
    rw [aget_cons] at h
    split at h
    · rename_i hp; cases h; rw [← hp]; simp
    · exact List.mem_cons_of_mem _ (ih h)
theorem aget_none {l : List (κ × α)} {n : κ} : aget l n = none ↔ ∀ p ∈ l, p.1 ≠ n := by
  induction l with
  | nil => simp
  | cons p l ih =>
    rw [aget_cons]
    by_cases h : p.1 = n
    · simp [h]
    · simp only [h, if_false, ih, List.forall_mem_cons, ne_eq, not_false_eq_true, true_and]
theorem aget_of_mem {l : List (κ × α)} (hn : (l.map Prod.fst).Nodup) {n : κ} {v : α} (h : (n, v) ∈ l) : aget l n = some v := by
  induction l with
  | nil => cases h
  | cons p l ih =>
    rw [List.map_cons, List.nodup_cons] at hn
    rw [aget_cons]
    rcases List.mem_cons.1 h with rfl | h
    · simp
    · rw [if_neg (fun e => hn.1 (by rw [e]; exact List.mem_map.2 ⟨_, h, rfl⟩)), ih hn.2 h]
theorem aget_map {β : Type} (f : κ → α → β) (l : List (κ × α)) (n : κ) : aget (l.map fun p => (p.1, f p.1 p.2)) n = (aget l n).map (f n) := by
  induction l with
  | nil => rfl
  | cons p l ih =>
    rw [List.map_cons, aget_cons, aget_cons, ih]
    by_cases h : p.1 = n
    · simp [h]
    · simp [h]

theorem aput_keys {n : κ} {v : α} : ∀ {l : List (κ × α)} (k : κ), k ∈ (aput l n v).map Prod.fst ↔ k = n ∨ k ∈ l.map Prod.fst
  | [], k => by simp [aput]
  | x :: l, k => by
    unfold aput
    split
    · rename_i h; simp [h]
    · simp only [List.map_cons, List.mem_cons, aput_keys k]
      constructor
      · rintro (h | h | h) <;> simp [h]
      · rintro (h | h | h) <;> simp [h]
theorem aput_nodup {n : κ} {v : α} : ∀ {l : List (κ × α)}, (l.map Prod.fst).Nodup → ((aput l n v).map Prod.fst).Nodup
  | [], _ => by simp [aput]
  | x :: l, h => by
    rw [List.map_cons, List.nodup_cons] at h
    unfold aput
    split
    · rename_i hx; rw [List.map_cons, List.nodup_cons]; exact ⟨by rw [← hx]; exact h.1, h.2⟩
    · rename_i hx
      rw [List.map_cons, List.nodup_cons]
      refine ⟨fun hm => ?_, aput_nodup h.2⟩
      rcases (aput_keys x.1).1 hm with h1 | h1
      · exact hx h1
      · exact h.1 h1
theorem aget_put {n k : κ} {v : α} : ∀ {l : List (κ × α)}, aget (aput l n v) k = if n = k then some v else aget l k
  | [] => by simp [aput, aget_cons]
  | x :: l => by
    unfold aput
    split
    · rename_i h
      rw [aget_cons, aget_cons]
      by_cases hk : n = k
      · simp [hk]
      · simp only [hk, if_false]; rw [if_neg (by rw [h]; exact hk)]
    · rename_i h
      rw [aget_cons, aget_cons, aget_put]
      by_cases hk : x.1 = k
      · simp only [hk, if_true]; rw [if_neg (fun e => h (by rw [hk, e]))]
      · simp only [hk, if_false]
theorem aput_new {n : κ} {v : α} : ∀ {l : List (κ × α)}, aget l n = none → aput l n v = l ++ [(n, v)]
  | [], _ => rfl
  | x :: l, h => by
    rw [aget_cons] at h
    split at h
    · cases h
    · rename_i hx
      unfold aput
      rw [if_neg hx, aput_new h]
      rfl
theorem aput_set {n : κ} {v u : α} : ∀ {l : List (κ × α)} {j : Nat}, (l.map Prod.fst).Nodup → l[j]? = some (n, u) → aput l n v = l.set j (n, v)
  | [], _, _, h => by simp at h
  | x :: l, 0, _, h => by
    simp at h
    subst h
    simp [aput]
  | x :: l, j + 1, hn, h => by
    rw [List.map_cons, List.nodup_cons] at hn
    simp only [List.getElem?_cons_succ] at h
    have hx : x.1 ≠ n := fun e => hn.1 (by rw [e]; exact List.mem_map.2 ⟨_, List.mem_of_getElem? h, rfl⟩)
    unfold aput
    rw [if_neg hx, aput_set hn.2 h]
    rfl
theorem adel_keys {n k : κ} {l : List (κ × α)} : k ∈ (adel l n).map Prod.fst ↔ k ≠ n ∧ k ∈ l.map Prod.fst := by
  unfold adel
  simp only [List.mem_map, List.mem_filter, decide_eq_true_eq]
  constructor
  · rintro ⟨p, ⟨h1, h2⟩, rfl⟩; exact ⟨h2, p, h1, rfl⟩
  · rintro ⟨h, p, h1, rfl⟩; exact ⟨p, ⟨h1, h⟩, rfl⟩
theorem adel_nodup {n : κ} {l : List (κ × α)} (h : (l.map Prod.fst).Nodup) : ((adel l n).map Prod.fst).Nodup := h.sublist ((List.filter_sublist).map _)
theorem adel_none {n : κ} {l : List (κ × α)} (h : aget l n = none) : adel l n = l := by
  unfold adel
  rw [List.filter_eq_self]
  intro p hp
  simpa using aget_none.1 h p hp
theorem perm_take {p : κ × α} : ∀ {left : List (κ × α)}, (left.map Prod.fst).Nodup → p ∈ left → left.Perm (p :: adel left p.1)
  | x :: l, hn, hp => by
    rw [List.map_cons, List.nodup_cons] at hn
    unfold adel
    rcases List.mem_cons.1 hp with rfl | hp'
    · have : (p :: l).filter (fun y => decide (y.1 ≠ p.1)) = l := by
        rw [List.filter_cons_of_neg (by simp), List.filter_eq_self]
        intro y hy
        simp only [ne_eq, decide_eq_true_eq]
        intro h
        exact hn.1 (List.mem_map.2 ⟨y, hy, h⟩)
      rw [this]
    · have hne : x.1 ≠ p.1 := fun h => hn.1 (List.mem_map.2 ⟨p, hp', h.symm⟩)
      rw [List.filter_cons_of_pos (by simpa using hne)]
      exact ((perm_take hn.2 hp').cons x).trans (.swap _ _ _)
theorem adel_less {left : List (κ × α)} {p : κ × α} (h : p ∈ left) : (adel left p.1).length < left.length := by
  unfold adel
  rw [List.length_filter_lt_length_iff_exists]
  exact ⟨p, h, by simp⟩
end lists

/-! ### Keys -/
structure KeyOK {κ : Type} [DecidableEq κ] (P : Program) (kt : TypeId) (kv : κ → Value) : Prop where
  now : ∃ D, P.underlying kt = some D ∧ ∀ a b, Instr.sameNow D (kv a) (kv b) = some (decide (a = b))
  check : ∀ em n (w : World), (Instr.checkKey em 10000 kt (kv n)).run P w = .ok () w
  bits : ∀ n, Instr.sameBits 10000 (kv n) (kv n) = true
theorem keyOK_int {P : Program} {kt : TypeId} {q : IntKind} (hu : P.underlying kt = some (.int q)) : KeyOK P kt (Value.int q) := by
  refine ⟨⟨_, hu, fun a b => ?_⟩, fun em n w => ?_, fun n => ?_⟩
  · simp only [Instr.sameNow, if_true]
    congr 1
  · show (Instr.checkKey em (9999 + 1) kt (.int q n)).run P w = .ok () w
    unfold Instr.checkKey
    simp only [Sem.run_bind, underlying_run hu, Result.andThen_ok]
    rfl
  · show Instr.sameBits (9999 + 1) _ _ = true
    simp [Instr.sameBits]
theorem ba_beq (a b : ByteArray) : (a == b) = decide (a = b) := by
  obtain ⟨a⟩ := a; obtain ⟨b⟩ := b
  show (ByteArray.beq ⟨a⟩ ⟨b⟩) = _
  rw [Bool.eq_iff_iff]
  unfold ByteArray.beq
  simp
theorem keyOK_str {P : Program} {kt : TypeId} (hu : P.underlying kt = some .string) : KeyOK P kt Value.string := by
  refine ⟨⟨_, hu, fun a b => ?_⟩, fun em n w => ?_, fun n => ?_⟩
  · simp only [Instr.sameNow, ba_beq]
  · show (Instr.checkKey em (9999 + 1) kt (.string n)).run P w = .ok () w
    unfold Instr.checkKey
    simp only [Sem.run_bind, underlying_run hu, Result.andThen_ok]
    rfl
  · show Instr.sameBits (9999 + 1) _ _ = true
    simp [Instr.sameBits, ba_beq]

section maps
variable {κ α : Type} [DecidableEq κ] {kv : κ → Value} {enc : α → Value}
structure MapK (kv : κ → Value) (enc : α → Value) (es : Array MapEntry) (clk : Nat) (l : List (κ × α)) : Prop where
  ent : es.toList.map (fun x => (x.key, x.val)) = l.map (fun p => (kv p.1, enc p.2))
  keys : (l.map Prod.fst).Nodup
  born : (es.toList.map (·.born)).Nodup
  clock : ∀ x ∈ es.toList, x.born < clk
omit [DecidableEq κ] in
theorem MapK.nil (kv : κ → Value) (enc : α → Value) : MapK kv enc #[] 0 [] := ⟨rfl, by simp, by simp, by simp⟩
omit [DecidableEq κ] in
theorem MapK.size {es : Array MapEntry} {clk : Nat} {l : List (κ × α)} (h : MapK kv enc es clk l) : es.size = l.length := by
  have := congrArg List.length h.ent
  simpa using this

theorem findNow_map {D : TypeDesc} (hs : ∀ a b, Instr.sameNow D (kv a) (kv b) = some (decide (a = b))) {n : κ} : ∀ (es : List MapEntry) (l : List (κ × α)) (i : Nat), es.map (fun x => (x.key, x.val)) = l.map (fun p => (kv p.1, enc p.2)) →
    (Instr.findNow D (kv n) es i = some none ∧ aget l n = none) ∨
    ∃ j v, Instr.findNow D (kv n) es i = some (some (i + j, enc v)) ∧ aget l n = some v ∧ l[j]? = some (n, v) := by
  intro es
  induction es with
  | nil =>
    intro l i h
    cases l with
    | nil => exact .inl ⟨rfl, rfl⟩
    | cons p l => cases h
  | cons x es ih =>
    intro l i h
    cases l with
    | nil => cases h
    | cons p l =>
      simp only [List.map_cons, List.cons.injEq, Prod.mk.injEq] at h
      obtain ⟨⟨hk, hv⟩, ht⟩ := h
      by_cases hp : p.1 = n
      · refine .inr ⟨0, p.2, ?_, by simp [aget_cons, hp], by obtain ⟨a, b⟩ := p; simp_all⟩
        have e1 : Instr.sameNow D (kv n) x.key = some true := by rw [hk, hs]; simp [hp]
        simp only [Instr.findNow, e1, hv]
        rfl
      · have e1 : Instr.sameNow D (kv n) x.key = some false := by rw [hk, hs]; simp; exact fun e => hp e.symm
        have hg : aget (p :: l) n = aget l n := by rw [aget_cons, if_neg hp]
        rcases ih l (i + 1) ht with ⟨h1, h2⟩ | ⟨j, v, h1, h2, h3⟩
        · exact .inl ⟨by simp only [Instr.findNow, e1]; exact h1, by rw [hg]; exact h2⟩
        · refine .inr ⟨j + 1, v, ?_, by rw [hg]; exact h2, by simpa using h3⟩
          simp only [Instr.findNow, e1]
          rw [h1, show i + 1 + j = i + (j + 1) from by omega]
theorem findKey_run {P : Program} {kt : TypeId} {D : TypeDesc} (hu : P.underlying kt = some D) {k : Value} {es : List MapEntry} {r : Option (Nat × Value)} (h : Instr.findNow D k es 0 = some r) (w : World) :
    (Instr.findKey kt k es).run P w = .ok r w := by
  unfold Instr.findKey
  simp only [Sem.run_bind, underlying_run hu, Result.andThen_ok, h]
  rfl
theorem getObj_map {P : Program} {w : World} {b : Nat} {es : Array MapEntry} {clk : Nat} (h : w.heap[b]? = some (.map es clk)) : (getObj b).run P w = .ok (.map es clk) w := by
  simp [getObj, Sem.run, h]
def lookV (ok : Bool) (v : Value) (b : Bool) : Value := match ok with
  | true => .tuple #[v, .bool b]
  | false => v
theorem keyStays_run {P : Program} {v : Value} (h : Instr.sameBits 10000 v v = true) (w : World) : (Instr.keyThatStays v v).run P w = .ok v w := by
  unfold Instr.keyThatStays
  rw [if_pos h]
  rfl
theorem setObj_run {P : Program} {w : World} {b : Nat} {es : Array MapEntry} {clk : Nat} (h : w.heap[b]? = some (.map es clk)) (o : Obj) : (setObj b o).run P w = .ok () { w with heap := w.heap.setIfInBounds b o } := by
  simp [setObj, Sem.run, h]
theorem kn_setMap {e w : World} {H : Hp} {b : Nat} {es : Array MapEntry} {clk : Nat} {f : Obj → Hp} (hw : Kn e w H) (hz : Zip H b (.map es clk) f) (o : Obj) : Kn e { w with heap := w.heap.setIfInBounds b o } (f o) := by
  have hlt := hw.lt hz.mem
  refine hw.set hz rfl rfl rfl ?_ fun k hk => ?_
  · simp at hlt; simp [hlt]
  · simp [Array.getElem?_setIfInBounds_ne (Ne.symm hk)]

section
variable {P : Program} {e : World} {ρ : Fr} {H : Hp} {d : Option Nat} {ty : TypeId} {pos : String} {af : Array Edge} {g : Option (Nat × Bool)}
variable {t kt et : TypeId} {b clk : Nat} {es : Array MapEntry} {l : List (κ × α)} {x y : Operand} {n : κ}
theorem rd_lookup_some {ok : Bool} {v : α} (hg : aget l n = some v) (hx : ev ρ x = .map (some b)) (hm : (b, Obj.map es clk) ∈ H) (hM : MapK kv enc es clk l) (hy : ev ρ y = kv n) (ht : P.underlying t = some (.map kt et)) (hk : KeyOK P kt kv) :
    Rd P e ρ H ⟨d, .lookup t x y ok, ty, pos, af, g⟩ (lookV ok (enc v) true) := fun w hw => by
  have hb := hw.has _ hm
  simp only at hb
  obtain ⟨D, hD, hs⟩ := hk.now
  have h0 : (Instr.lookup t (.map (some b)) (kv n) ok).run P w = .ok (lookV ok (enc v) true) w := by
    unfold Instr.lookup
    simp only [Sem.run_bind, underlying_run ht, Result.andThen_ok, getObj_map hb, Sem.run_pure, hk.check]
    rcases findNow_map (enc := enc) hs (n := n) es.toList l 0 hM.ent with ⟨h1, h2⟩ | ⟨j, u, h1, h2, _⟩
    · rw [h2] at hg; cases hg
    · rw [h2] at hg; cases hg
      simp only [findKey_run hD h1, Result.andThen_ok]
      cases ok <;> rfl
  rw [← hx, ← hy] at h0
  simp [execOp, h0]
theorem rd_lookup_none {ok : Bool} {z : Value} (hg : aget l n = none) (hx : ev ρ x = .map (some b)) (hm : (b, Obj.map es clk) ∈ H) (hM : MapK kv enc es clk l) (hy : ev ρ y = kv n) (ht : P.underlying t = some (.map kt et)) (hk : KeyOK P kt kv)
    (hz : zval P et = some z) : Rd P e ρ H ⟨d, .lookup t x y ok, ty, pos, af, g⟩ (lookV ok z false) := fun w hw => by
  have hb := hw.has _ hm
  simp only at hb
  obtain ⟨D, hD, hs⟩ := hk.now
  have h0 : (Instr.lookup t (.map (some b)) (kv n) ok).run P w = .ok (lookV ok z false) w := by
    unfold Instr.lookup
    simp only [Sem.run_bind, underlying_run ht, Result.andThen_ok, getObj_map hb, Sem.run_pure, hk.check]
    rcases findNow_map (enc := enc) hs (n := n) es.toList l 0 hM.ent with ⟨h1, h2⟩ | ⟨j, u, h1, h2, _⟩
    · simp only [findKey_run hD h1, Result.andThen_ok, Sem.run_bind, zero_run hz, Sem.run_pure]
      cases ok <;> rfl
    · rw [h2] at hg; cases hg
  rw [← hx, ← hy] at h0
  simp [execOp, h0]
theorem rd_lookup_nil {ok : Bool} {z : Value} (hx : ev ρ x = .map none) (hy : ev ρ y = kv n) (ht : P.underlying t = some (.map kt et)) (hk : KeyOK P kt kv)
    (hz : zval P et = some z) : Rd P e ρ H ⟨d, .lookup t x y ok, ty, pos, af, g⟩ (lookV ok z false) := fun w hw => by
  obtain ⟨D, hD, hs⟩ := hk.now
  have h0 : (Instr.lookup t (.map none) (kv n) ok).run P w = .ok (lookV ok z false) w := by
    unfold Instr.lookup
    have h1 : Instr.findNow D (kv n) (#[] : Array MapEntry).toList 0 = some none := rfl
    simp only [Sem.run_bind, underlying_run ht, Result.andThen_ok, Sem.run_pure, hk.check, findKey_run hD h1, zero_run hz]
    cases ok <;> rfl
  rw [← hx, ← hy] at h0
  simp [execOp, h0]
omit [DecidableEq κ] in
theorem rd_len_map {ats : Array TypeId} (hx : ev ρ x = .map (some b)) (hm : (b, Obj.map es clk) ∈ H) (hM : MapK kv enc es clk l) (ha : ats[0]? = some t) (ht : P.underlying t = some (.map kt et)) :
    Rd P e ρ H ⟨d, .call ⟨.builtin .len, #[x], ats⟩, ty, pos, af, g⟩ (.int .i64 l.length) := fun w hw => by
  have hb := hw.has _ hm
  have hs := hM.size
  simp [execOp, resolve, invoke, Go.builtin, Builtin.len_, ha, underlying_run ht, hx, getObj_map hb, goInt, hs]
end

section
variable {C : Cx} {ρ : Fr} {H : Hp} {d : Option Nat} {ty : TypeId} {pos : String} {af : Array Edge} {g : Option (Nat × Bool)} {K : Value → Hp → Prop}
variable {b bi clk : Nat} {es : Array MapEntry} {l : List (κ × α)} {x y z : Operand} {n : κ}

theorem ex_mapUpdate {t kt et : TypeId} {v : α} {f : Obj → Hp} (hx : ev ρ x = .map (some b)) (hz : Zip H b (.map es clk) f) (hM : MapK kv enc es clk l)
    (hy : ev ρ y = kv n) (hv : ev ρ z = enc v) (ht : C.P.underlying t = some (.map kt et)) (hk : KeyOK C.P kt kv)
    (h : ∀ es' clk', MapK kv enc es' clk' (aput l n v) → K undef (f (.map es' clk'))) : Ex C ⟨d, .mapUpdate t x y z, ty, pos, af, g⟩ K ρ H := fun w hw => by
  have hb := hw.has _ hz.mem
  simp only at hb
  obtain ⟨D, hD, hs⟩ := hk.now
  rcases findNow_map (enc := enc) hs (n := n) es.toList l 0 hM.ent with ⟨h1, h2⟩ | ⟨j, u, h1, h2, h3⟩
  · have h0 : (Instr.mapUpdate t (ev ρ x) (ev ρ y) (ev ρ z)).run C.P w = .ok () { w with heap := w.heap.setIfInBounds b (.map (es.push { key := kv n, val := enc v, born := clk }) (clk + 1)) } := by
      rw [hx, hy, hv]
      unfold Instr.mapUpdate
      simp only [Sem.run_bind, underlying_run ht, Result.andThen_ok, getObj_map hb, hk.check, findKey_run hD h1, setObj_run hb]
    have h4 : (execOp (ev ρ) ⟨d, .mapUpdate t x y z, ty, pos, af, g⟩).run C.P w = .ok .skip { w with heap := w.heap.setIfInBounds b (.map (es.push { key := kv n, val := enc v, born := clk }) (clk + 1)) } := by simp [execOp, h0]
    rw [h4]
    refine ⟨_, kn_setMap hw hz _, h _ _ ⟨?_, aput_nodup hM.keys, ?_, ?_⟩⟩
    · rw [aput_new h2]
      simp [hM.ent]
    · simp only [Array.toList_push, List.map_append, List.map_cons, List.map_nil]
      refine List.nodup_append.2 ⟨hM.born, by simp, fun a ha c hc => ?_⟩
      obtain ⟨x, hx, rfl⟩ := List.mem_map.1 ha
      have := hM.clock x hx
      simp at hc
      omega
    · intro x hx
      simp only [Array.toList_push, List.mem_append, List.mem_singleton] at hx
      rcases hx with hx | rfl
      · have := hM.clock x hx; omega
      · exact Nat.lt_succ_self _
  · obtain ⟨ej, hej, hek, hev⟩ : ∃ ej, es.toList[j]? = some ej ∧ ej.key = kv n ∧ ej.val = enc u := by
      have h5 := congrArg (fun L => L[j]?) hM.ent
      simp only [List.getElem?_map, h3] at h5
      cases hj : es.toList[j]? with
      | none => rw [hj] at h5; cases h5
      | some ej => rw [hj] at h5; simp at h5; exact ⟨ej, rfl, h5.1, h5.2⟩
    have hjlt : j < es.toList.length := (List.getElem?_eq_some_iff.1 hej).1
    have hkey : ((es[j]?).map (·.key)).getD (kv n) = kv n := by
      have : es[j]? = some ej := by simpa using hej
      rw [this]; exact hek
    have h0 : (Instr.mapUpdate t (ev ρ x) (ev ρ y) (ev ρ z)).run C.P w = .ok () { w with heap := w.heap.setIfInBounds b (.map (es.modify j fun e => { e with key := kv n, val := enc v }) clk) } := by
      rw [hx, hy, hv]
      unfold Instr.mapUpdate
      rw [Nat.zero_add] at h1
      simp only [Sem.run_bind, underlying_run ht, Result.andThen_ok, getObj_map hb, hk.check, findKey_run hD h1, hkey, keyStays_run (hk.bits n), setObj_run hb]
    have h4 : (execOp (ev ρ) ⟨d, .mapUpdate t x y z, ty, pos, af, g⟩).run C.P w = .ok .skip { w with heap := w.heap.setIfInBounds b (.map (es.modify j fun e => { e with key := kv n, val := enc v }) clk) } := by simp [execOp, h0]
    rw [h4]
    have hmod : (es.modify j fun e => { e with key := kv n, val := enc v }).toList = es.toList.set j { ej with key := kv n, val := enc v } := by
      apply List.ext_getElem?
      intro i
      rw [Array.toList_modify]
      rw [List.getElem?_modify, List.getElem?_set]
      by_cases hi : j = i
      · subst hi
        rw [hej, if_pos rfl, if_pos hjlt]
        simp
      · rw [if_neg hi]
        simp [hi]
    refine ⟨_, kn_setMap hw hz _, h _ _ ⟨?_, aput_nodup hM.keys, ?_, ?_⟩⟩
    · rw [hmod, aput_set hM.keys h3, List.map_set, List.map_set, hM.ent]
    · rw [hmod, List.map_set]
      have : (es.toList.map (·.born)).set j ej.born = es.toList.map (·.born) := by
        apply List.ext_getElem?
        intro i
        by_cases hi : i = j
        · subst hi; simp [List.getElem?_set, hej]; simpa using hjlt
        · simp [Ne.symm hi]
      rw [this]; exact hM.born
    · intro x hx
      rw [hmod] at hx
      rcases List.mem_or_eq_of_mem_set hx with hx | rfl
      · exact hM.clock x hx
      · exact hM.clock ej (List.mem_of_getElem? hej)

/-! ranges -/
theorem key_inj {L : List MapEntry} (hn : (L.map (·.key)).Nodup) {a c : MapEntry} (ha : a ∈ L) (hc : c ∈ L) (hac : a.key = c.key) : a = c := by
  induction L with
  | nil => cases ha
  | cons z L ih =>
    rw [List.map_cons, List.nodup_cons] at hn
    rcases List.mem_cons.1 ha with rfl | ha'
    · rcases List.mem_cons.1 hc with rfl | hc'
      · rfl
      · exact absurd (List.mem_map.2 ⟨c, hc', hac.symm⟩) hn.1
    · rcases List.mem_cons.1 hc with rfl | hc'
      · exact absurd (List.mem_map.2 ⟨a, ha', hac⟩) hn.1
      · exact ih hn.2 ha' hc'

omit [DecidableEq κ] in
theorem MapK.keysN {es : Array MapEntry} {clk : Nat} {l : List (κ × α)} (hM : MapK kv enc es clk l) (hkv : ∀ a c, kv a = kv c → a = c) : (es.toList.map (·.key)).Nodup := by
  have e3 : es.toList.map (·.key) = (l.map Prod.fst).map kv := by
    have := congrArg (List.map Prod.fst) hM.ent
    simp only [List.map_map] at this ⊢
    exact this
  rw [e3]
  exact List.Pairwise.map _ (fun a b hab h => hab (hkv _ _ h)) hM.keys
theorem MapK.side {es : Array MapEntry} {clk : Nat} {l : List (κ × α)} (hM : MapK kv enc es clk l) (hkv : ∀ a c, kv a = kv c → a = c) {z : MapEntry} (hz : z ∈ es.toList) {n : κ} (hzk : z.key = kv n) :
    ∀ (E : List MapEntry) (L : List (κ × α)), (∀ y ∈ E, y ∈ es.toList) → E.map (fun x => (x.key, x.val)) = L.map (fun p => (kv p.1, enc p.2)) →
      (E.filter fun x => !(x.born == z.born)).map (fun x => (x.key, x.val)) = (adel L n).map (fun p => (kv p.1, enc p.2)) := by
  have hkeys := hM.keysN hkv
  intro E
  induction E with
  | nil =>
    intro L _ h
    cases L with
    | nil => rfl
    | cons _ _ => cases h
  | cons y E ihE =>
    intro L hm' h
    cases L with
    | nil => cases h
    | cons q L =>
      simp only [List.map_cons, List.cons.injEq, Prod.mk.injEq] at h
      obtain ⟨⟨hyk, hyv⟩, ht⟩ := h
      have ih' := ihE L (fun y hy => hm' y (List.mem_cons_of_mem _ hy)) ht
      have hy := hm' y List.mem_cons_self
      unfold adel at ih' ⊢
      by_cases hq : q.1 = n
      · have : y = z := key_inj hkeys hy hz (by rw [hyk, hzk, hq])
        rw [List.filter_cons_of_neg (by simp [this]), List.filter_cons_of_neg (by simp [hq])]
        exact ih'
      · have hb' : y.born ≠ z.born := fun hb => by
          have := born_inj hM.born hy hz hb
          rw [this, hzk] at hyk
          exact hq (hkv _ _ hyk).symm
        rw [List.filter_cons_of_pos (by simpa using hb'), List.filter_cons_of_pos (by simpa using hq), List.map_cons, List.map_cons, ih', hyk, hyv]
theorem eraseIdx_born : ∀ {E : List MapEntry} {j : Nat} {z : MapEntry}, (E.map (·.born)).Nodup → E[j]? = some z → E.eraseIdx j = E.filter fun x => !(x.born == z.born)
  | [], _, _, _, h => by simp at h
  | y :: E, 0, z, hn, h => by
    rw [List.map_cons, List.nodup_cons] at hn
    simp at h
    subst h
    rw [List.eraseIdx_cons_zero, List.filter_cons_of_neg (by simp), eq_comm, List.filter_eq_self]
    intro z hz
    have : z.born ≠ y.born := fun e => hn.1 (List.mem_map.2 ⟨z, hz, e⟩)
    simpa using this
  | y :: E, j + 1, z, hn, h => by
    rw [List.map_cons, List.nodup_cons] at hn
    simp only [List.getElem?_cons_succ] at h
    have : y.born ≠ z.born := fun e => hn.1 (List.mem_map.2 ⟨z, List.mem_of_getElem? h, e.symm⟩)
    rw [List.eraseIdx_cons_succ, List.filter_cons_of_pos (by simpa using this), eraseIdx_born hn.2 h]

def IterK (kv : κ → Value) (enc : α → Value) (bm : Nat) (es : Array MapEntry) (clk : Nat) (last : Option (κ × α)) (left : List (κ × α)) (o : Obj) : Prop :=
  ∃ seen, o = .mapIter (some bm) clk seen clk ∧ ((es.toList.filter fun x => !seen.contains x.born).map fun x => (x.key, x.val)) = left.map (fun p => (kv p.1, enc p.2)) ∧
    ∀ p, last = some p → ∃ x ∈ es.toList, x.key = kv p.1 ∧ x.val = enc p.2 ∧ seen.back? = some x.born

omit [DecidableEq κ] in
theorem ex_range {t kt et : TypeId} (hx : ev ρ x = .map (some b)) (hm : (b, Obj.map es clk) ∈ H) (hM : MapK kv enc es clk l) (ht : C.P.underlying t = some (.map kt et))
    (h : ∀ bi o, IterK kv enc b es clk none l o → K (.pointer (some ⟨bi, 0, none⟩)) ((bi, o) :: H)) : Ex C ⟨d, .range t x, ty, pos, af, g⟩ K ρ H := fun w hw => by
  have h0 := run_range_map w t kt et b es clk ht (hw.has _ hm)
  have h1 : (execOp (ev ρ) ⟨d, .range t x, ty, pos, af, g⟩).run C.P w = .ok (.value (.pointer (some ⟨w.heap.size, 0, none⟩))) { w with heap := w.heap.push (.mapIter (some b) clk #[] clk) } := by
    rw [← hx] at h0
    simp only [execOp, Sem.run_bind, h0, Result.andThen_ok]
    rfl
  rw [h1]
  refine ⟨_, hw.alloc _, h _ _ ⟨#[], rfl, ?_, fun p hp => by cases hp⟩⟩
  rw [← hM.ent]
  congr 1
  rw [List.filter_eq_self]
  intro a _
  simp

omit [DecidableEq κ] in
theorem ex_next_end {last : Option (κ × α)} {o : Obj} {f : Obj → Hp} (hx : ev ρ x = .pointer (some ⟨bi, 0, none⟩)) (hz : Zip H bi o f) (hI : IterK kv enc b es clk last [] o) (hm : (b, Obj.map es clk) ∈ H) (hM : MapK kv enc es clk l)
    (h : K (.tuple #[.bool false]) H) : Ex C ⟨d, .next x false, ty, pos, af, g⟩ K ρ H := fun w hw => by
  obtain ⟨seen, rfl, hs, _⟩ := hI
  have hi := hw.has _ hz.mem
  have hb := hw.has _ hm
  simp only at hi hb
  have e0 : es.filter (fun e => !seen.contains e.born) = #[] := by
    apply Array.toList_inj.1
    rw [Array.toList_filter]
    simpa using hs
  have h0 : (Instr.next (.pointer (some ⟨bi, 0, none⟩)) false ty).run C.P w = .ok (.tuple #[.bool false]) w := by
    simp only [Instr.next, getObj, Sem.run_bind, Sem.run, hi, hb, Result.andThen, next_test_false seen es clk clk hM.clock (Nat.le_refl _), Bool.false_eq_true, if_false, e0]
    simp [choose, Sem.run, Question.forced]
  have h1 : (execOp (ev ρ) ⟨d, .next x false, ty, pos, af, g⟩).run C.P w = .ok (.value (.tuple #[.bool false])) w := by
    rw [← hx] at h0
    simp only [execOp, Sem.run_bind, h0, Result.andThen_ok]
    rfl
  rw [h1]
  exact ⟨_, hw, h⟩

theorem choose_run {P : Program} (w : World) (n : Nat) (h : 0 < n) : ∃ j m, j < n ∧ (choose (Question.mapNext n)).run P w = .ok j { w with drawn := m } := by
  by_cases hf : n ≤ 1
  · exact ⟨0, w.drawn, h, by simp [choose, Sem.run, Question.forced, hf]⟩
  · exact ⟨_, w.drew.drawn, Nat.mod_lt _ (by omega), by
      simp only [choose, Sem.run, Question.forced, decide_eq_true_eq, hf, if_false, Question.cut]
      rfl⟩

theorem ex_next_more {last : Option (κ × α)} {left : List (κ × α)} {o : Obj} {f : Obj → Hp} (hx : ev ρ x = .pointer (some ⟨bi, 0, none⟩)) (hz : Zip H bi o f) (hI : IterK kv enc b es clk last left o) (hm : (b, Obj.map es clk) ∈ H) (hM : MapK kv enc es clk l)
    (hkv : ∀ a c, kv a = kv c → a = c) (hl : 0 < left.length)
    (h : ∀ p ∈ left, ∀ o', IterK kv enc b es clk (some p) (adel left p.1) o' → K (.tuple #[.bool true, kv p.1, enc p.2]) (f o')) : Ex C ⟨d, .next x false, ty, pos, af, g⟩ K ρ H := fun w hw => by
  obtain ⟨seen, rfl, hs, _⟩ := hI
  have hi := hw.has _ hz.mem
  have hb := hw.has _ hm
  simp only at hi hb
  have hL : (leftOf es seen).toList = es.toList.filter fun x => !seen.contains x.born := by unfold leftOf; rw [Array.toList_filter]
  have hlen : (leftOf es seen).size = left.length := by
    have := congrArg List.length hs
    rw [← hL] at this
    simpa using this
  have hmem : ∀ x ∈ (leftOf es seen).toList, x.born < clk := fun x hx => hM.clock x (mem_left hx).1
  have e1 : (leftOf es seen).filter (fun x => decide (x.born < clk)) = leftOf es seen := Array.filter_eq_self.2 (fun x hx => by simpa using hmem x (by simpa using hx))
  have e2 : (leftOf es seen).filter (fun x => decide (x.born ≥ clk)) = #[] := by
    rw [Array.filter_eq_empty_iff]
    intro x hx
    have := hmem x (by simpa using hx)
    simp
    omega
  have hne : (leftOf es seen).isEmpty = false := by rw [Array.isEmpty_eq_false_iff]; intro hc; rw [hc] at hlen; simp at hlen; omega
  obtain ⟨j, m, hj, hch⟩ := choose_run (P := C.P) w (leftOf es seen).size (by omega)
  have hlt := hw.lt hz.mem
  simp only at hlt
  have hset : (setObj bi (.mapIter (some b) clk (seen.push (leftOf es seen)[j].born) clk)).run C.P { w with drawn := m } = .ok () { w with drawn := m, heap := w.heap.setIfInBounds bi (.mapIter (some b) clk (seen.push (leftOf es seen)[j].born) clk) } :=
    by simp [setObj, Sem.run, hi]
  have h0 : (Instr.next (.pointer (some ⟨bi, 0, none⟩)) false ty).run C.P w = .ok (.tuple #[.bool true, (leftOf es seen)[j].key, (leftOf es seen)[j].val]) { w with drawn := m, heap := w.heap.setIfInBounds bi (.mapIter (some b) clk (seen.push (leftOf es seen)[j].born) clk) } := by
    have hg : ∀ {β : Type} (k : Obj → Sem β), ((getObj bi >>= k).run C.P w) = (k (.mapIter (some b) clk seen clk)).run C.P w := fun k => by simp [Sem.run_bind, getObj, Sem.run, hi]
    have hg2 : ∀ {β : Type} (k : Obj → Sem β), ((getObj b >>= k).run C.P w) = (k (.map es clk)).run C.P w := fun k => by simp [Sem.run_bind, getObj, Sem.run, hb]
    unfold Instr.next
    simp only [hg, hg2, next_test_false seen es clk clk hM.clock (Nat.le_refl _), Bool.false_eq_true, if_false]
    have e1' : (es.filter fun e => !seen.contains e.born).filter (fun x => decide (x.born < clk)) = leftOf es seen := e1
    have e2' : (es.filter fun e => !seen.contains e.born).filter (fun x => decide (x.born ≥ clk)) = #[] := e2
    simp only [e1', e2', Array.append_empty, hne, Bool.false_eq_true, if_false, Array.empty_append, Array.size_map, Sem.run_bind, hch, Result.andThen_ok, Array.getElem?_map, Array.getElem?_eq_getElem hj, Option.map_some, hset]
    rfl
  have h1 : (execOp (ev ρ) ⟨d, .next x false, ty, pos, af, g⟩).run C.P w = .ok (.value (.tuple #[.bool true, (leftOf es seen)[j].key, (leftOf es seen)[j].val])) { w with drawn := m, heap := w.heap.setIfInBounds bi (.mapIter (some b) clk (seen.push (leftOf es seen)[j].born) clk) } := by
    rw [← hx] at h0
    simp only [execOp, Sem.run_bind, h0, Result.andThen_ok]
    rfl
  rw [h1]
  have hjl : j < left.length := by omega
  have hx' : (leftOf es seen)[j] ∈ (leftOf es seen).toList := by simp
  obtain ⟨hxe, hxs⟩ := mem_left hx'
  have hp : (leftOf es seen)[j].key = kv left[j].1 ∧ (leftOf es seen)[j].val = enc left[j].2 := by
    have h2 : ((leftOf es seen).toList.map fun x => (x.key, x.val))[j]? = (left.map fun p => (kv p.1, enc p.2))[j]? := by rw [hL, hs]
    simp only [List.getElem?_map, Array.getElem?_toList, Array.getElem?_eq_getElem hj, List.getElem?_eq_getElem hjl, Option.map_some, Option.some.injEq, Prod.mk.injEq] at h2
    exact h2
  have hw2 : Kn C.e { w with drawn := m, heap := w.heap.setIfInBounds bi (.mapIter (some b) clk (seen.push (leftOf es seen)[j].born) clk) } (f (.mapIter (some b) clk (seen.push (leftOf es seen)[j].born) clk)) := by
    refine (hw.drawn m).set hz rfl rfl rfl ?_ fun k hk => ?_
    · simp [hlt]
    · simp [Array.getElem?_setIfInBounds_ne (Ne.symm hk)]
  refine ⟨_, hw2, ?_⟩
  rw [hp.1, hp.2]
  refine h left[j] (List.getElem_mem hjl) _ ⟨_, rfl, ?_, fun p hpe => ?_⟩
  · -- the entries that are left: those with another key
    have e4 : (es.toList.filter fun x => !(seen.push (leftOf es seen)[j].born).contains x.born) = (es.toList.filter fun x => !seen.contains x.born).filter fun x => !(x.born == (leftOf es seen)[j].born) := by
      rw [List.filter_filter]
      apply List.filter_congr
      intro y hy
      rw [contains_push]
      cases (y.born == (leftOf es seen)[j].born) <;> simp
    rw [e4]
    exact hM.side hkv hxe hp.1 _ _ (fun y hy => (List.mem_filter.1 hy).1) hs
  · cases hpe
    exact ⟨_, hxe, hp.1, hp.2, by simp⟩

omit [DecidableEq κ] in
theorem rd_entry {p : κ × α} {left : List (κ × α)} {o : Obj} (hx : ev ρ x = .pointer (some ⟨bi, 0, none⟩)) (ho : (bi, o) ∈ H) (hI : IterK kv enc b es clk (some p) left o) (hm : (b, Obj.map es clk) ∈ H) (hM : MapK kv enc es clk l) :
    Rd C.P C.e ρ H ⟨d, .entry x, ty, pos, af, g⟩ (.tuple #[kv p.1, enc p.2]) := fun w hw => by
  obtain ⟨seen, rfl, _, hl⟩ := hI
  obtain ⟨y, hy, hk, hv, hb⟩ := hl p rfl
  have hi := hw.has _ ho
  have hbm := hw.has _ hm
  simp only at hi hbm
  have hf : es.find? (fun z => z.born == y.born) = some y := by rw [← Array.find?_toList]; exact find_born y es.toList hM.born hy
  have h0 : (Instr.entry (.pointer (some ⟨bi, 0, none⟩))).run C.P w = .ok (.tuple #[kv p.1, enc p.2]) w := by
    simp only [Instr.entry, getObj, Sem.run_bind, Sem.run, hi, hbm, Result.andThen, hb, bne_self_eq_false, Bool.false_eq_true, if_false, hf]
    rw [hk, hv]
    rfl
  rw [← hx] at h0
  simp only [execOp, Sem.run_bind, h0, Result.andThen_ok]
  rfl

/-! deleting -/
theorem ex_delete {t t2 kt et : TypeId} {f : Obj → Hp} (hx : ev ρ x = .map (some b)) (hz : Zip H b (.map es clk) f) (hM : MapK kv enc es clk l)
    (hy : ev ρ y = kv n) (ht : C.P.underlying t = some (.map kt et)) (hk : KeyOK C.P kt kv) (hkv : ∀ a c, kv a = kv c → a = c)
    (h : ∀ es', MapK kv enc es' clk (adel l n) → (∀ bm last left o, IterK kv enc bm es clk last left o → IterK kv enc bm es' clk none (adel left n) o) → K (.tuple #[]) (f (.map es' clk))) :
    Ex C ⟨d, .call ⟨.builtin .delete, #[x, y], #[t, t2]⟩, ty, pos, af, g⟩ K ρ H := fun w hw => by
  have hb := hw.has _ hz.mem
  simp only at hb
  obtain ⟨D, hD, hs⟩ := hk.now
  rcases findNow_map (enc := enc) hs (n := n) es.toList l 0 hM.ent with ⟨h1, h2⟩ | ⟨j, u, h1, h2, h3⟩
  · have h4 : (execOp (ev ρ) ⟨d, .call ⟨.builtin .delete, #[x, y], #[t, t2]⟩, ty, pos, af, g⟩).run C.P w = .ok (.value (.tuple #[])) { w with heap := w.heap.setIfInBounds b (.map es clk) } := by
      simp [execOp, resolve, invoke, Go.builtin, Builtin.delete_, underlying_run ht, hx, hy, getObj_map hb, hk.check, findKey_run hD h1, setObj_run hb]
    rw [h4]
    refine ⟨_, kn_setMap hw hz _, h _ (by rw [adel_none h2]; exact hM) fun bm last left o hI => ?_⟩
    obtain ⟨seen, rfl, hse, _⟩ := hI
    refine ⟨seen, rfl, ?_, fun p hp => by cases hp⟩
    rw [hse]
    have : aget left n = none := by
      rw [aget_none]
      intro p hp hpn
      have h5 : (kv p.1, enc p.2) ∈ (es.toList.filter fun x => !seen.contains x.born).map fun x => (x.key, x.val) := by rw [hse]; exact List.mem_map.2 ⟨p, hp, rfl⟩
      obtain ⟨y, hy', hye⟩ := List.mem_map.1 h5
      have h6 : (y.key, y.val) ∈ es.toList.map (fun x => (x.key, x.val)) := List.mem_map.2 ⟨y, (List.mem_filter.1 hy').1, rfl⟩
      rw [hM.ent] at h6
      obtain ⟨r, hr, hre⟩ := List.mem_map.1 h6
      have h7 : kv r.1 = kv p.1 := by
        have e1 := congrArg Prod.fst hre
        have e2 := congrArg Prod.fst hye
        simp only at e1 e2
        rw [e1, e2]
      exact aget_none.1 h2 r hr ((hkv _ _ h7).trans hpn)
    rw [adel_none this]
  · rw [Nat.zero_add] at h1
    have h4 : (execOp (ev ρ) ⟨d, .call ⟨.builtin .delete, #[x, y], #[t, t2]⟩, ty, pos, af, g⟩).run C.P w = .ok (.value (.tuple #[])) { w with heap := w.heap.setIfInBounds b (.map (es.eraseIdxIfInBounds j) clk) } := by
      simp [execOp, resolve, invoke, Go.builtin, Builtin.delete_, underlying_run ht, hx, hy, getObj_map hb, hk.check, findKey_run hD h1, setObj_run hb]
    rw [h4]
    have herase : (es.eraseIdxIfInBounds j).toList = es.toList.eraseIdx j := by
      by_cases hj : j < es.size
      · rw [Array.eraseIdxIfInBounds_eq, dif_pos hj, Array.toList_eraseIdx]
      · rw [Array.eraseIdxIfInBounds_eq, dif_neg hj, List.eraseIdx_of_length_le (by simpa using Nat.le_of_not_lt hj)]
    obtain ⟨ej, hej, hek⟩ : ∃ ej, es.toList[j]? = some ej ∧ ej.key = kv n := by
      have h5 := congrArg (fun L => L[j]?) hM.ent
      simp only [List.getElem?_map, h3] at h5
      cases hj : es.toList[j]? with
      | none => rw [hj] at h5; cases h5
      | some ej => rw [hj] at h5; simp at h5; exact ⟨ej, rfl, h5.1⟩
    have hejm := List.mem_of_getElem? hej
    rw [eraseIdx_born hM.born hej] at herase
    have hsub : (es.eraseIdxIfInBounds j).toList.Sublist es.toList := by rw [herase]; exact List.filter_sublist
    refine ⟨_, kn_setMap hw hz _, h _ ⟨?_, adel_nodup hM.keys, hM.born.sublist (hsub.map _), fun x hx => hM.clock x (hsub.subset hx)⟩ fun bm last left o hI => ?_⟩
    · rw [herase]
      exact hM.side hkv hejm hek _ _ (fun _ h => h) hM.ent
    · obtain ⟨seen, rfl, hse, _⟩ := hI
      refine ⟨seen, rfl, ?_, fun p hp => by cases hp⟩
      rw [herase, ← hM.side hkv hejm hek _ _ (fun y hy => (List.mem_filter.1 hy).1) hse, List.filter_filter, List.filter_filter]
      congr 2
      funext x
      rw [Bool.and_comm]
end
end maps
end Go.Vl

namespace Go.Vl
open Go.RowKit

def partV (P : Program) (t : TypeId) (cs : Array Value) (off : Nat) : Option Value :=
  if leaf P t = true then cs[off]? else if aggB P t = true then (sz P t).map fun n => .agg (cs.extract off (off + n)) else none
theorem partV_run {P : Program} {t : TypeId} {cs : Array Value} {off : Nat} {v : Value} (h : partV P t cs off = some v) (w : World) : (part t cs off).run P w = .ok v w := by
  unfold partV at h
  unfold part
  split at h
  · rename_i hl
    simp only [Sem.run_bind, isAgg_leaf hl, Result.andThen_ok, Bool.false_eq_true, if_false, h]
    rfl
  · split at h
    · rename_i ha
      cases hs : sz P t with
      | none => rw [hs] at h; cases h
      | some n =>
        rw [hs] at h
        simp only [Option.map_some, Option.some.injEq] at h
        subst h
        simp only [Sem.run_bind, isAgg_agg ha, Result.andThen_ok, if_true, sizeOf_run hs]
        rfl
    · cases h

def eqL (P : Program) (E : TypeId → Value → Value → Option Bool) : List Field → Array Value → Array Value → Option Bool
  | [], _, _ => some true
  | f :: fs, xs, ys =>
    if f.name = "_" then none else
    match partV P f.type xs f.offset, partV P f.type ys f.offset with
    | some a, some b => match E f.type a b with
      | some true => eqL P E fs xs ys
      | some false => some false
      | none => none
    | _, _ => none
/-- what a comparison of structs comes to, field by field -/
def andO (a b : Option Bool) : Option Bool :=
  match a with
  | some true => b
  | some false => some false
  | none => none
theorem andO_some (a b : Bool) : andO (some a) (some b) = some (a && b) := by cases a <;> rfl
def eqV (P : Program) : Nat → TypeId → Value → Value → Option Bool
  | 0, _, _, _ => none
  | n + 1, t, x, y =>
    match P.underlying t, x, y with
    | some .bool, .bool a, .bool b => some (a == b)
    | some (.int _), .int k a, .int k' b => if k = k' then some (a == b) else none
    | some .string, .string a, .string b => some (a == b)
    | some (.struct fs), .agg xs, .agg ys => if P.stoodInHeld t = true then none else eqL P (eqV P n) fs.toList xs ys
    | _, _, _ => none

theorem program_run' {P : Program} (w : World) : (program).run P w = .ok P w := rfl

theorem eqL_run {P : Program} {E : TypeId → Value → Value → Option Bool} {S : TypeId → Value → Value → Sem Bool} (hE : ∀ t a b c, E t a b = some c → ∀ w, (S t a b).run P w = .ok c w) {xs ys : Array Value} :
    ∀ (fs : List Field) (c : Bool), eqL P E fs xs ys = some c → ∀ w,
    (do
      for f in fs do
        if f.name ≠ "_" then
          if !(← S f.type (← part f.type xs f.offset) (← part f.type ys f.offset)) then return false
      pure true : Sem Bool).run P w = .ok c w := by
  intro fs
  induction fs with
  | nil => intro c h w; simp only [eqL, Option.some.injEq] at h; subst h; rfl
  | cons f fs ih =>
    intro c h w
    unfold eqL at h
    split at h
    · cases h
    · rename_i hn
      cases h1 : partV P f.type xs f.offset with
      | none => rw [h1] at h; cases h
      | some a =>
        cases h2 : partV P f.type ys f.offset with
        | none => rw [h1, h2] at h; cases h
        | some b =>
          rw [h1, h2] at h
          simp only at h
          cases h3 : E f.type a b with
          | none => rw [h3] at h; cases h
          | some r =>
            rw [h3] at h
            have hS := hE _ _ _ _ h3
            cases r with
            | true =>
              simp only at h
              have h4 := ih c h w
              simp only [List.forIn_cons, Sem.run_bind, ne_eq, hn, not_false_eq_true, if_true, partV_run h1, partV_run h2, Result.andThen_ok, hS, Bool.not_true, Bool.false_eq_true, if_false, Sem.run_pure] at h4 ⊢
              exact h4
            | false =>
              simp only [Option.some.injEq] at h
              subst h
              simp only [List.forIn_cons, Sem.run_bind, ne_eq, hn, not_false_eq_true, if_true, partV_run h1, partV_run h2, Result.andThen_ok, hS, Bool.not_false, if_true, Sem.run_pure]

theorem eqV_run {P : Program} : ∀ (n : Nat) {t : TypeId} {x y : Value} {c : Bool}, eqV P n t x y = some c → ∀ (m : Nat) (w : World), (Op.equalIn (n + m) t x y).run P w = .ok c w := by
  intro n
  induction n with
  | zero => intro t x y c h; cases h
  | succ n ih =>
    intro t x y c h m w
    rw [show n + 1 + m = (n + m) + 1 from by omega]
    unfold eqV at h
    unfold Op.equalIn
    cases hu : P.underlying t with
    | none => rw [hu] at h; cases h
    | some d =>
      rw [hu] at h
      simp only [Sem.run_bind, underlying_run hu, Result.andThen_ok]
      split at h
      · rename_i he; cases he
        simp only [Option.some.injEq] at h; subst h; rfl
      · rename_i he; cases he
        split at h
        · rename_i hk
          simp only [Option.some.injEq] at h; subst h
          simp only [hk, if_true]
          rfl
        · cases h
      · rename_i he; cases he
        simp only [Option.some.injEq] at h; subst h; rfl
      · rename_i fs xs ys he; cases he
        split at h
        · cases h
        · rename_i hs
          have h1 := eqL_run (S := Op.equalIn (n + m)) (fun t a b c hc w => ih hc m w) _ _ h w
          simp only [Sem.run_bind, program_run', Result.andThen_ok, hs, Bool.false_eq_true, if_false]
          rw [← h1]
          simp only [Array.forIn_toList, Sem.run_bind]
      · cases h

section
variable {P : Program} {e : World} {ρ : Fr} {H : Hp} {d : Option Nat} {ty : TypeId} {pos : String} {af : Array Edge} {g : Option (Nat × Bool)} {t yt : TypeId} {x y : Operand}
theorem eqGuard_run {op : BinOp} {X Y : Array Value} (ho : op = .eql ∨ op = .neq) (h : P.eqGuardType P.depth t = false) (w : World) : (eqGuard op t x y (.agg X) (.agg Y)).run P w = .ok () w := by
  rcases ho with rfl | rfl <;>
  · simp only [eqGuard, Bool.not_true, Bool.false_eq_true, if_false, Sem.run_bind, program_run', Result.andThen_ok, h, Bool.not_false, if_true]
    rfl
theorem rd_eqS {X Y : Array Value} {c : Bool} (hx : ev ρ x = .agg X) (hy : ev ρ y = .agg Y) (hg : P.eqGuardType P.depth t = false) (h : eqV P 4 t (.agg X) (.agg Y) = some c) :
    Rd P e ρ H ⟨d, .binOp .eql t x y yt, ty, pos, af, g⟩ (.bool c) := fun w _ => by
  have h1 : (Op.equal t (.agg X) (.agg Y)).run P w = .ok c w := eqV_run 4 h 9996 w
  show Sem.run P (do pure (Next.value (← (do eqGuard .eql t x y (ev ρ x) (ev ρ y); binOp .eql t (ev ρ x) (ev ρ y))))) w = _
  rw [hx, hy, Sem.run_bind, Sem.run_bind, eqGuard_run (.inl rfl) hg]
  show ((do pure (.bool (← Op.equal t (.agg X) (.agg Y))) : Sem Value).run P w).andThen _ = _
  rw [Sem.run_bind, h1]
  rfl
theorem rd_neS {X Y : Array Value} {c v : Bool} (hx : ev ρ x = .agg X) (hy : ev ρ y = .agg Y) (hg : P.eqGuardType P.depth t = false) (h : eqV P 4 t (.agg X) (.agg Y) = some c) (hv : (!c) = v) :
    Rd P e ρ H ⟨d, .binOp .neq t x y yt, ty, pos, af, g⟩ (.bool v) := fun w _ => by
  subst hv
  have h1 : (Op.equal t (.agg X) (.agg Y)).run P w = .ok c w := eqV_run 4 h 9996 w
  show Sem.run P (do pure (Next.value (← (do eqGuard .neq t x y (ev ρ x) (ev ρ y); binOp .neq t (ev ρ x) (ev ρ y))))) w = _
  rw [hx, hy, Sem.run_bind, Sem.run_bind, eqGuard_run (.inr rfl) hg]
  show ((do pure (.bool (!(← Op.equal t (.agg X) (.agg Y)))) : Sem Value).run P w).andThen _ = _
  rw [Sem.run_bind, h1]
  rfl
end

/-! ### Slices that came in -/

def RowAt (cs : Array Value) (o n : Nat) (r : List Value) : Prop := r.length = n ∧ ∀ j v, r[j]? = some v → cs[o + j]? = some v
/-- a slice that can be read: what its elements hold lies in F -/
def InSl (F : Hp) (n : Nat) (rows : List (List Value)) (v : Value) : Prop :=
  ∃ a cap, v = .slice a rows.length cap ∧ rows.length ≤ cap ∧ (∀ r ∈ rows, r.length = n ∧ ones r = true) ∧ (rows = [] ∨ ∃ b o cs T fz, a = some ⟨b, o, none⟩ ∧ (b, Obj.cells cs T fz) ∈ F ∧ RowAt cs o (rows.length * n) rows.flatten)
theorem flat_get {n : Nat} : ∀ {rows : List (List Value)} {i : Nat} {r : List Value}, (∀ r ∈ rows, r.length = n) → rows[i]? = some r → ∀ j v, r[j]? = some v → rows.flatten[i * n + j]? = some v := by
  intro rows
  induction rows with
  | nil => intro i r _ hi; simp at hi
  | cons a rows ih =>
    intro i r hr hi j v hj
    rw [List.flatten_cons]
    have ha := hr a (by simp)
    cases i with
    | zero =>
      simp at hi
      subst hi
      rw [List.getElem?_append_left (by have := (List.getElem?_eq_some_iff.1 hj).1; omega)]
      simpa using hj
    | succ i =>
      rw [List.getElem?_append_right (by rw [ha, Nat.succ_mul]; omega), ha]
      have := ih (fun x hx => hr x (by simp [hx])) (by simpa using hi) j v hj
      rw [← this]
      congr 1
      rw [Nat.succ_mul]
      omega
theorem RowAt.row {cs : Array Value} {o n : Nat} {rows : List (List Value)} {i : Nat} {r : List Value} (h : RowAt cs o (rows.length * n) rows.flatten) (hr : ∀ r ∈ rows, r.length = n) (hi : rows[i]? = some r) : RowAt cs (o + i * n) n r :=
  ⟨hr r (List.mem_of_getElem? hi), fun j v hj => by rw [Nat.add_assoc]; exact h.2 _ v (flat_get hr hi j v hj)⟩
theorem InSl.row {F : Hp} {n : Nat} {rows : List (List Value)} {v : Value} (h : InSl F n rows v) {i : Nat} {r : List Value} (hi : rows[i]? = some r) : ∃ b o cs T fz cap, v = .slice (some ⟨b, o, none⟩) rows.length cap ∧ (b, Obj.cells cs T fz) ∈ F ∧ RowAt cs (o + i * n) n r := by
  obtain ⟨a, cap, rfl, _, hr, h⟩ := h
  rcases h with rfl | ⟨b, o, cs, T, fz, rfl, hm, h⟩
  · simp at hi
  · exact ⟨b, o, cs, T, fz, cap, rfl, hm, h.row (fun r hr' => (hr r hr').1) hi⟩
theorem InSl.more {F F' : Hp} {n : Nat} {rows : List (List Value)} {v : Value} (h : InSl F n rows v) (hs : ∀ x ∈ F, x ∈ F') : InSl F' n rows v := by
  obtain ⟨a, cap, hv, hc, hr, h⟩ := h
  refine ⟨a, cap, hv, hc, hr, ?_⟩
  rcases h with h | ⟨b, o, cs, T, fz, ha, hm, h⟩
  · exact .inl h
  · exact .inr ⟨b, o, cs, T, fz, ha, hs _ hm, h⟩
theorem InSl.nil {F : Hp} {n : Nat} {a : Option Addr} {c : Nat} : InSl F n [] (.slice a 0 c) := ⟨a, c, rfl, Nat.zero_le _, by simp, .inl rfl⟩

theorem RowAt.part {cs : Array Value} {o n : Nat} {r : List Value} (h : RowAt cs o n r) (l k : Nat) (hlk : l + k ≤ n) : RowAt cs (o + l) k ((r.drop l).take k) := by
  refine ⟨by simp [h.1]; omega, fun j v hj => ?_⟩
  rw [List.getElem?_take] at hj
  split at hj
  · rw [List.getElem?_drop] at hj
    rw [Nat.add_assoc]
    exact h.2 _ v hj
  · cases hj
theorem flat_drop {n : Nat} : ∀ {rows : List (List Value)} (l : Nat), (∀ r ∈ rows, r.length = n) → (rows.drop l).flatten = rows.flatten.drop (l * n)
  | _, 0, _ => by simp
  | [], l + 1, _ => by simp
  | a :: rows, l + 1, h => by
    have ha := h a (by simp)
    rw [List.drop_succ_cons, flat_drop l (fun r hr => h r (by simp [hr])), List.flatten_cons, List.drop_append, ha, Nat.succ_mul]
    rw [List.drop_of_length_le (by omega : a.length ≤ l * n + n), List.nil_append]
    congr 1
    omega
theorem flat_take {n : Nat} : ∀ {rows : List (List Value)} (l : Nat), (∀ r ∈ rows, r.length = n) → (rows.take l).flatten = rows.flatten.take (l * n)
  | _, 0, _ => by simp
  | [], l + 1, _ => by simp
  | a :: rows, l + 1, h => by
    have ha := h a (by simp)
    rw [List.take_succ_cons, List.flatten_cons, flat_take l (fun r hr => h r (by simp [hr])), List.flatten_cons, List.take_append, ha, Nat.succ_mul]
    rw [List.take_of_length_le (by omega : a.length ≤ l * n + n)]
    congr 2
    omega
theorem InSl.at {F : Hp} {n : Nat} {rows : List (List Value)} {v : Value} (h : InSl F n rows v) {i : Nat} {r : List Value} (hi : rows[i]? = some r) : ∃ b o cs T fz cap, v = .slice (some ⟨b, o, none⟩) rows.length cap ∧ (b, Obj.cells cs T fz) ∈ F ∧ RowAt cs (o + i * n) n r := h.row hi

section
variable {P : Program} {e : World} {ρ : Fr} {H : Hp} {d : Option Nat} {ty : TypeId} {pos : String} {af : Array Edge} {g : Option (Nat × Bool)}
theorem rd_indexAddrK {x y : Operand} {t el n : TypeId} {b o len c : Nat} {q : IntKind} {k : Nat} (hx : ev ρ x = .slice (some ⟨b, o, none⟩) len c) (hy : ev ρ y = .int q (k : Int)) (ht : P.underlying t = some (.slice el))
    (hs : (sz P el).isSome = true) (hn : (sz P el).getD 0 = n) (h1 : k < len) : Rd P e ρ H ⟨d, .indexAddr t x y, ty, pos, af, g⟩ (.pointer (some ⟨b, o + k * n, none⟩)) := by
  obtain ⟨m, hm⟩ := Option.isSome_iff_exists.1 hs
  rw [hm] at hn
  simp only [Option.getD_some] at hn
  subst hn
  have := rd_indexAddr (e := e) (H := H) (d := d) (ty := ty) (pos := pos) (af := af) (g := g) hx hy ht hm (by omega) (by omega)
  simpa using this
theorem rd_loadR {x : Operand} {t n : TypeId} {b o : Nat} {cs : Array Value} {r : List Value} {T : TypeId} {fz : Nat × Nat} (hx : ev ρ x = .pointer (some ⟨b, o, none⟩)) (hl : aggB P t = true) (hs' : (sz P t).isSome = true) (hn : (sz P t).getD 0 = n)
    (hm : (b, Obj.cells cs T fz) ∈ H) (hr : RowAt cs o n r) : Rd P e ρ H ⟨d, .load t x, ty, pos, af, g⟩ (.agg r.toArray) := fun w hw => by
  have hs : sz P t = some n := by
    obtain ⟨m, hm⟩ := Option.isSome_iff_exists.1 hs'
    rw [hm] at hn ⊢
    exact congrArg some hn
  have h1 : (loadCellsFrom ⟨b, o, none⟩ 0 n #[]).run P w = .ok (#[] ++ r.toArray) w := by
    have := loadCellsFrom_run (P := P) (w := w) (b := b) (o := o) r 0 #[] (fun j v hj => by rw [cell_kn hw hm]; simpa using hr.2 j v hj)
    rw [hr.1] at this
    exact this
  have h0 : (loadVar t ⟨b, o, none⟩).run P w = .ok (.agg r.toArray) w := by
    unfold loadVar
    simp only [Sem.run_bind, isAgg_agg hl, Result.andThen_ok, if_true, sizeOf_run hs, loadCells]
    simp only [h1]
    simp
  have h2 : (Instr.loadAt t (ev ρ x)).run P w = .ok (.agg r.toArray) w := by
    rw [hx]
    simp only [Instr.loadAt, Instr.sureAddr, Sem.run_bind, Sem.run_pure, Result.andThen_ok, h0]
  simp [execOp, h2]
theorem rd_loadA {x : Operand} {t : TypeId} {b o : Nat} {cs : Array Value} {T : TypeId} {fz : Nat × Nat} {v : Value} (hx : ev ρ x = .pointer (some ⟨b, o, none⟩)) (hl : leaf P t = true)
    (hm : (b, Obj.cells cs T fz) ∈ H) (hr : RowAt cs o 1 [v]) : Rd P e ρ H ⟨d, .load t x, ty, pos, af, g⟩ v := rd_load hx hl hm (by simpa using hr.2 0 v rfl)
end

theorem cells_run {w : World} {a : Addr} {n : Nat} {cs : List Value} (hn : 0 < n) (h : w.cells? 0 a n = some cs) : ∃ b o arr T fz, a = ⟨b, o, none⟩ ∧ w.heap[b]? = some (.cells arr T fz) ∧ RowAt arr o n cs := by
  unfold World.cells? at h
  rw [if_pos (Nat.zero_le _)] at h
  have hlen : cs.length = n := by simpa using mapM_some_length h
  have hget : ∀ i, i < n → w.cell? (a.add i) = cs[i]? := fun i hi => mapM_some_get h i i (by simp [hi])
  obtain ⟨b, o, sp⟩ := a
  have h0 := hget 0 hn
  rw [List.getElem?_eq_getElem (by omega)] at h0
  obtain rfl : sp = none := by simpa [Addr.add] using World.cell?_spot h0
  have h1 : w.cell? ⟨b, o, none⟩ = some (cs[0]'(by omega)) := by simpa [Addr.add] using h0
  unfold World.cell? at h1
  cases hb : w.heap[b]? with
  | none => simp [hb] at h1
  | some x =>
    cases x with
    | cells arr T fz =>
      refine ⟨b, o, arr, T, fz, rfl, hb, hlen, fun j v hj => ?_⟩
      have hjn : j < n := by
        have := (List.getElem?_eq_some_iff.1 hj).1
        omega
      have h2 := hget j hjn
      rw [hj, addr_add] at h2
      unfold World.cell? at h2
      simpa [hb] using h2
    | _ => simp [hb] at h1
end Go.Vl
