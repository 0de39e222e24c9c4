/-
  A replica's promise: what it makes of the leader, in plain words.
-/
import Derived.Test.YtpegidbkplgplaaGL
namespace Go.Vl
open Go.Proofs Classical
set_option maxHeartbeats 4000000 in
set_option maxRecDepth 100000 in
theorem aput_cOf {k : Int} {v : SlR} : ∀ {lb : List (Int × SlR)}, cOf (aput lb k v) = aput (cOf lb) k v.c
  | [] => rfl
  | p :: lb => by
    unfold aput
    show cOf (if p.1 = k then (k, v) :: lb else p :: aput lb k v) = if p.1 = k then (k, v.c) :: cOf lb else (p.1, p.2.c) :: aput (cOf lb) k v.c
    split
    · rfl
    · show (p.1, p.2.c) :: cOf (aput lb k v) = _
      rw [aput_cOf]
set_option maxHeartbeats 4000000 in
set_option maxRecDepth 100000 in
theorem mem_aput {α : Type} {k : Int} {v : α} : ∀ {l : List (Int × α)} {p : Int × α}, p ∈ aput l k v → p = (k, v) ∨ p ∈ l
  | [], p, h => .inl (List.mem_singleton.1 h)
  | q :: l, p, h => by
    unfold aput at h
    split at h
    · rcases List.mem_cons.1 h with h | h
      · exact .inl h
      · exact .inr (List.mem_cons_of_mem _ h)
    · rcases List.mem_cons.1 h with h | h
      · exact .inr (by rw [h]; simp)
      · exact (mem_aput h).imp id (List.mem_cons_of_mem _)
set_option maxHeartbeats 4000000 in
set_option maxRecDepth 100000 in
theorem best1_keep {came : List (Int × Sl)} {x o : Sl} (h : aget came x.slot = some o) (hl : ¬ o.bal.lt x.bal) : best1 came x = came := by
  unfold best1; rw [h]; exact if_neg hl
set_option maxHeartbeats 4000000 in
set_option maxRecDepth 100000 in
theorem best1_put {came : List (Int × Sl)} {x : Sl} (h : ∀ o, aget came x.slot = some o → o.bal.lt x.bal) : best1 came x = aput came x.slot x := by
  unfold best1
  cases hg : aget came x.slot with
  | none => rfl
  | some o => exact if_pos (h o hg)
set_option maxHeartbeats 4000000 in
set_option maxRecDepth 100000 in
theorem wrong_zero {a : Ld} {l : List Sl} (h : a.wrong l = 0) : good1 a l ∧ good3 a l ∧ good4 l := by
  unfold Ld.wrong at h
  split at h
  · cases h
  · split at h
    · cases h
    · split at h
      · cases h
      · rename_i h1 h2 h3
        exact ⟨Classical.not_not.1 h1, Classical.not_not.1 h2, Classical.not_not.1 h3⟩
def keyOK1 (a : Ld) (came : List (Int × Sl)) : Prop := (∀ p ∈ came, p.1 = p.2.slot ∧ a.fr ≤ p.1 ∧ p.1 ≤ 1099511627776 ∧ p.1 ≤ a.fr + 4096) ∧ (came.map Prod.fst).Nodup
set_option maxHeartbeats 4000000 in
set_option maxRecDepth 100000 in
theorem best1_ok {a : Ld} {came : List (Int × Sl)} {x : Sl} (h : keyOK1 a came) (h1 : a.fr ≤ x.slot) (h2 : x.slot ≤ 1099511627776) (h3 : x.slot - a.fr ≤ 4096) : keyOK1 a (best1 came x) := by
  have hp : keyOK1 a (aput came x.slot x) := ⟨fun p hp => by
    rcases mem_aput hp with rfl | hp
    · exact ⟨rfl, h1, h2, by simp only; omega⟩
    · exact h.1 p hp, aput_nodup h.2⟩
  unfold best1
  split
  · split
    · exact hp
    · exact h
  · exact hp
set_option maxHeartbeats 4000000 in
set_option maxRecDepth 100000 in
theorem fold_ok {a : Ld} : ∀ {l : List Sl} {came : List (Int × Sl)}, keyOK1 a came → (∀ s ∈ l, a.fr ≤ s.slot ∧ s.slot ≤ 1099511627776 ∧ s.slot - a.fr ≤ 4096) → keyOK1 a (l.foldl best1 came)
  | [], _, h, _ => h
  | x :: l, came, h, g => fold_ok (l := l) (best1_ok h (g x (by simp)).1 (g x (by simp)).2.1 (g x (by simp)).2.2) fun s hs => g s (List.mem_cons_of_mem _ hs)
set_option maxHeartbeats 4000000 in
set_option maxRecDepth 100000 in
theorem ok_setp {a : Ld} (h : a.ok) (p : Nat → Bool) : Ld.ok { a with p := p } := ⟨h.n1, h.n5, h.f0, h.f1, h.x0, h.x1, h.key, h.nod, h.srt, h.sl, h.idle⟩
set_option maxHeartbeats 4000000 in
set_option maxRecDepth 100000 in
theorem ok_came {a : Ld} (h : a.ok) (p : Nat → Bool) {l : List Sl} (hw : a.wrong l = 0) : Ld.ok { a with p := p, came := l.foldl best1 a.came } := by
  obtain ⟨g1, g3, _⟩ := wrong_zero hw
  have hk : keyOK1 a (l.foldl best1 a.came) := fold_ok ⟨h.key, h.nod⟩ fun s hs => by
    obtain ⟨i, hi⟩ := List.mem_iff_getElem?.1 hs
    have := g1 i s hi
    exact ⟨this.1, this.2.1, g3 s hs⟩
  exact ⟨h.n1, h.n5, h.f0, h.f1, h.x0, h.x1, hk.1, hk.2, h.srt, h.sl, h.idle⟩
set_option maxHeartbeats 4000000 in
set_option maxRecDepth 100000 in
theorem ldAt (a : Ld) (m1 m2 : Nat) {k : Nat} (hk : k < 5) : (ldC a m1 m2)[0 + 4 + k * 1]? = some (.bool (a.p k)) := by
  rcases (by omega : k = 0 ∨ k = 1 ∨ k = 2 ∨ k = 3 ∨ k = 4) with rfl | rfl | rfl | rfl | rfl <;> rfl
set_option maxHeartbeats 4000000 in
set_option maxRecDepth 100000 in
theorem ldSet (b : Bal) (fr : Int) (n : Nat) (p : Nat → Bool) (ready : Bool) (m1 m2 : Nat) (next : Int) {k : Nat} (hk : k < 5) : (ldV b fr n p ready m1 m2 next).set (0 + 4 + k * 1) (.bool true) = ldV b fr n (setv p k) ready m1 m2 next := by
  rcases (by omega : k = 0 ∨ k = 1 ∨ k = 2 ∨ k = 3 ∨ k = 4) with rfl | rfl | rfl | rfl | rfl <;> rfl
set_option maxHeartbeats 4000000 in
set_option maxRecDepth 100000 in
theorem r_setp {r : LdR} {a : Ld} (h : r.ok a) (p : Nat → Bool) : r.ok { a with p := p } := ⟨h.best, h.open_, h.came, h.L, h.ch, h.bi, h.li, ok_setp h.a p⟩
structure PmS where
  j : Nat
  bes : Array MapEntry
  bclk : Nat
  lb : List (Int × SlR)
  M : Hp
structure PmOK (a : Ld) (l : List Sl) (M0 : Hp) (s : PmS) : Prop where
  map : MapK (Value.int .i64) slV s.bes s.bclk s.lb
  came : cOf s.lb = (l.take s.j).foldl best1 a.came
  bi : ∀ p ∈ s.lb, EnIn s.M p.2.en ∧ EnSz p.2.en.c
  more : ∀ x ∈ M0, x ∈ s.M
set_option maxHeartbeats 4000000 in
set_option maxRecDepth 100000 in
theorem PmOK.keep {a : Ld} {l : List Sl} {M0 : Hp} {s : PmS} (h : PmOK a l M0 s) {x : SlR} (hx : l[s.j]? = some x.c) {o : SlR} (hg : aget s.lb x.slot = some o) (hl : ¬ o.bal.lt x.bal) : PmOK a l M0 ⟨s.j + 1, s.bes, s.bclk, s.lb, s.M⟩ :=
  ⟨h.map, by
    rw [List.take_add_one, hx]
    show _ = (l.take s.j ++ [x.c]).foldl best1 a.came
    rw [List.foldl_append, ← h.came]
    exact (best1_keep (o := o.c) (by rw [show x.c.slot = x.slot from rfl, aget_lb, hg]; rfl) hl).symm, h.bi, h.more⟩
set_option maxHeartbeats 4000000 in
set_option maxRecDepth 100000 in
theorem PmOK.put {a : Ld} {l : List Sl} {M0 : Hp} {s : PmS} (h : PmOK a l M0 s) {x : SlR} (hx : l[s.j]? = some x.c) (hl : ∀ o, aget s.lb x.slot = some o → o.bal.lt x.bal) {y : EnR} (hy : y.c = x.en.c) {Bo Bd : Hp} (hO : EnO y Bo Bd) (hz : EnSz x.en.c) {es : Array MapEntry} {clk : Nat}
    (hM : MapK (Value.int .i64) slV es clk (aput s.lb x.slot ⟨x.slot, x.bal, y, [], []⟩)) : PmOK a l M0 ⟨s.j + 1, es, clk, aput s.lb x.slot ⟨x.slot, x.bal, y, [], []⟩, (Bo ++ Bd) ++ s.M⟩ := by
  refine ⟨hM, ?_, ?_, fun z hz => List.mem_append_right _ (h.more z hz)⟩
  · rw [List.take_add_one, hx]
    show _ = (l.take s.j ++ [x.c]).foldl best1 a.came
    rw [List.foldl_append, ← h.came, aput_cOf]
    have : best1 (cOf s.lb) x.c = aput (cOf s.lb) x.c.slot x.c := best1_put fun o ho => by
      rw [show x.c.slot = x.slot from rfl, aget_lb] at ho
      cases hg : aget s.lb x.slot with
      | none => rw [hg] at ho; cases ho
      | some q => rw [hg] at ho; cases ho; exact hl q hg
    show _ = best1 (cOf s.lb) x.c
    rw [this]
    show aput (cOf s.lb) x.slot ⟨x.slot, x.bal, y.c⟩ = aput (cOf s.lb) x.slot ⟨x.slot, x.bal, x.en.c⟩
    rw [hy]
  · intro p hp
    rcases mem_aput hp with rfl | hp
    · exact ⟨(EnO.inn hO).more fun z hz => List.mem_append_left _ hz, by rw [show y.c = x.en.c from hy]; exact hz⟩
    · exact ⟨((h.bi p hp).1).more fun z hz => List.mem_append_right _ hz, (h.bi p hp).2⟩
end Go.Vl
