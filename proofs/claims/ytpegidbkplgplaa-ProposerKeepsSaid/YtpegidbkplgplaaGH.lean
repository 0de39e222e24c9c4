/-
  A leader's side of Paxos in plain words; its place in memory.
-/
import Derived.Test.YtpegidbkplgplaaGG
namespace Go.Vl
open Go.Proofs Classical
structure Ol where
  slot : Int
  en : EnC
  v : Nat → Bool
structure Ld where
  b : Bal
  fr : Int
  n : Nat
  p : Nat → Bool
  ready : Bool
  came : List (Int × Sl)
  L : List Ol
  next : Int
def cnt5 (v : Nat → Bool) : Nat := (v 0).toNat + (v 1).toNat + (v 2).toNat + (v 3).toNat + (v 4).toNat
def maj (n : Nat) : Nat := n / 2 + 1
def setv (v : Nat → Bool) (k : Nat) : Nat → Bool := fun j => if j = k then true else v j
set_option maxHeartbeats 4000000 in
set_option maxRecDepth 100000 in
theorem setv_same (v : Nat → Bool) (k : Nat) : setv v k k = true := if_pos rfl
set_option maxHeartbeats 4000000 in
set_option maxRecDepth 100000 in
theorem setv_ne {v : Nat → Bool} {k j : Nat} (h : j ≠ k) : setv v k j = v j := if_neg h
set_option maxHeartbeats 4000000 in
set_option maxRecDepth 100000 in
theorem cnt_set {v : Nat → Bool} {k : Nat} (hk : k < 5) (h : v k = false) : cnt5 (setv v k) = cnt5 v + 1 := by
  unfold cnt5 setv
  rcases (by omega : k = 0 ∨ k = 1 ∨ k = 2 ∨ k = 3 ∨ k = 4) with rfl | rfl | rfl | rfl | rfl <;> simp [h] <;> omega
set_option maxHeartbeats 4000000 in
set_option maxRecDepth 100000 in
theorem cnt_le (v : Nat → Bool) : cnt5 v ≤ 5 := by
  unfold cnt5
  have := Bool.toNat_le (v 0); have := Bool.toNat_le (v 1); have := Bool.toNat_le (v 2); have := Bool.toNat_le (v 3); have := Bool.toNat_le (v 4)
  omega
abbrev noV : Nat → Bool := fun _ => false
def good1 (a : Ld) (l : List Sl) : Prop := ∀ i s, l[i]? = some s → a.fr ≤ s.slot ∧ s.slot ≤ 1099511627776 ∧ s.bal.lt a.b ∧ ∀ t ∈ l.take i, t.slot ≠ s.slot
def good3 (a : Ld) (l : List Sl) : Prop := ∀ s ∈ l, s.slot - a.fr ≤ 4096
def good4 (l : List Sl) : Prop := ∀ s ∈ l, mayE s.en
noncomputable def Ld.wrong (a : Ld) (l : List Sl) : Int := if ¬ good1 a l then 1 else if ¬ good3 a l then 3 else if ¬ good4 l then 40 else 0
def best1 (came : List (Int × Sl)) (x : Sl) : List (Int × Sl) := match aget came x.slot with
  | some o => if o.bal.lt x.bal then aput came x.slot x else came
  | none => aput came x.slot x
structure IsLast (fr : Int) (came : List (Int × Sl)) (m : Int) : Prop where
  lo : fr - 1 ≤ m
  hi : ∀ p ∈ came, p.1 ≤ m
  at_ : m = fr - 1 ∨ ∃ p ∈ came, p.1 = m
def lastS (fr : Int) (came : List (Int × Sl)) : Int := came.foldl (fun m p => max m p.1) (fr - 1)
set_option maxHeartbeats 4000000 in
set_option maxRecDepth 100000 in
theorem isLast_fold {fr : Int} : ∀ (came done : List (Int × Sl)) (m : Int), IsLast fr done m → IsLast fr (done ++ came) (came.foldl (fun m p => max m p.1) m)
  | [], done, m, h => by simpa using h
  | p :: came, done, m, h => by
    have hI : IsLast fr (done ++ [p]) (max m p.1) := by
      refine ⟨?_, ?_, ?_⟩
      · have := h.lo; omega
      · intro q hq
        rcases List.mem_append.1 hq with hq | hq
        · have := h.hi q hq; omega
        · rw [List.mem_singleton.1 hq]; omega
      · by_cases hc : m ≤ p.1
        · exact .inr ⟨p, by simp, by omega⟩
        · rcases h.at_ with g | ⟨q, hq, g⟩
          · exact .inl (by omega)
          · exact .inr ⟨q, by simp [hq], by omega⟩
    have := isLast_fold came (done ++ [p]) (max m p.1) hI
    rw [List.append_assoc] at this
    exact this
set_option maxHeartbeats 4000000 in
set_option maxRecDepth 100000 in
theorem isLast_lastS (fr : Int) (came : List (Int × Sl)) : IsLast fr came (lastS fr came) := by
  have := isLast_fold came [] (fr - 1) ⟨Int.le_refl _, fun p h => (by cases h), .inl rfl⟩
  rw [List.nil_append] at this
  exact this
set_option maxHeartbeats 4000000 in
set_option maxRecDepth 100000 in
theorem IsLast.uniq {fr : Int} {came : List (Int × Sl)} {m k : Int} (h : IsLast fr came m) (g : IsLast fr came k) : m = k := by
  rcases h.at_ with h1 | ⟨p, hp, h1⟩
  · rcases g.at_ with g1 | ⟨q, hq, g1⟩
    · omega
    · have := h.hi q hq; have := g.lo; omega
  · rcases g.at_ with g1 | ⟨q, hq, g1⟩
    · have := g.hi p hp; have := h.lo; omega
    · have := h.hi q hq; have := g.hi p hp; omega
set_option maxHeartbeats 4000000 in
set_option maxRecDepth 100000 in
theorem IsLast.perm {fr : Int} {a b : List (Int × Sl)} {m : Int} (h : IsLast fr a m) (hp : a.Perm b) : IsLast fr b m :=
  ⟨h.lo, fun p hb => h.hi p (hp.mem_iff.2 hb), h.at_.imp id fun ⟨p, hp1, h2⟩ => ⟨p, hp.mem_iff.1 hp1, h2⟩⟩
def entOf (came : List (Int × Sl)) (s : Int) : EnC := match aget came s with
  | some o => o.en
  | none => zeroE.c
def fillS (came : List (Int × Sl)) (nx : Int) : Nat → List Ol
  | 0 => []
  | k + 1 => fillS came nx k ++ [⟨nx + (k : Int), entOf came (nx + (k : Int)), noV⟩]
def Ld.more (a : Ld) : Nat := (lastS a.fr a.came + 1 - a.next).toNat
def beginA (a : Ld) : Ld := { a with ready := true, L := a.L ++ fillS a.came a.next a.more, next := a.next + (a.more : Int) }
noncomputable def Ld.promise (a : Ld) (k : Int) (l : List Sl) : (Bool × Int) × Ld :=
  if k < 0 ∨ (a.n : Int) ≤ k then ((false, 1), a) else if a.wrong l ≠ 0 then ((false, a.wrong l), a) else if a.p k.toNat = true then ((false, 5), a)
  else if a.ready = true then ((true, 0), { a with p := setv a.p k.toNat })
  else if maj a.n ≤ cnt5 (setv a.p k.toNat) then ((true, 0), beginA { a with p := setv a.p k.toNat, came := l.foldl best1 a.came })
  else ((false, 0), { a with p := setv a.p k.toNat, came := l.foldl best1 a.came })
abbrev zeroSlc : Sl := ⟨0, ⟨0, 0⟩, zeroE.c⟩
noncomputable def Ld.put (a : Ld) (e : EnC) : (Sl × Int) × Ld :=
  if ¬ mayE e then ((zeroSlc, 40), a) else if a.ready = false then ((zeroSlc, 80), a) else if 1099511627776 < a.next then ((zeroSlc, 3), a)
  else ((⟨a.next, a.b, e⟩, 0), { a with L := a.L ++ [⟨a.next, e, noV⟩], next := a.next + 1 })
def findO (L : List Ol) (s : Int) : Option Ol := L.find? fun x => decide (x.slot = s)
def setO (L : List Ol) (s : Int) (k : Nat) : List Ol := L.map fun x => if x.slot = s then { x with v := setv x.v k } else x
noncomputable def Ld.accepted (a : Ld) (k : Int) (s : Int) : (Bool × Int) × Ld :=
  if k < 0 ∨ (a.n : Int) ≤ k then ((false, 1), a) else match findO a.L s with
  | none => ((false, 4), a)
  | some x => if x.v k.toNat = true then ((false, 5), a) else ((decide (cnt5 x.v + 1 = maj a.n), 0), { a with L := setO a.L s k.toNat })
def Ol.ch (n : Nat) (x : Ol) : Bool := decide (maj n ≤ cnt5 x.v)
def Ld.waits (a : Ld) : List Sl := (a.L.filter fun x => !x.ch a.n).map fun x => ⟨x.slot, a.b, x.en⟩
structure Ld.ok (a : Ld) : Prop where
  n1 : 1 ≤ a.n
  n5 : a.n ≤ 5
  f0 : 0 ≤ a.fr
  f1 : a.fr ≤ 1099511627776
  x0 : a.fr ≤ a.next
  x1 : a.next ≤ 1099511627777
  key : ∀ p ∈ a.came, p.1 = p.2.slot ∧ a.fr ≤ p.1 ∧ p.1 ≤ 1099511627776 ∧ p.1 ≤ a.fr + 4096
  nod : (a.came.map Prod.fst).Nodup
  srt : a.L.Pairwise fun x y => x.slot < y.slot
  sl : ∀ x ∈ a.L, a.fr ≤ x.slot ∧ x.slot < a.next
  idle : a.ready = false → a.L = [] ∧ a.next = a.fr
/-! in memory -/
structure Opn where
  slot : Int
  o : Nat
  en : EnR
  v : Nat → Bool
  ch : Bool
abbrev Opn.cells (x : Opn) : List Value := [.int .i64 x.en.c.kind, .int .i64 x.en.c.ses, .int .i64 x.en.c.req,
  .int .i64 x.en.c.op.time, .int .i64 x.en.c.op.site, .int .i64 x.en.c.op.kind, .int .i64 x.en.c.op.node, .int .i64 x.en.c.op.parent, .string x.en.c.op.name, .string x.en.c.op.key, .string x.en.c.op.val,
  .int .i64 x.en.c.origin, .int .i64 x.en.c.seq, x.en.vo,
  .int .i64 x.en.c.num, .int .i64 (x.en.c.st 0), .int .i64 (x.en.c.st 1), .int .i64 (x.en.c.st 2), .int .i64 (x.en.c.st 3), .int .i64 (x.en.c.st 4), .int .i64 (x.en.c.st 5), .int .i64 (x.en.c.st 6), .int .i64 (x.en.c.st 7),
  .int .i64 (x.en.c.sea 0), .int .i64 (x.en.c.sea 1), .int .i64 (x.en.c.sea 2), .int .i64 (x.en.c.sea 3), .int .i64 (x.en.c.sea 4), .int .i64 (x.en.c.sea 5), .int .i64 (x.en.c.sea 6), .int .i64 (x.en.c.sea 7),
  .int .i64 (x.en.c.spo 0), .int .i64 (x.en.c.spo 1), .int .i64 (x.en.c.spo 2), .int .i64 (x.en.c.spo 3), .int .i64 (x.en.c.spo 4), .int .i64 (x.en.c.spo 5), .int .i64 (x.en.c.spo 6), .int .i64 (x.en.c.spo 7),
  .int .i64 x.en.c.src, .int .i64 (x.en.c.vec 0), .int .i64 (x.en.c.vec 1), .int .i64 (x.en.c.vec 2), .int .i64 (x.en.c.vec 3), .int .i64 (x.en.c.vec 4), .int .i64 (x.en.c.vec 5), .int .i64 (x.en.c.vec 6), .int .i64 (x.en.c.vec 7),
  .int .i64 x.en.c.clock, .int .i64 x.en.c.snap, .int .i64 x.en.c.idx, .int .i64 x.en.c.many, x.en.vd, .int .i64 x.en.c.site, .int .i64 x.en.c.sponsor, .int .i64 x.en.c.len,
  .bool (x.v 0), .bool (x.v 1), .bool (x.v 2), .bool (x.v 3), .bool (x.v 4), .bool x.ch]
abbrev Opn.c (x : Opn) : Ol := ⟨x.slot, x.en.c, x.v⟩
def opH (L : List Opn) : Hp := L.map fun x => (x.o, cellsO x.cells 112)
set_option maxHeartbeats 4000000 in
set_option maxRecDepth 100000 in
theorem opH_app (a b : List Opn) : opH (a ++ b) = opH a ++ opH b := List.map_append
set_option maxHeartbeats 4000000 in
set_option maxRecDepth 100000 in
theorem opH_cons (x : Opn) (l : List Opn) : opH (x :: l) = (x.o, cellsO x.cells 112) :: opH l := rfl
abbrev ldV (b : Bal) (fr : Int) (n : Nat) (p : Nat → Bool) (ready : Bool) (m1 m2 : Nat) (next : Int) : List Value := [.int .i64 b.r, .int .i64 b.p, .int .i64 fr, .int .i64 (n : Int), .bool (p 0), .bool (p 1), .bool (p 2), .bool (p 3), .bool (p 4), .bool ready, .map (some m1), .map (some m2), .int .i64 next]
abbrev ldC (a : Ld) (m1 m2 : Nat) : List Value := ldV a.b a.fr a.n a.p a.ready m1 m2 a.next
/-- the known blocks of a leader -/
structure LdR where
  m1 : Nat
  m2 : Nat
  bes : Array MapEntry
  bclk : Nat
  ses : Array MapEntry
  sclk : Nat
  lb : List (Int × SlR)
  lo : List Opn
  M : Hp
abbrev LdR.hp (r : LdR) (a : Ld) (d : Nat) : Hp := [(d, cellsO (ldC a r.m1 r.m2) 89), (r.m1, .map r.bes r.bclk), (r.m2, .map r.ses r.sclk)] ++ (opH r.lo ++ r.M)
structure LdR.ok (r : LdR) (a : Ld) : Prop where
  best : MapK (Value.int .i64) slV r.bes r.bclk r.lb
  open_ : MapK (Value.int .i64) pv r.ses r.sclk (r.lo.map fun x => (x.slot, x.o))
  came : r.lb.map (fun p => (p.1, p.2.c)) = a.came
  L : r.lo.map Opn.c = a.L
  ch : ∀ x ∈ r.lo, x.ch = decide (maj a.n ≤ cnt5 x.v)
  bi : ∀ p ∈ r.lb, EnIn r.M p.2.en ∧ EnSz p.2.en.c
  li : ∀ x ∈ r.lo, EnIn r.M x.en ∧ EnSz x.en.c
  a : a.ok
def LdO (a : Ld) (d : Nat) (H : Hp) : Prop := ∃ r : LdR, r.ok a ∧ H = r.hp a d
end Go.Vl
