/-
  The acceptor as a plain thing: ballots, entries, what was accepted by slots. No program in sight.
-/
import Derived.Test.YtpegidbkplgplaaVs
import Derived.Test.YtpegidbkplgplaaVt
import Derived.Test.YtpegidbkplgplaaVx
namespace Go.Vl
structure Bal where
  r : Int
  p : Int
deriving DecidableEq
abbrev Bal.cells (b : Bal) : List Value := [.int .i64 b.r, .int .i64 b.p]
def Bal.lt (a b : Bal) : Prop := a.r < b.r ∨ (a.r = b.r ∧ a.p < b.p)
instance (a b : Bal) : Decidable (a.lt b) := inferInstanceAs (Decidable (_ ∨ _))
def balCmp (a b : Bal) : Int := if a.lt b then -1 else if a = b then 0 else 1
def Bal.ok (b : Bal) : Prop := 1 ≤ b.r ∧ b.r ≤ 1099511627776 ∧ 0 ≤ b.p ∧ b.p < 5
instance (b : Bal) : Decidable b.ok := inferInstanceAs (Decidable (_ ∧ _))
def slotOK (n : Int) : Prop := 0 ≤ n ∧ n ≤ 1099511627776
instance (n : Int) : Decidable (slotOK n) := inferInstanceAs (Decidable (_ ∧ _))
set_option maxHeartbeats 4000000 in
set_option maxRecDepth 100000 in
theorem Bal.lt_irrefl (a : Bal) : ¬ a.lt a := fun h => by unfold Bal.lt at h; omega
set_option maxHeartbeats 4000000 in
set_option maxRecDepth 100000 in
theorem Bal.lt_trans {a b c : Bal} (h : a.lt b) (g : b.lt c) : a.lt c := by unfold Bal.lt at *; omega
set_option maxHeartbeats 4000000 in
set_option maxRecDepth 100000 in
theorem Bal.not_lt {a b : Bal} (h : ¬ a.lt b) (g : a ≠ b) : b.lt a := by
  obtain ⟨x, y⟩ := a
  obtain ⟨z, w⟩ := b
  unfold Bal.lt at *
  simp only [ne_eq, Bal.mk.injEq] at *
  omega
/-- an operation's content -/
structure OpC where
  time : Int
  site : Int
  kind : Int
  node : Int
  parent : Int
  name : ByteArray
  key : ByteArray
  val : ByteArray
abbrev OpC.cells (o : OpC) : List Value := [.int .i64 o.time, .int .i64 o.site, .int .i64 o.kind, .int .i64 o.node, .int .i64 o.parent, .string o.name, .string o.key, .string o.val]
/-- an entry's content -/
structure EnC where
  kind : Int
  ses : Int
  req : Int
  op : OpC
  origin : Int
  seq : Int
  ops : List OpC
  num : Int
  st : Nat → Int
  sea : Nat → Int
  spo : Nat → Int
  src : Int
  vec : Nat → Int
  clock : Int
  snap : Int
  idx : Int
  many : Int
  data : List UInt8
  site : Int
  sponsor : Int
  len : Int
/-- something accepted -/
structure Sl where
  slot : Int
  bal : Bal
  en : EnC
def Sorted (L : List Sl) : Prop := L.Pairwise fun a b => a.slot < b.slot
def putS : List Sl → Sl → List Sl
  | [], x => [x]
  | y :: L, x => if y.slot < x.slot then y :: putS L x else if y.slot = x.slot then x :: L else x :: y :: L
set_option maxHeartbeats 4000000 in
set_option maxRecDepth 100000 in
theorem putS_mem {x z : Sl} : ∀ {L : List Sl}, z ∈ putS L x → z = x ∨ z ∈ L
  | [], h => .inl (List.mem_singleton.1 h)
  | y :: L, h => by
    unfold putS at h
    split at h
    · rcases List.mem_cons.1 h with rfl | h
      · exact .inr (by simp)
      · exact (putS_mem h).imp id (fun h => by simp [h])
    · split at h
      · rcases List.mem_cons.1 h with rfl | h
        · exact .inl rfl
        · exact .inr (by simp [h])
      · rcases List.mem_cons.1 h with rfl | h
        · exact .inl rfl
        · exact .inr h
set_option maxHeartbeats 4000000 in
set_option maxRecDepth 100000 in
theorem putS_sorted {x : Sl} : ∀ {L : List Sl}, Sorted L → Sorted (putS L x)
  | [], _ => List.pairwise_singleton _ _
  | y :: L, h => by
    unfold Sorted at h ⊢
    rw [List.pairwise_cons] at h
    unfold putS
    split
    · rename_i hlt
      rw [List.pairwise_cons]
      refine ⟨fun z hz => ?_, putS_sorted h.2⟩
      rcases putS_mem hz with rfl | hz
      · exact hlt
      · exact h.1 z hz
    · split
      · rename_i h1 h2
        exact List.pairwise_cons.2 ⟨fun z hz => by rw [← h2]; exact h.1 z hz, h.2⟩
      · rename_i h1 h2
        refine List.pairwise_cons.2 ⟨fun z hz => ?_, List.pairwise_cons.2 h⟩
        rcases List.mem_cons.1 hz with rfl | hz
        · omega
        · have := h.1 z hz; omega
set_option maxHeartbeats 4000000 in
set_option maxRecDepth 100000 in
theorem putS_perm {x : Sl} : ∀ {L : List Sl}, Sorted L → (putS L x).Perm (x :: L.filter fun z => decide (z.slot ≠ x.slot))
  | [], _ => .refl _
  | y :: L, h => by
    unfold Sorted at h
    rw [List.pairwise_cons] at h
    unfold putS
    split
    · rename_i hlt
      rw [List.filter_cons_of_pos (by simp; omega)]
      exact ((putS_perm h.2).cons y).trans (.swap _ _ _)
    · have hf : ∀ z ∈ L, y.slot < z.slot := h.1
      split
      · rename_i h1 h2
        rw [List.filter_cons_of_neg (by simp [h2]), List.filter_eq_self.2 (fun z hz => by have := hf z hz; simp; omega)]
      · rename_i h1 h2
        rw [List.filter_cons_of_pos (by simpa using h2), List.filter_eq_self.2 (fun z hz => by have := hf z hz; simp; omega)]
set_option maxHeartbeats 4000000 in
set_option maxRecDepth 100000 in
theorem sorted_perm {L M : List Sl} (hL : Sorted L) (hM : Sorted M) (hp : L.Perm M) : L = M := by
  refine List.Perm.eq_of_pairwise (le := fun a b : Sl => a.slot < b.slot) ?_ hL hM hp
  intro a b _ _ h1 h2
  omega
set_option maxHeartbeats 4000000 in
set_option maxRecDepth 100000 in
theorem Sorted.filter {L : List Sl} (h : Sorted L) (p : Sl → Bool) : Sorted (L.filter p) := List.Pairwise.sublist List.filter_sublist h
set_option maxHeartbeats 4000000 in
set_option maxRecDepth 100000 in
theorem Sorted.slots {L : List Sl} (h : Sorted L) : (L.map Sl.slot).Nodup := List.Pairwise.map _ (fun a b hab he => by have : a.slot = b.slot := he; omega) h
/-- an acceptor's state -/
structure Ac where
  prom : Bal
  first : Int
  L : List Sl
structure Ac.ok (a : Ac) : Prop where
  srt : Sorted a.L
  slot : ∀ x ∈ a.L, slotOK x.slot ∧ x.bal.ok ∧ ¬ a.prom.lt x.bal
  first : slotOK a.first
def fromS (L : List Sl) (n : Int) : List Sl := L.filter fun x => decide (n ≤ x.slot)
def Ac.prepare (a : Ac) (b : Bal) (n : Int) : Int × List Sl × Ac :=
  if ¬ b.ok ∨ ¬ slotOK n then (1, [], a) else if b.lt a.prom then (70, [], a) else (0, fromS a.L n, ⟨b, a.first, a.L⟩)
def Ac.accept (a : Ac) (b : Bal) (n : Int) (e : EnC) : Int × Ac :=
  if ¬ b.ok ∨ ¬ slotOK n then (1, a) else if b.lt a.prom then (70, a) else if n < a.first then (71, a) else (0, ⟨b, a.first, putS a.L ⟨n, b, e⟩⟩)
def Ac.forget (a : Ac) (n : Int) : Int × Ac :=
  if ¬ slotOK n then (1, a) else (0, ⟨a.prom, if a.first < n then n else a.first, fromS a.L n⟩)
end Go.Vl
