/-
  Steps of the proof: Vr, Vi.
-/
import Derived.Test.YtpegidbkplgplaaGreatQ06
import Derived.Test.YtpegidbkplgplaaGreatQ03
import Derived.WalkKit
import Derived.ProofKit
import Derived.OpenShut
import Derived.SizedLaws
namespace Go.Vl
open Go.RowKit Go.ChangeShapes Go.WideShapes

inductive LK where
  | int (k : IntKind)
  | bool
  | str
  | sl (e : TypeId)

inductive All2 {α β : Type} (R : α → β → Prop) : List α → List β → Prop
  | nil : All2 R [] []
  | cons {a : α} {b : β} {as : List α} {bs : List β} (h : R a b) (t : All2 R as bs) : All2 R (a :: as) (b :: bs)
theorem All2.append {α β : Type} {R : α → β → Prop} {as cs : List α} {bs ds : List β} (h : All2 R as bs) (t : All2 R cs ds) : All2 R (as ++ cs) (bs ++ ds) := by
  induction h with
  | nil => exact t
  | cons h _ ih => exact .cons h ih

/-- the kinds of a type's cells -/
def kindsF (K : TypeId → Option (List LK)) (S : TypeId → Nat) : Nat → List Field → Option (List LK)
  | _, [] => some []
  | off, f :: fs =>
    match K f.type, kindsF K S (off + S f.type) fs with
    | some l, some r => bif Nat.beq f.offset off then some (l ++ r) else none
    | _, _ => none
def kindsN (l : List LK) : Nat → List LK
  | 0 => []
  | n + 1 => l ++ kindsN l n
def kinds (P : Program) : Nat → TypeId → Option (List LK)
  | 0, _ => none
  | n + 1, t =>
    match P.underlying t with
    | some .bool => some [.bool]
    | some (.int k) => some [.int k]
    | some .string => some [.str]
    | some (.slice e) => some [.sl e]
    | some (.struct fs) => kindsF (kinds P n) P.cellsOf 0 fs.toList
    | some (.array m e) => (kinds P n e).map fun l => kindsN l m
    | _ => none

section
variable {H : Type} {enc : TypeId × Value → H} {P : Program} {w : World}

/-- how many cells the fields have together -/
def fieldsSum (P : Program) (t : TypeId) : Bool :=
  match P.underlying t with
  | some (.struct fs) => Nat.beq (fs.toList.map fun f => P.cellsOf f.type).sum (P.cellsOf t)
  | some (.array m e) => Nat.beq (m * P.cellsOf e) (P.cellsOf t)
  | _ => true
/-- the same, all the way down -/
def sumsOK (P : Program) : Nat → TypeId → Bool
  | 0, _ => true
  | n + 1, t => fieldsSum P t && match P.underlying t with
    | some (.struct fs) => fs.toList.all fun f => sumsOK P n f.type
    | some (.array _ e) => sumsOK P n e
    | _ => true

theorem kindsF_congr {K K' : TypeId → Option (List LK)} {S : TypeId → Nat} : ∀ {fs : List Field} {off : Nat}, (∀ f ∈ fs, K f.type = K' f.type) → kindsF K S off fs = kindsF K' S off fs
  | [], _, _ => rfl
  | f :: fs, off, h => by
    unfold kindsF
    rw [h f (by simp), kindsF_congr (fun x hx => h x (by simp [hx]))]

theorem list_of {α : Type} {Q : Nat → α → Prop} : ∀ (n : Nat), (∀ i, i < n → ∃ x, Q i x) → ∃ xs : List α, xs.length = n ∧ ∀ i x, xs[i]? = some x → Q i x
  | 0, _ => ⟨[], rfl, fun i x h => by simp at h⟩
  | n + 1, h => by
    obtain ⟨xs, hl, hx⟩ := list_of n (fun i hi => h i (by omega))
    obtain ⟨y, hy⟩ := h n (by omega)
    refine ⟨xs ++ [y], by simp [hl], fun i x hix => ?_⟩
    by_cases hi : i < n
    · rw [List.getElem?_append_left (by omega)] at hix
      exact hx i x hix
    · rw [List.getElem?_append_right (by omega)] at hix
      have hlt : i - xs.length < 1 := by
        have := (List.getElem?_eq_some_iff.1 hix).1
        simpa using this
      obtain rfl : i = n := by omega
      rw [hl, Nat.sub_self] at hix
      simp at hix
      subst hix
      exact hy

theorem flat_rows {n : Nat} {cs : Array Value} {o : Nat} : ∀ {rows : List (List Value)}, (∀ r ∈ rows, r.length = n) → (∀ i r, rows[i]? = some r → RowAt cs (o + i * n) n r) → RowAt cs o (rows.length * n) rows.flatten := by
  intro rows
  induction rows generalizing o with
  | nil => intro _ _; exact ⟨by simp, by simp⟩
  | cons a rows ih =>
    intro hr h
    have h0 := h 0 a rfl
    have h1 := ih (o := o + n) (fun r hx => hr r (by simp [hx])) (fun i r hi => by
      have := h (i + 1) r (by simpa using hi)
      rwa [Nat.succ_mul, show o + (i * n + n) = o + n + i * n from by omega] at this)
    have ha := hr a (by simp)
    refine ⟨by rw [List.flatten_cons, List.length_append, h1.1, ha, List.length_cons, Nat.succ_mul, Nat.add_comm], fun j v hj => ?_⟩
    rw [List.flatten_cons] at hj
    by_cases hlt : j < a.length
    · rw [List.getElem?_append_left hlt] at hj
      have := h0.2 j v hj
      simpa using this
    · rw [List.getElem?_append_right (by omega), ha] at hj
      have := h1.2 _ v hj
      rwa [show o + n + (j - n) = o + j from by omega] at this
end
theorem law_true {P : Program} {f : FuncId} {args : Array Value} {w : World} (h : callsK P w f args (all w ++ []) (fun v H => v = .bool true ∧ H = all w ++ [])) : Calls P f args w fun e w' => e = .returned (.bool true) ∧ Below w.heap.size w w' := by
  rw [List.append_nil] at h
  exact law_calls h fun x H hx => ⟨hx.1, [], by rw [hx.2, List.append_nil]⟩
end Go.Vl

namespace Go.Vl
open Go.RowKit Go.ChangeShapes Go.WideShapes

structure Her {H : Type} (P : Program) (G : TypeId → DataW H → Prop) (Bd : TypeId → Nat → Prop) : Prop where
  str : ∀ (t : TypeId) (fs : Array Field) (ps : List (DataW H)) (i : Nat) (f : Field) (p : DataW H), P.underlying t = some (.struct fs) → G t (.agg ps) → fs[i]? = some f → ps[i]? = some p → G f.type p
  arr : ∀ (t m e : Nat) (ps : List (DataW H)) (p : DataW H), P.underlying t = some (.array m e) → G t (.agg ps) → p ∈ ps → G e p
  sl : ∀ (t e : TypeId) (es ss : List (DataW H)), P.underlying t = some (.slice e) → G t (.slice es ss) → (∀ p ∈ es, G e p) ∧ (∀ p ∈ ss, G e p) ∧ Bd e (es.length + ss.length)
  mono : ∀ (e : TypeId) (n m : Nat), Bd e n → m ≤ n → Bd e m
  zero : ∀ e : TypeId, Bd e 0

section
variable {H : Type} {enc : TypeId × Value → H} {P : Program} {w : World} {G : TypeId → DataW H → Prop} {Bd : TypeId → Nat → Prop}
def SlInG (enc : TypeId × Value → H) (P : Program) (w : World) (G : TypeId → DataW H → Prop) (Bd : TypeId → Nat → Prop) (e : TypeId) (v : Value) : Prop :=
  v = .slice none 0 0 ∨ ∃ a len cap, v = .slice (some a) len cap ∧ len ≤ cap ∧ cap ≤ maxLen ∧ Bd e cap ∧
    ∀ i, i < cap → ∃ cs fuel x, w.cells? 0 (a.add (i * P.cellsOf e)) (P.cellsOf e) = some cs ∧ DataW.trod enc P w 0 (fun _ => true) true fuel e cs = some x ∧ G e x.1
def LKg (enc : TypeId × Value → H) (P : Program) (w : World) (G : TypeId → DataW H → Prop) (Bd : TypeId → Nat → Prop) : LK → Value → Prop
  | .int k, v => ∃ n, v = .int k n ∧ (Lit.int k n).wf = true
  | .bool, v => ∃ b, v = .bool b
  | .str, v => ∃ s, v = .string s ∧ s.size ≤ maxLen
  | .sl e, v => SlInG enc P w G Bd e v

theorem mapM_get {α β : Type} {f : α → Option β} : ∀ {l : List α} {r : List β}, l.mapM f = some r → ∀ (i : Nat) (x : α), l[i]? = some x → ∃ y, r[i]? = some y ∧ f x = some y
  | [], _, _, i, x, hx => by simp at hx
  | a :: l, r, h, i, x, hx => by
    rw [List.mapM_cons] at h
    cases ha : f a with
    | none => rw [ha] at h; cases h
    | some y =>
      rw [ha] at h
      cases hl : l.mapM f with
      | none => rw [hl] at h; cases h
      | some ys =>
        rw [hl] at h
        have hr : r = y :: ys := by simpa using h.symm
        subst hr
        cases i with
        | zero =>
          simp at hx
          subst hx
          exact ⟨y, rfl, ha⟩
        | succ i => simpa using mapM_get hl i x (by simpa using hx)

theorem kindsF_okG {K : TypeId → Option (List LK)} {cs : List Value} : ∀ (fs : List Field) (off : Nat) (l : List LK) (T : Nat → List Value → Prop) (_ : ∀ i f l, fs[i]? = some f → K f.type = some l → T i ((cs.drop f.offset).take (P.cellsOf f.type)) → All2 (LKg enc P w G Bd) l ((cs.drop f.offset).take (P.cellsOf f.type))),
      kindsF K P.cellsOf off fs = some l → (∀ i f, fs[i]? = some f → T i ((cs.drop f.offset).take (P.cellsOf f.type))) →
      (fs.map fun f => P.cellsOf f.type).sum + off = cs.length → All2 (LKg enc P w G Bd) l (cs.drop off) := by
  intro fs
  induction fs with
  | nil =>
    intro off l T _ h _ hs
    simp only [kindsF, Option.some.injEq] at h
    subst h
    rw [List.drop_of_length_le (by simp at hs; omega)]
    exact .nil
  | cons f fs ih =>
    intro off l T hK h hT hs
    unfold kindsF at h
    cases h1 : K f.type with
    | none => rw [h1] at h; cases h
    | some l1 =>
      cases h2 : kindsF K P.cellsOf (off + P.cellsOf f.type) fs with
      | none => rw [h1, h2] at h; cases h
      | some l2 =>
        rw [h1, h2] at h
        simp only at h
        cases hb : Nat.beq f.offset off with
        | false => rw [hb] at h; cases h
        | true =>
          rw [hb] at h
          simp only [cond_true, Option.some.injEq] at h
          subst h
          have ho := Nat.eq_of_beq_eq_true hb
          have h3 := hK 0 f l1 rfl h1 (hT 0 f rfl)
          rw [ho] at h3
          have h4 := ih _ _ (fun i => T (i + 1)) (fun i g l hi => hK (i + 1) g l (by simpa using hi)) h2 (fun i x hx => hT (i + 1) x (by simpa using hx)) (by simp at hs; omega)
          have e1 : cs.drop off = (cs.drop off).take (P.cellsOf f.type) ++ cs.drop (off + P.cellsOf f.type) := by
            rw [← List.drop_drop, List.take_append_drop]
          rw [e1]
          exact h3.append h4

theorem trodG_kinds (hG : Her P G Bd) : ∀ (n : Nat) (t : TypeId) (l : List LK) (fuel : Nat) (cs : List Value) (x : DataW H × List MemPlace), kinds P n t = some l → sumsOK P n t = true →
    DataW.trod enc P w 0 (fun _ => true) true fuel t cs = some x → G t x.1 → All2 (LKg enc P w G Bd) l cs := by
  intro n
  induction n with
  | zero => intro t l fuel cs x h; cases h
  | succ n ih =>
    intro t l fuel cs x hk hs ht hg
    cases fuel with
    | zero => simp [DataW.trod] at ht
    | succ fuel =>
      unfold kinds at hk
      unfold sumsOK at hs
      simp only [Bool.and_eq_true] at hs
      obtain ⟨hs1, hs2⟩ := hs
      unfold fieldsSum at hs1
      cases hu : P.underlying t with
      | none => rw [hu] at hk; cases hk
      | some d =>
        rw [hu] at hk hs1 hs2
        cases d with
        | bool =>
          simp only [Option.some.injEq] at hk; subst hk
          obtain ⟨b, rfl, _⟩ := DataW.trod_bool hu ht
          exact .cons ⟨b, rfl⟩ .nil
        | int k =>
          simp only [Option.some.injEq] at hk; subst hk
          obtain ⟨m, rfl, _, hw⟩ := DataW.trod_int hu ht
          exact .cons ⟨m, rfl, hw⟩ .nil
        | string =>
          simp only [Option.some.injEq] at hk; subst hk
          obtain ⟨s, rfl, _, hw⟩ := DataW.trod_string hu ht
          exact .cons ⟨s, rfl, hw⟩ .nil
        | slice e =>
          simp only [Option.some.injEq] at hk; subst hk
          rcases DataW.trod_slice hu ht with ⟨rfl, _⟩ | ⟨a, len, cap, elems, rest, n', _, rfl, hx, hb, hl, hm, hlen, hel, hsp, _⟩
          · exact .cons (.inl rfl) .nil
          · rw [hx] at hg
            obtain ⟨g1, g2, g3⟩ := hG.sl t e _ _ hu hg
            obtain ⟨hr, hre⟩ := hsp rfl
            refine .cons (.inr ⟨a, len, cap, rfl, hl, hm, hG.mono e _ _ g3 (by simp only [List.length_map]; omega), fun i hi => ?_⟩) .nil
            have key : ∃ x, (w.cells? 0 (a.add (i * P.cellsOf e)) (P.cellsOf e)).bind (DataW.trod enc P w 0 (fun _ => true) true n' e) = some x ∧ G e x.1 := by
              by_cases hil : i < len
              · exact ⟨elems[i], by rw [hel i hil]; simp [hlen, hil], g1 _ (List.mem_map.2 ⟨elems[i], List.getElem_mem _, rfl⟩)⟩
              · have h1 := hre (i - len) (by omega)
                have e1 : len + (i - len) = i := by omega
                rw [e1] at h1
                exact ⟨rest[i - len]'(by omega), by rw [h1]; simp, g2 _ (List.mem_map.2 ⟨rest[i - len]'(by omega), List.getElem_mem _, rfl⟩)⟩
            obtain ⟨x', hx', hgx⟩ := key
            cases hc : w.cells? 0 (a.add (i * P.cellsOf e)) (P.cellsOf e) with
            | none => rw [hc] at hx'; cases hx'
            | some cs => rw [hc] at hx'; exact ⟨cs, n', x', rfl, hx', hgx⟩
        | struct fs =>
          simp only at hk hs1 hs2
          obtain ⟨xs, n', _, hxx, hlen, hxl, hx⟩ := DataW.trod_struct hu ht
          rw [List.all_eq_true] at hs2
          rw [hxx] at hg
          have hidx : ∀ (i : Nat) (f : Field), fs.toList[i]? = some f → fs[i]? = some f := fun i f h => by simpa using h
          have h1 := kindsF_okG (enc := enc) (P := P) (w := w) (G := G) (Bd := Bd) (K := fun t => bif fs.toList.any (fun f => Nat.beq f.type t) then kinds P n t else none) (cs := cs) fs.toList 0 l
            (fun i c => ∃ f fuel x, fs[i]? = some f ∧ DataW.trod enc P w 0 (fun _ => true) true fuel f.type c = some x ∧ G f.type x.1)
            (fun i f l hi hK hT => by
              cases ha : fs.toList.any (fun g => Nat.beq g.type f.type) with
              | false => rw [ha] at hK; cases hK
              | true =>
                rw [ha] at hK
                obtain ⟨f', fu, x', hf', hx', hg'⟩ := hT
                have : f' = f := Option.some.inj (hf'.symm.trans (hidx i f hi))
                subst this
                exact ih _ l fu _ x' hK (hs2 _ (List.mem_of_getElem? hi)) hx' hg')
            (by
              rw [← hk]
              refine kindsF_congr fun f hf => ?_
              have : fs.toList.any (fun g => Nat.beq g.type f.type) = true := List.any_eq_true.2 ⟨f, hf, by simp⟩
              simp only [this, cond_true])
            (fun i f hi => by
              have hi2 := hidx i f hi
              have hi' : i < fs.size := (Array.getElem?_eq_some_iff.1 hi2).1
              have h2 := hx i f hi2
              refine ⟨f, n', xs[i]'(by omega), hi2, by rw [h2]; simp [hxl, hi'], ?_⟩
              exact hG.str t fs _ i f _ hu hg hi2 (by rw [List.getElem?_map, List.getElem?_eq_getElem (by omega)]; rfl))
            (by rw [hlen]; simpa using Nat.eq_of_beq_eq_true hs1)
          simpa using h1
        | array m e =>
          simp only at hk hs1 hs2
          cases hk' : kinds P n e with
          | none => rw [hk'] at hk; cases hk
          | some l1 =>
            rw [hk'] at hk
            simp only [Option.map_some, Option.some.injEq] at hk
            subst hk
            unfold DataW.trod at ht
            rw [hu] at ht
            simp only at ht
            split at ht
            · rename_i hlen
              rw [Option.map_eq_some_iff] at ht
              obtain ⟨ys, hys, hxe⟩ := ht
              have hall := mapM_get hys
              have hsz := Nat.eq_of_beq_eq_true hs1
              have : ∀ k, k ≤ m → All2 (LKg enc P w G Bd) (kindsN l1 k) (cs.drop ((m - k) * P.cellsOf e)) := by
                intro k
                induction k with
                | zero =>
                  intro _
                  rw [List.drop_of_length_le (by rw [hlen, ← hsz]; simp)]
                  exact .nil
                | succ k ihk =>
                  intro hkm
                  have h1 := ihk (by omega)
                  obtain ⟨y, hy1, hy⟩ := hall (m - (k + 1)) (m - (k + 1)) (by rw [List.getElem?_range (by omega)])
                  have hgy : G e y.1 := by
                    rw [← hxe] at hg
                    exact hG.arr t m e _ _ hu hg (List.mem_map.2 ⟨y, List.mem_of_getElem? hy1, rfl⟩)
                  have h2 := ih e l1 fuel _ y hk' hs2 hy hgy
                  have e2 : (m - k) * P.cellsOf e = (m - (k + 1)) * P.cellsOf e + P.cellsOf e := by
                    have : m - k = (m - (k + 1)) + 1 := by omega
                    rw [this, Nat.succ_mul]
                  have e1 : cs.drop ((m - (k + 1)) * P.cellsOf e) = (cs.drop ((m - (k + 1)) * P.cellsOf e)).take (P.cellsOf e) ++ cs.drop ((m - k) * P.cellsOf e) := by
                    rw [e2, ← List.drop_drop, List.take_append_drop]
                  rw [e1]
                  exact h2.append h1
              have h3 := this m (Nat.le_refl _)
              simpa using h3
            · cases ht
        | _ => cases hk

/-- A slice that came in, as a list of what its elements hold, with its bound. -/
theorem slInG_rows {α : Type} {e : TypeId} {v : Value} {ks : List LK} {C : α → List Value} {Wf : α → Prop} (hG : Her P G Bd) (h : SlInG enc P w G Bd e v) (hk : kinds P 8 e = some ks) (hs : sumsOK P 8 e = true) (hn : 0 < P.cellsOf e)
    (hdec : ∀ cs, All2 (LKg enc P w G Bd) ks cs → ∃ x, cs = C x ∧ Wf x) (hone : ∀ x, ones (C x) = true) : ∃ xs : List α, InSl (all w) (P.cellsOf e) (xs.map C) v ∧ (∀ x ∈ xs, Wf x) ∧ xs.length ≤ maxLen ∧ Bd e xs.length := by
  rcases h with rfl | ⟨a, len, cap, rfl, hl, hm, hbd, hc⟩
  · exact ⟨[], .nil, by simp, Nat.zero_le _, hG.zero e⟩
  · obtain ⟨xs, hxl, hxs⟩ := list_of (α := α) (Q := fun i x => Wf x ∧ w.cells? 0 (a.add (i * P.cellsOf e)) (P.cellsOf e) = some (C x)) len (fun i hi => by
      obtain ⟨cs, fuel, y, h1, h2, h3⟩ := hc i (by omega)
      obtain ⟨x, rfl, hw⟩ := hdec cs (trodG_kinds hG 8 e ks fuel cs y hk hs h2 h3)
      exact ⟨x, hw, h1⟩)
    have hrl : ∀ r ∈ xs.map C, r.length = P.cellsOf e ∧ ones r = true := by
      intro r hr
      obtain ⟨x, hx, rfl⟩ := List.mem_map.1 hr
      obtain ⟨i, hi, rfl⟩ := List.getElem_of_mem hx
      obtain ⟨_, _, _, _, _, _, _, hra⟩ := cells_run hn (hxs i _ (List.getElem?_eq_getElem hi)).2
      exact ⟨hra.1, hone _⟩
    refine ⟨xs, ⟨some a, cap, by simp [hxl], by simp [hxl]; omega, hrl, ?_⟩, fun x hx => ?_, by omega, hG.mono e _ _ hbd (by omega)⟩
    · cases hxe : xs with
      | nil => exact .inl rfl
      | cons x0 xs' =>
        have hlen : 0 < xs.length := by rw [hxe]; simp
        obtain ⟨b0, o0, arr, T, fz, ha0, hb0, _⟩ := cells_run hn (hxs 0 _ (List.getElem?_eq_getElem hlen)).2
        have e0 : a = ⟨b0, o0, none⟩ := by simpa [Addr.add] using ha0
        subst e0
        rw [← hxe]
        refine .inr ⟨b0, o0, arr, T, fz, rfl, mem_all hb0, flat_rows (fun r hr => (hrl r hr).1) fun i r hr => ?_⟩
        rw [List.getElem?_map, Option.map_eq_some_iff] at hr
        obtain ⟨x, hx, rfl⟩ := hr
        obtain ⟨b, o, arr', T', fz', ha, hb, hra⟩ := cells_run hn (hxs i x hx).2
        rw [addr_add] at ha
        cases ha
        rw [hb0] at hb
        cases hb
        exact hra
    · obtain ⟨i, hi, rfl⟩ := List.getElem_of_mem hx
      exact (hxs i _ (List.getElem?_eq_getElem hi)).1
theorem inSl_val {F : Hp} {n : Nat} {rows : List (List Value)} {v : Value} (h : InSl F n rows v) : ∃ a c, v = .slice a rows.length c := by
  obtain ⟨a, c, h1, _⟩ := h
  exact ⟨a, c, h1⟩
/-- bytes that came in -/
theorem slInG_bytes {e : TypeId} {v : Value} (hG : Her P G Bd) (h : SlInG enc P w G Bd e v) (he : kinds P 8 e = some [.int .u8]) (hs : sumsOK P 8 e = true) (hn : P.cellsOf e = 1) : ∃ (bs : List UInt8) (a : Option Addr) (c : Nat), v = .slice a bs.length c ∧ InSl (all w) 1 (bs.map byC) v ∧ bs.length ≤ maxLen ∧ Bd e bs.length := by
  obtain ⟨bs, h1, _, h2, h3⟩ := slInG_rows (C := byC) (Wf := fun _ => True) hG h he hs (by omega) (fun cs hcs => by
    obtain _ | ⟨⟨n, rfl, hw⟩, hcs⟩ := hcs
    cases hcs
    have hb : (2 ^ IntKind.u8.bits : Int) = 256 := rfl
    have : 0 ≤ n ∧ n < 256 := by
      have h1 : IntKind.u8.min = 0 := rfl
      have h2 : IntKind.u8.max = 255 := rfl
      simp [Lit.wf] at hw
      omega
    refine ⟨UInt8.ofNat n.toNat, ?_, trivial⟩
    rw [byC, UInt8.toNat_ofNat', show ((n.toNat % 2 ^ 8 : Nat) : Int) = n from by omega]) (fun _ => rfl)
  rw [hn] at h1
  obtain ⟨a, c, h4⟩ := inSl_val h1
  rw [List.length_map] at h4
  exact ⟨bs, a, c, h4, h1, h2, h3⟩

/-! the two readings' bounds -/
def bdR (P : Program) (e : TypeId) (n : Nat) : Prop := n * P.bytesOf e ≤ reachBytes
def gR (P : Program) (t : TypeId) (d : DataW H) : Prop := ∀ n ∈ d.weights P t, n ≤ reachBytes
theorem weightsAll_mem {P : Program} {e : TypeId} {n : Nat} : ∀ {l : List (DataW H)} {p : DataW H}, p ∈ l → n ∈ p.weights P e → n ∈ DataW.weightsAll P e l
  | d :: l, p, hp, hn => by
    simp only [DataW.weightsAll, List.mem_append]
    rcases List.mem_cons.1 hp with rfl | hp
    · exact .inl hn
    · exact .inr (weightsAll_mem hp hn)
theorem herR (P : Program) : Her P (gR (H := H) P) (bdR P) where
  str t fs ps i f p hu hg hf hp := fun n hn => hg n (by
    simp only [DataW.weights, hu]
    exact DataW.weights_mem_each (j := i) (by simpa using congrArg (Option.map Field.type) hf) hp n hn)
  arr t m e ps p hu hg hp := fun n hn => hg n (by
    simp only [DataW.weights, hu]
    exact weightsAll_mem hp hn)
  sl t e es ss hu hg := by
    refine ⟨fun p hp n hn => hg n ?_, fun p hp n hn => hg n ?_, hg _ ?_⟩
    · simp only [DataW.weights, hu, List.mem_cons, List.mem_append]
      exact .inr (.inl (weightsAll_mem hp hn))
    · simp only [DataW.weights, hu, List.mem_cons, List.mem_append]
      exact .inr (.inr (weightsAll_mem hp hn))
    · simp [DataW.weights, hu]
  mono e n m h hm := Nat.le_trans (Nat.mul_le_mul_right _ hm) h
  zero e := by simp [bdR]
theorem gR_at {P : Program} {ts : List TypeId} {ds : List (DataW H)} (h : (DataW.weightsEach P ts ds).all (· ≤ reachBytes) = true) {j : Nat} {t : TypeId} {d : DataW H} (ht : ts[j]? = some t) (hd : ds[j]? = some d) : gR P t d :=
  fun n hn => by simpa using List.all_eq_true.1 h n (DataW.weights_mem_each ht hd n hn)
end
end Go.Vl
