/-
  Steps of the proof: Vu, Vy.
-/
import Derived.Test.YtpegidbkplgplaaGreatQ04
import Derived.Laws.IdiomStrings
import Derived.Test.YtpegidbkplgplaaGreatQ03
namespace Go.Vl
open Go.RowKit
abbrev byC (b : UInt8) : List Value := [.int .u8 (b.toNat : Int)]
theorem byC_flat (l : List UInt8) : (l.map byC).flatten = l.map fun b => Value.int .u8 (b.toNat : Int) := by
  induction l with
  | nil => rfl
  | cons a l ih => simp [ih]
section
variable {P : Program} {e : World} {ρ : Fr} {F H : Hp} {d : Option Nat} {ty : TypeId} {pos : String} {af : Array Edge} {g : Option (Nat × Bool)}
theorem rd_bytesStr {x : Operand} {s t el : TypeId} {v : Value} {bs : List UInt8} (hx : ev ρ x = v) (hin : InSl F 1 (bs.map byC) v) (hF : Subs F H) (hs : P.underlying s = some (.slice el)) (he : P.underlying el = some (.int .u8)) (ht : P.underlying t = some .string) :
    Rd P e ρ H ⟨d, .convert s t x, ty, pos, af, g⟩ (.string ⟨bs.toArray⟩) := by
  intro w hw
  obtain ⟨a, c, rfl, hc, hr, hm⟩ := hin
  have h0 : (convert s t (.slice a (bs.map byC).length c)).run P w = .ok (.string ⟨bs.toArray⟩) w := by
    rw [List.length_map]
    cases a with
    | none =>
      have hb : bs = [] := by
        rcases hm with hm | ⟨b, o, cs, T, fz, ha, _⟩
        · simpa using hm
        · cases ha
      subst hb
      rw [run_convert_bytes_string w s t el none _ c hs he ht]
      rfl
    | some a =>
      refine run_convert_bytes_back w s t el a c bs hs he ht fun j hj => ?_
      rcases hm with hm | ⟨b, o, cs, T, fz, ha, hm, hra⟩
      · have hb : bs = [] := by simpa using hm
        subst hb
        simp at hj
      · cases ha
        rw [addr_add, cell_kn hw (hF _ hm)]
        refine hra.2 j _ ?_
        rw [byC_flat, List.getElem?_map, List.getElem?_eq_getElem hj]
        rfl
  simp [execOp, hx, h0, -List.length_map]
/-- a slice cut from its beginning, with a capacity -/
theorem rd_slice3 {x y z : Operand} {t el : TypeId} {n : Nat} {a : Option Addr} {len c i j : Nat} {q r : IntKind} (hx : ev ρ x = .slice a len c) (hy : ev ρ y = .int q (i : Int)) (hz : ev ρ z = .int r (j : Int)) (ht : P.underlying t = some (.slice el)) (hs : sz P el = some n)
    (hij : i ≤ j) (hjc : j ≤ c) (ha : j = 0 ∨ ∀ u, a = some u → ∃ b o, u = ⟨b, o, none⟩) : Rd P e ρ H ⟨d, .slice t x none (some y) (some z), ty, pos, af, g⟩ (.slice a i j) := by
  intro w _
  have h0 : (Instr.sliceAt t (ev ρ x) none (some (ev ρ y)) (some (ev ρ z))).run P w = .ok (.slice a i j) w := by
    rw [hx, hy, hz]
    have hb : (0 : Int) ≤ (i : Int) ∧ (i : Int) ≤ (j : Int) := ⟨by omega, by omega⟩
    have hb2 : (0 : Int) ≤ (j : Int) ∧ (j : Int) ≤ (c : Int) := ⟨by omega, by omega⟩
    unfold Instr.sliceAt Instr.slice Instr.sliceBounds Instr.sliceBound
    simp only [Sem.run_bind, underlying_run ht, Result.andThen_ok, asIntOf, Sem.run_pure, hb, hb2, and_self, if_true, sizeOf_run hs, Int.toNat_natCast, Nat.sub_zero]
    rcases ha with rfl | ha
    · simp
    · cases a with
      | none => simp
      | some u =>
        obtain ⟨b, o, rfl⟩ := ha _ rfl
        simp [addr_add]
  simp [execOp, h0]
theorem rd_min {x y : Operand} {a b : Int} {q : IntKind} {ats : Array TypeId} (hx : ev ρ x = .int q a) (hy : ev ρ y = .int q b) : Rd P e ρ H ⟨d, .call ⟨.builtin .min, #[x, y], ats⟩, ty, pos, af, g⟩ (.int q (if b < a then b else a)) := by
  intro w _
  simp [execOp, resolve, invoke, Go.builtin, Builtin.min_, Builtin.min2, hx, hy]
theorem rd_max {x y : Operand} {a b : Int} {q : IntKind} {ats : Array TypeId} (hx : ev ρ x = .int q a) (hy : ev ρ y = .int q b) : Rd P e ρ H ⟨d, .call ⟨.builtin .max, #[x, y], ats⟩, ty, pos, af, g⟩ (.int q (if a < b then b else a)) := by
  intro w _
  simp [execOp, resolve, invoke, Go.builtin, Builtin.max_, Builtin.max2, hx, hy]
end
section
variable {C : Cx} {ρ : Fr} {H : Hp} {d : Option Nat} {ty : TypeId} {pos : String} {af : Array Edge} {g : Option (Nat × Bool)} {K : Value → Hp → Prop}
/-- '[]byte("..")' of a constant: the row's mark -/
theorem ex_mark {s el : TypeId} {x : Operand} {b o len cap : Nat} {cs : Array Value} {T : TypeId} {f : Obj → Hp} (hx : ev ρ x = .slice (some ⟨b, o, none⟩) len cap) (hs : C.P.underlying s = some (.slice el)) (he : C.P.underlying el = some (.int .u8))
    (hz : Zip H b (.cells cs T (0, 0)) f) (h : K (.slice (some ⟨b, o, none⟩) len cap) (f (.cells cs T (cs.size, cs.size + 1)))) : Ex C ⟨d, .convert s s x, ty, pos, af, g⟩ K ρ H := fun w hw => by
  have hb := hw.has _ hz.mem
  simp only at hb
  have h0 : (convert s s (.slice (some ⟨b, o, none⟩) len cap)).run C.P w = .ok (.slice (some ⟨b, o, none⟩) len cap) (w.freeze ⟨b, cs.size, none⟩ 1) := by
    simp [convert, run_underlying hs, run_underlying he, markStringish, World.shape?, hb]
  have h1 : (execOp (ev ρ) ⟨d, .convert s s x, ty, pos, af, g⟩).run C.P w = .ok (.value (.slice (some ⟨b, o, none⟩) len cap)) (w.freeze ⟨b, cs.size, none⟩ 1) := by
    simp [execOp, hx, h0]
  rw [h1]
  refine ⟨_, hw.set hz rfl rfl rfl (o' := .cells cs T (cs.size, cs.size + 1)) ?_ ?_, h⟩
  · simp [World.freeze, Array.getElem?_modify, hb]
  · intro k hk
    simp [World.freeze, Array.getElem?_modify, Ne.symm hk]
/-- an empty slice that is none of nil -/
theorem ex_buildNil {t el : TypeId} {n : Nat} (ht : C.P.underlying t = some (.slice el)) (hs : sz C.P el = some n) (h : ∀ v B, SlO el n v 0 [] B → K v (B ++ H)) : Ex C ⟨d, .buildSlice t 0 #[], ty, pos, af, g⟩ K ρ H := fun w hw => by
  have h0 : (Instr.buildSlice t 0 #[]).run C.P w = .ok (.slice (some ⟨w.heap.size, 0, none⟩) 0 0) (w.alloc (.cells #[] el)) := by
    have ha : ∀ f : Nat → Value, Array.map f (Array.range 0) = #[] := fun f => Array.eq_empty_of_size_eq_zero (by simp)
    simp [Instr.buildSlice, run_underlying ht, sizeOf_run hs, Instr.fill, newRow, ha]
  have h1 : (execOp (ev ρ) ⟨d, .buildSlice t 0 #[], ty, pos, af, g⟩).run C.P w = .ok (.value (.slice (some ⟨w.heap.size, 0, none⟩) 0 0)) (w.alloc (.cells #[] el)) := by
    simp [execOp, h0]
  rw [h1]
  exact ⟨_, hw.alloc _, h _ [(w.heap.size, .cells #[] el (0, 0))] ⟨by simp, .inr ⟨_, 0, #[], rfl, rfl, Nat.le_refl _, Nat.zero_le _, by simp, by simp⟩⟩⟩
/-- a store into a row that is owned -/
theorem ex_storeO {t g n cap i : Nat} {x y : Operand} {u : Value} {cur : Array Value} {xs : List Value} {T : TypeId} {f : Obj → Hp} {gd : Option (Nat × Bool)} (hx : ev ρ x = .pointer (some ⟨g, i, none⟩)) (hy : ev ρ y = u) (hs : sz C.P t = some 1) (ho : u.oneCell' = true)
    (hS : SlO T 1 (.slice (some ⟨g, 0, none⟩) n cap) n xs [(g, .cells cur T (0, 0))]) (hi : i < n) (hz : Zip H g (.cells cur T (0, 0)) f)
    (h : ∀ cur', SlO T 1 (.slice (some ⟨g, 0, none⟩) n cap) n (xs.set i u) [(g, .cells cur' T (0, 0))] → K undef (f (.cells cur' T (0, 0)))) : Ex C ⟨d, .store t x y, ty, pos, af, gd⟩ K ρ H := by
  rcases hS with ⟨hl, ⟨a, ha, hn, _⟩ | ⟨g', cap', cur', hv, hB, hn, hc, hcs, ht⟩⟩
  · omega
  · simp only [Value.slice.injEq, Option.some.injEq, Addr.mk.injEq, and_true, true_and] at hv
    obtain ⟨rfl, rfl⟩ := hv
    simp only [List.cons.injEq, Prod.mk.injEq, Obj.cells.injEq, and_true, true_and] at hB
    subst hB
    have hz' : Zip H g (cellsO cur.toList T) f := by simpa [cellsO] using hz
    refine ex_store1 hx hy hs ho hz' (by simp [Nat.ble_eq]; omega) rfl ?_
    refine h _ ⟨by simpa using hl, .inr ⟨g, cap, _, rfl, rfl, hn, hc, by simpa using hcs, ?_⟩⟩
    rw [← ht]
    simp [List.take_set]
end
section
variable {P : Program} {e : World} {ρ : Fr} {H : Hp} {d : Option Nat} {ty : TypeId} {pos : String} {af : Array Edge} {g : Option (Nat × Bool)}
/-- the beginning of an owned slice -/
theorem rd_sliceHiO {x y : Operand} {t el : TypeId} {n k m : Nat} {v : Value} {xs : List Value} {Bs : Hp} {q : IntKind} (hx : ev ρ x = v) (hS : SlO el n v m xs Bs) (hy : ev ρ y = .int q (k : Int)) (ht : P.underlying t = some (.slice el)) (hs : sz P el = some n) (hk : k ≤ m) :
    ∃ v', SlO el n v' k (xs.take (k * n)) Bs ∧ Rd P e ρ H ⟨d, .slice t x none (some y) none, ty, pos, af, g⟩ v' := by
  have hc : ∃ a c, v = .slice a m c ∧ m ≤ c ∧ SlO el n (.slice (if c = 0 then a else a.map (·.add (0 * n))) k (c - 0)) k (xs.take (k * n)) Bs := by
    rcases hS with ⟨hl, ⟨a, rfl, rfl, rfl⟩ | ⟨g', cap', cur', rfl, rfl, hn, hc, hcs, ht⟩⟩
    · obtain rfl : k = 0 := by omega
      exact ⟨a, 0, rfl, Nat.le_refl _, by simp, .inl ⟨_, rfl, rfl, rfl⟩⟩
    · refine ⟨_, cap', rfl, hn, ?_, .inr ⟨g', cap', cur', ?_, rfl, by omega, hc, hcs, ?_⟩⟩
      · rw [List.length_take, hl, Nat.min_eq_left (Nat.mul_le_mul_right _ hk)]
      · split <;> simp [addr_add]
      · rw [← ht, List.take_take, Nat.min_eq_left (Nat.mul_le_mul_right _ hk)]
  obtain ⟨a, c, rfl, hmc, h1⟩ := hc
  refine ⟨_, h1, fun w _ => ?_⟩
  have h0 : (Instr.sliceAt t (ev ρ x) none (some (ev ρ y)) none).run P w = .ok (.slice (if c = 0 then a else a.map (·.add (0 * n))) k (c - 0)) w := by
    rw [hx, hy]
    have hb : (0 : Int) ≤ (k : Int) ∧ (k : Int) ≤ (c : Int) := ⟨by omega, by omega⟩
    unfold Instr.sliceAt Instr.slice Instr.sliceBounds Instr.sliceBound
    simp only [Sem.run_bind, underlying_run ht, Result.andThen_ok, asIntOf, Sem.run_pure, hb, and_self, if_true, sizeOf_run hs, Int.toNat_natCast, Nat.sub_zero]
  simp [execOp, h0]
theorem flat_takeT {α : Type} {C' : α → List Value} {n : Nat} (hn : ∀ a, (C' a).length = n) : ∀ (k : Nat) (ws : List α), (ws.map C').flatten.take (k * n) = ((ws.take k).map C').flatten
  | 0, ws => by simp
  | k + 1, [] => by simp
  | k + 1, a :: ws => by
    rw [List.map_cons, List.flatten_cons, List.take_succ_cons, List.map_cons, List.flatten_cons, ← flat_takeT hn k ws, Nat.succ_mul, Nat.add_comm, ← hn a, List.take_length_add_append]
theorem rd_sliceHiT {α : Type} {C' : α → List Value} {ws : List α} {x y : Operand} {t el : TypeId} {n k : Nat} {v : Value} {Bs : Hp} {q : IntKind} (hx : ev ρ x = v) (hS : SlO el n v ws.length (ws.map C').flatten Bs) (hy : ev ρ y = .int q (k : Int)) (ht : P.underlying t = some (.slice el)) (hs : sz P el = some n) (hn : ∀ a, (C' a).length = n) (hk : k ≤ ws.length) :
    ∃ v', SlO el n v' (ws.take k).length ((ws.take k).map C').flatten Bs ∧ Rd P e ρ H ⟨d, .slice t x none (some y) none, ty, pos, af, g⟩ v' := by
  obtain ⟨v', h1, h2⟩ := rd_sliceHiO (P := P) (e := e) (H := H) (d := d) (ty := ty) (pos := pos) (af := af) (g := g) hx hS hy ht hs hk
  refine ⟨v', ?_, h2⟩
  rw [List.length_take, Nat.min_eq_left hk, ← flat_takeT hn]
  exact h1
/-- 's[:len(s):len(s)]' of an owned slice -/
theorem rd_clipO {x y z : Operand} {t el : TypeId} {n m : Nat} {v : Value} {xs : List Value} {Bs : Hp} {q r : IntKind} (hx : ev ρ x = v) (hS : SlO el n v m xs Bs) (hy : ev ρ y = .int q (m : Int)) (hz : ev ρ z = .int r (m : Int)) (ht : P.underlying t = some (.slice el)) (hs : sz P el = some n) :
    ∃ v', SlO el n v' m xs Bs ∧ Rd P e ρ H ⟨d, .slice t x none (some y) (some z), ty, pos, af, g⟩ v' := by
  rcases hS with ⟨hl, ⟨a, rfl, rfl, rfl⟩ | ⟨g', cap', cur', rfl, rfl, hn, hc, hcs, ht'⟩⟩
  · refine ⟨.slice a 0 0, ⟨hl, .inl ⟨a, rfl, rfl, rfl⟩⟩, rd_slice3 (n := n) hx hy hz ht hs (Nat.le_refl _) (Nat.le_refl _) (.inl rfl)⟩
  · exact ⟨.slice (some ⟨g', 0, none⟩) m m, ⟨hl, .inr ⟨g', m, cur', rfl, rfl, Nat.le_refl _, by omega, Nat.le_trans (Nat.mul_le_mul_right _ hn) hcs, ht'⟩⟩, rd_slice3 (n := n) hx hy hz ht hs (Nat.le_refl _) hn (.inr fun u hu => by cases hu; exact ⟨_, _, rfl⟩)⟩
/-- 's[:0:0]' -/
theorem rd_slice00 {x : Operand} {a : Option Addr} {len c n : Nat} {t el : TypeId} {q r : IntKind} {y z : Operand} (hx : ev ρ x = .slice a len c) (hy : ev ρ y = .int q 0) (hz : ev ρ z = .int r 0) (ht : P.underlying t = some (.slice el)) (hs : sz P el = some n) : Rd P e ρ H ⟨d, .slice t x none (some y) (some z), ty, pos, af, g⟩ (.slice a 0 0) :=
  rd_slice3 (i := 0) (j := 0) hx hy hz ht hs (Nat.le_refl _) (Nat.zero_le _) (.inl rfl)
theorem rd_bytesStrO {x : Operand} {s t el : TypeId} {v : Value} {bs : List UInt8} {Bs : Hp} (hx : ev ρ x = v) (hS : SlO el 1 v bs.length (bs.map byC).flatten Bs) (hF : Subs Bs H) (hs : P.underlying s = some (.slice el)) (he : P.underlying el = some (.int .u8)) (ht : P.underlying t = some .string) :
    Rd P e ρ H ⟨d, .convert s t x, ty, pos, af, g⟩ (.string ⟨bs.toArray⟩) :=
  rd_bytesStr hx (SlO.inB (by rw [List.length_map]; exact hS) (fun r hr => by obtain ⟨u, _, rfl⟩ := List.mem_map.1 hr; exact ⟨rfl, rfl⟩)) hF hs he ht
theorem rd_addNN {x y : Operand} {a b : Nat} {t yt : TypeId} (hx : ev ρ x = .int .i64 (a : Int)) (hy : ev ρ y = .int .i64 (b : Int)) (h : (a : Int) + (b : Int) ≤ 9223372036854775807) : Rd P e ρ H ⟨d, .binOp .add t x y yt, ty, pos, af, g⟩ (.int .i64 ((a + b : Nat) : Int)) := rd_add64 hx hy (by omega) h
theorem rd_subNN {x y : Operand} {a b : Nat} {t yt : TypeId} (hx : ev ρ x = .int .i64 (a : Int)) (hy : ev ρ y = .int .i64 (b : Int)) (h : b ≤ a) (h1 : (a : Int) ≤ 9223372036854775807) : Rd P e ρ H ⟨d, .binOp .sub t x y yt, ty, pos, af, g⟩ (.int .i64 ((a - b : Nat) : Int)) := by
  have := rd_sub64 (P := P) (e := e) (H := H) (d := d) (t := t) (yt := yt) (ty := ty) (pos := pos) (af := af) (g := g) hx hy (by omega) (by omega)
  rwa [show (a : Int) - (b : Int) = ((a - b : Nat) : Int) from by omega] at this
theorem rd_minNN {x y : Operand} {a b : Nat} {q : IntKind} {ats : Array TypeId} (hx : ev ρ x = .int q (a : Int)) (hy : ev ρ y = .int q (b : Int)) : Rd P e ρ H ⟨d, .call ⟨.builtin .min, #[x, y], ats⟩, ty, pos, af, g⟩ (.int q ((min a b : Nat) : Int)) := by
  have := rd_min (P := P) (e := e) (H := H) (d := d) (ty := ty) (pos := pos) (af := af) (g := g) (ats := ats) hx hy
  rwa [show (if (b : Int) < (a : Int) then (b : Int) else (a : Int)) = ((min a b : Nat) : Int) from by split <;> omega] at this
end
end Go.Vl

namespace Go.Vl
open Go.RowKit

def eqAr (P : Program) (E : Value → Value → Option Bool) (el : TypeId) (n : Nat) (xs ys : Array Value) : Nat → Nat → Option Bool
  | 0, _ => some true
  | k + 1, i =>
    match partV P el xs (i * n), partV P el ys (i * n) with
    | some a, some b => match E a b with
      | some true => eqAr P E el n xs ys k (i + 1)
      | some false => some false
      | none => none
    | _, _ => none
def eqW (P : Program) : Nat → TypeId → Value → Value → Option Bool
  | 0, _, _, _ => none
  | n + 1, t, x, y =>
    match P.underlying t, x, y with
    | some .bool, .bool a, .bool b => some (a == b)
    | some (.int _), .int k a, .int k' b => if k = k' then some (a == b) else none
    | some .string, .string a, .string b => some (a == b)
    | some (.struct fs), .agg xs, .agg ys => if P.stoodInHeld t = true then none else eqL P (eqW P n) fs.toList xs ys
    | some (.array len el), .agg xs, .agg ys => match sz P el with
      | some s => eqAr P (eqW P n el) el s xs ys len 0
      | none => none
    | _, _, _ => none

theorem eqAr_run {P : Program} {E : Value → Value → Option Bool} {S : Value → Value → Sem Bool} (hE : ∀ a b c, E a b = some c → ∀ w, (S a b).run P w = .ok c w) {el : TypeId} {n : Nat} {xs ys : Array Value} :
    ∀ (k i : Nat) (c : Bool), eqAr P E el n xs ys k i = some c → ∀ w,
    (do
      for i in List.range' i k do
        if !(← S (← part el xs (i * n)) (← part el ys (i * n))) then return false
      pure true : Sem Bool).run P w = .ok c w := by
  intro k
  induction k with
  | zero => intro i c h w; simp only [eqAr, Option.some.injEq] at h; subst h; rfl
  | succ k ih =>
    intro i c h w
    unfold eqAr at h
    cases h1 : partV P el xs (i * n) with
    | none => rw [h1] at h; cases h
    | some a =>
      cases h2 : partV P el ys (i * n) with
      | none => rw [h1, h2] at h; cases h
      | some b =>
        rw [h1, h2] at h
        simp only at h
        cases h3 : E a b with
        | none => rw [h3] at h; cases h
        | some r =>
          rw [h3] at h
          have hS := hE _ _ _ h3
          cases r with
          | true =>
            simp only at h
            have h4 := ih (i + 1) c h w
            simp only [List.range'_succ, List.forIn_cons, Sem.run_bind, partV_run h1, partV_run h2, Result.andThen_ok, hS, Bool.not_true, Bool.false_eq_true, if_false, Sem.run_pure] at h4 ⊢
            exact h4
          | false =>
            simp only [Option.some.injEq] at h
            subst h
            simp only [List.range'_succ, List.forIn_cons, Sem.run_bind, partV_run h1, partV_run h2, Result.andThen_ok, hS, Bool.not_false, if_true, Sem.run_pure]

theorem eqW_run {P : Program} : ∀ (n : Nat) {t : TypeId} {x y : Value} {c : Bool}, eqW P n t x y = some c → ∀ (m : Nat) (w : World), (Op.equalIn (n + m) t x y).run P w = .ok c w := by
  intro n
  induction n with
  | zero => intro t x y c h; cases h
  | succ n ih =>
    intro t x y c h m w
    rw [show n + 1 + m = (n + m) + 1 from by omega]
    unfold eqW at h
    unfold Op.equalIn
    cases hu : P.underlying t with
    | none => rw [hu] at h; cases h
    | some d =>
      rw [hu] at h
      simp only [Sem.run_bind, underlying_run hu, Result.andThen_ok]
      split at h
      · rename_i he; cases he
        simp only [Option.some.injEq] at h; subst h; rfl
      · rename_i he; cases he
        split at h
        · rename_i hk
          simp only [Option.some.injEq] at h; subst h
          simp only [hk, if_true]
          rfl
        · cases h
      · rename_i he; cases he
        simp only [Option.some.injEq] at h; subst h; rfl
      · rename_i fs xs ys he; cases he
        split at h
        · cases h
        · rename_i hs
          have h1 := eqL_run (S := Op.equalIn (n + m)) (fun t a b c hc w => ih hc m w) _ _ h w
          simp only [Sem.run_bind, program_run', Result.andThen_ok, hs, Bool.false_eq_true, if_false]
          rw [← h1]
          simp only [Array.forIn_toList, Sem.run_bind]
      · rename_i len el xs ys he; cases he
        cases hs : sz P el with
        | none => rw [hs] at h; cases h
        | some s =>
          rw [hs] at h
          simp only at h
          have h1 := eqAr_run (S := Op.equalIn (n + m) el) (fun a b c hc w => ih hc m w) _ _ _ h w
          simp only [Sem.run_bind, sizeOf_run hs, Result.andThen_ok]
          rw [← h1]
          simp only [Std.Legacy.Range.forIn_eq_forIn_range', Std.Legacy.Range.size, Nat.sub_zero, Nat.add_sub_cancel, Nat.div_one, Sem.run_bind]
      · cases h

section
variable {P : Program} {e : World} {ρ : Fr} {H : Hp} {d : Option Nat} {ty : TypeId} {pos : String} {af : Array Edge} {g : Option (Nat × Bool)} {t yt : TypeId} {x y : Operand}
theorem rd_eqA {X Y : Array Value} {c : Bool} (hx : ev ρ x = .agg X) (hy : ev ρ y = .agg Y) (hg : P.eqGuardType P.depth t = false) (h : eqW P 4 t (.agg X) (.agg Y) = some c) :
    Rd P e ρ H ⟨d, .binOp .eql t x y yt, ty, pos, af, g⟩ (.bool c) := fun w _ => by
  have h1 : (Op.equal t (.agg X) (.agg Y)).run P w = .ok c w := eqW_run 4 h 9996 w
  show Sem.run P (do pure (Next.value (← (do eqGuard .eql t x y (ev ρ x) (ev ρ y); binOp .eql t (ev ρ x) (ev ρ y))))) w = _
  rw [hx, hy, Sem.run_bind, Sem.run_bind, eqGuard_run (.inl rfl) hg]
  show ((do pure (.bool (← Op.equal t (.agg X) (.agg Y))) : Sem Value).run P w).andThen _ = _
  rw [Sem.run_bind, h1]
  rfl
theorem rd_neA {X Y : Array Value} {c v : Bool} (hx : ev ρ x = .agg X) (hy : ev ρ y = .agg Y) (hg : P.eqGuardType P.depth t = false) (h : eqW P 4 t (.agg X) (.agg Y) = some c) (hv : (!c) = v) :
    Rd P e ρ H ⟨d, .binOp .neq t x y yt, ty, pos, af, g⟩ (.bool v) := fun w _ => by
  subst hv
  have h1 : (Op.equal t (.agg X) (.agg Y)).run P w = .ok c w := eqW_run 4 h 9996 w
  show Sem.run P (do pure (Next.value (← (do eqGuard .neq t x y (ev ρ x) (ev ρ y); binOp .neq t (ev ρ x) (ev ρ y))))) w = _
  rw [hx, hy, Sem.run_bind, Sem.run_bind, eqGuard_run (.inr rfl) hg]
  show ((do pure (.bool (!(← Op.equal t (.agg X) (.agg Y)))) : Sem Value).run P w).andThen _ = _
  rw [Sem.run_bind, h1]
  rfl
end
/-! what is held against itself -/
def eqRL (P : Program) (E : TypeId → Value → Bool) (xs : Array Value) : List Field → Bool
  | [] => true
  | f :: fs => !(f.name == "_") && (match partV P f.type xs f.offset with | some a => E f.type a | none => false) && eqRL P E xs fs
def eqRA (P : Program) (E : Value → Bool) (el : TypeId) (n : Nat) (xs : Array Value) : Nat → Nat → Bool
  | 0, _ => true
  | k + 1, i => (match partV P el xs (i * n) with | some a => E a | none => false) && eqRA P E el n xs k (i + 1)
def eqR (P : Program) : Nat → TypeId → Value → Bool
  | 0, _, _ => false
  | n + 1, t, x =>
    match P.underlying t, x with
    | some .bool, .bool _ => true
    | some (.int _), .int _ _ => true
    | some .string, .string _ => true
    | some (.struct fs), .agg xs => !P.stoodInHeld t && eqRL P (eqR P n) xs fs.toList
    | some (.array len el), .agg xs => match sz P el with
      | some s => eqRA P (eqR P n el) el s xs len 0
      | none => false
    | _, _ => false
theorem eqRL_sound {P : Program} {E : TypeId → Value → Bool} {S : TypeId → Value → Value → Option Bool} (hE : ∀ t a, E t a = true → S t a a = some true) {xs : Array Value} : ∀ fs, eqRL P E xs fs = true → eqL P S fs xs xs = some true
  | [], _ => rfl
  | f :: fs, h => by
    unfold eqRL at h
    simp only [Bool.and_eq_true, Bool.not_eq_true', beq_eq_false_iff_ne, ne_eq] at h
    obtain ⟨⟨h1, h2⟩, h3⟩ := h
    unfold eqL
    rw [if_neg h1]
    cases hp : partV P f.type xs f.offset with
    | none => rw [hp] at h2; cases h2
    | some a =>
      rw [hp] at h2
      simp only at h2 ⊢
      rw [hE _ _ h2]
      exact eqRL_sound hE fs h3
theorem eqRA_sound {P : Program} {E : Value → Bool} {S : Value → Value → Option Bool} (hE : ∀ a, E a = true → S a a = some true) {el : TypeId} {n : Nat} {xs : Array Value} : ∀ k i, eqRA P E el n xs k i = true → eqAr P S el n xs xs k i = some true
  | 0, _, _ => rfl
  | k + 1, i, h => by
    unfold eqRA at h
    rw [Bool.and_eq_true] at h
    unfold eqAr
    cases hp : partV P el xs (i * n) with
    | none => rw [hp] at h; exact absurd h.1 (by simp)
    | some a =>
      rw [hp] at h
      simp only at h ⊢
      rw [hE _ h.1]
      exact eqRA_sound hE k (i + 1) h.2
theorem eqW_refl {P : Program} : ∀ {n : Nat} {t : TypeId} {x : Value}, eqR P n t x = true → eqW P n t x x = some true := by
  intro n
  induction n with
  | zero => intro t x h; cases h
  | succ n ih =>
    intro t x h
    unfold eqR at h
    unfold eqW
    split at h
    · rename_i h1; rw [h1]; simp
    · rename_i h1; rw [h1]; simp
    · rename_i s h1; rw [h1]; exact congrArg some (show (s.data == s.data) = true from beq_self_eq_true _)
    · rename_i fs xs h1
      rw [h1]
      simp only [Bool.and_eq_true, Bool.not_eq_true'] at h
      simp only [h.1, Bool.false_eq_true, if_false]
      exact eqRL_sound (fun t a => ih) _ h.2
    · rename_i len el xs h1
      rw [h1]
      simp only
      cases hs : sz P el with
      | none => rw [hs] at h; cases h
      | some s =>
        rw [hs] at h
        exact eqRA_sound (fun a => ih) _ _ h
    · cases h
end Go.Vl
