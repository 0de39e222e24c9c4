/-
  BYTES AND STRINGS: conversions, slices cut with a capacity, the least and the greatest, xor; stores into an owned row. Nothing of the seat's program is named here.
-/
import Derived.Test.YtpegidbkplgplaaVa
import Derived.Laws.IdiomStrings
namespace Go.Vl
open Go.RowKit
abbrev byC (b : UInt8) : List Value := [.int .u8 (b.toNat : Int)]
theorem byC_flat (l : List UInt8) : (l.map byC).flatten = l.map fun b => Value.int .u8 (b.toNat : Int) := by
  induction l with
  | nil => rfl
  | cons a l ih => simp [ih]
section
variable {P : Program} {e : World} {ρ : Fr} {F H : Hp} {d : Option Nat} {ty : TypeId} {pos : String} {af : Array Edge} {g : Option (Nat × Bool)}
theorem rd_bytesStr {x : Operand} {s t el : TypeId} {v : Value} {bs : List UInt8} (hx : ev ρ x = v) (hin : InSl F 1 (bs.map byC) v) (hF : Subs F H) (hs : P.underlying s = some (.slice el)) (he : P.underlying el = some (.int .u8)) (ht : P.underlying t = some .string) :
    Rd P e ρ H ⟨d, .convert s t x, ty, pos, af, g⟩ (.string ⟨bs.toArray⟩) := by
  intro w hw
  obtain ⟨a, c, rfl, hc, hr, hm⟩ := hin
  have h0 : (convert s t (.slice a (bs.map byC).length c)).run P w = .ok (.string ⟨bs.toArray⟩) w := by
    rw [List.length_map]
    cases a with
    | none =>
      have hb : bs = [] := by
        rcases hm with hm | ⟨b, o, cs, T, fz, ha, _⟩
        · simpa using hm
        · cases ha
      subst hb
      rw [run_convert_bytes_string w s t el none _ c hs he ht]
      rfl
    | some a =>
      refine run_convert_bytes_back w s t el a c bs hs he ht fun j hj => ?_
      rcases hm with hm | ⟨b, o, cs, T, fz, ha, hm, hra⟩
      · have hb : bs = [] := by simpa using hm
        subst hb
        simp at hj
      · cases ha
        rw [addr_add, cell_kn hw (hF _ hm)]
        refine hra.2 j _ ?_
        rw [byC_flat, List.getElem?_map, List.getElem?_eq_getElem hj]
        rfl
  simp [execOp, hx, h0, -List.length_map]
/-- a slice cut from its beginning, with a capacity -/
theorem rd_slice3 {x y z : Operand} {t el : TypeId} {n : Nat} {a : Option Addr} {len c i j : Nat} {q r : IntKind} (hx : ev ρ x = .slice a len c) (hy : ev ρ y = .int q (i : Int)) (hz : ev ρ z = .int r (j : Int)) (ht : P.underlying t = some (.slice el)) (hs : sz P el = some n)
    (hij : i ≤ j) (hjc : j ≤ c) (ha : j = 0 ∨ ∀ u, a = some u → ∃ b o, u = ⟨b, o, none⟩) : Rd P e ρ H ⟨d, .slice t x none (some y) (some z), ty, pos, af, g⟩ (.slice a i j) := by
  intro w _
  have h0 : (Instr.sliceAt t (ev ρ x) none (some (ev ρ y)) (some (ev ρ z))).run P w = .ok (.slice a i j) w := by
    rw [hx, hy, hz]
    have hb : (0 : Int) ≤ (i : Int) ∧ (i : Int) ≤ (j : Int) := ⟨by omega, by omega⟩
    have hb2 : (0 : Int) ≤ (j : Int) ∧ (j : Int) ≤ (c : Int) := ⟨by omega, by omega⟩
    unfold Instr.sliceAt Instr.slice Instr.sliceBounds Instr.sliceBound
    simp only [Sem.run_bind, underlying_run ht, Result.andThen_ok, asIntOf, Sem.run_pure, hb, hb2, and_self, if_true, sizeOf_run hs, Int.toNat_natCast, Nat.sub_zero]
    rcases ha with rfl | ha
    · simp
    · cases a with
      | none => simp
      | some u =>
        obtain ⟨b, o, rfl⟩ := ha _ rfl
        simp [addr_add]
  simp [execOp, h0]
theorem rd_min {x y : Operand} {a b : Int} {q : IntKind} {ats : Array TypeId} (hx : ev ρ x = .int q a) (hy : ev ρ y = .int q b) : Rd P e ρ H ⟨d, .call ⟨.builtin .min, #[x, y], ats⟩, ty, pos, af, g⟩ (.int q (if b < a then b else a)) := by
  intro w _
  simp [execOp, resolve, invoke, Go.builtin, Builtin.min_, Builtin.min2, hx, hy]
theorem rd_max {x y : Operand} {a b : Int} {q : IntKind} {ats : Array TypeId} (hx : ev ρ x = .int q a) (hy : ev ρ y = .int q b) : Rd P e ρ H ⟨d, .call ⟨.builtin .max, #[x, y], ats⟩, ty, pos, af, g⟩ (.int q (if a < b then b else a)) := by
  intro w _
  simp [execOp, resolve, invoke, Go.builtin, Builtin.max_, Builtin.max2, hx, hy]
end
section
variable {C : Cx} {ρ : Fr} {H : Hp} {d : Option Nat} {ty : TypeId} {pos : String} {af : Array Edge} {g : Option (Nat × Bool)} {K : Value → Hp → Prop}
/-- '[]byte("..")' of a constant: the row's mark -/
theorem ex_mark {s el : TypeId} {x : Operand} {b o len cap : Nat} {cs : Array Value} {T : TypeId} {f : Obj → Hp} (hx : ev ρ x = .slice (some ⟨b, o, none⟩) len cap) (hs : C.P.underlying s = some (.slice el)) (he : C.P.underlying el = some (.int .u8))
    (hz : Zip H b (.cells cs T (0, 0)) f) (h : K (.slice (some ⟨b, o, none⟩) len cap) (f (.cells cs T (cs.size, cs.size + 1)))) : Ex C ⟨d, .convert s s x, ty, pos, af, g⟩ K ρ H := fun w hw => by
  have hb := hw.has _ hz.mem
  simp only at hb
  have h0 : (convert s s (.slice (some ⟨b, o, none⟩) len cap)).run C.P w = .ok (.slice (some ⟨b, o, none⟩) len cap) (w.freeze ⟨b, cs.size, none⟩ 1) := by
    simp [convert, run_underlying hs, run_underlying he, markStringish, World.shape?, hb]
  have h1 : (execOp (ev ρ) ⟨d, .convert s s x, ty, pos, af, g⟩).run C.P w = .ok (.value (.slice (some ⟨b, o, none⟩) len cap)) (w.freeze ⟨b, cs.size, none⟩ 1) := by
    simp [execOp, hx, h0]
  rw [h1]
  refine ⟨_, hw.set hz rfl rfl rfl (o' := .cells cs T (cs.size, cs.size + 1)) ?_ ?_, h⟩
  · simp [World.freeze, Array.getElem?_modify, hb]
  · intro k hk
    simp [World.freeze, Array.getElem?_modify, Ne.symm hk]
/-- an empty slice that is none of nil -/
theorem ex_buildNil {t el : TypeId} {n : Nat} (ht : C.P.underlying t = some (.slice el)) (hs : sz C.P el = some n) (h : ∀ v B, SlO el n v 0 [] B → K v (B ++ H)) : Ex C ⟨d, .buildSlice t 0 #[], ty, pos, af, g⟩ K ρ H := fun w hw => by
  have h0 : (Instr.buildSlice t 0 #[]).run C.P w = .ok (.slice (some ⟨w.heap.size, 0, none⟩) 0 0) (w.alloc (.cells #[] el)) := by
    have ha : ∀ f : Nat → Value, Array.map f (Array.range 0) = #[] := fun f => Array.eq_empty_of_size_eq_zero (by simp)
    simp [Instr.buildSlice, run_underlying ht, sizeOf_run hs, Instr.fill, newRow, ha]
  have h1 : (execOp (ev ρ) ⟨d, .buildSlice t 0 #[], ty, pos, af, g⟩).run C.P w = .ok (.value (.slice (some ⟨w.heap.size, 0, none⟩) 0 0)) (w.alloc (.cells #[] el)) := by
    simp [execOp, h0]
  rw [h1]
  exact ⟨_, hw.alloc _, h _ [(w.heap.size, .cells #[] el (0, 0))] ⟨by simp, .inr ⟨_, 0, #[], rfl, rfl, Nat.le_refl _, Nat.zero_le _, by simp, by simp⟩⟩⟩
/-- a store into a row that is owned -/
theorem ex_storeO {t g n cap i : Nat} {x y : Operand} {u : Value} {cur : Array Value} {xs : List Value} {T : TypeId} {f : Obj → Hp} {gd : Option (Nat × Bool)} (hx : ev ρ x = .pointer (some ⟨g, i, none⟩)) (hy : ev ρ y = u) (hs : sz C.P t = some 1) (ho : u.oneCell' = true)
    (hS : SlO T 1 (.slice (some ⟨g, 0, none⟩) n cap) n xs [(g, .cells cur T (0, 0))]) (hi : i < n) (hz : Zip H g (.cells cur T (0, 0)) f)
    (h : ∀ cur', SlO T 1 (.slice (some ⟨g, 0, none⟩) n cap) n (xs.set i u) [(g, .cells cur' T (0, 0))] → K undef (f (.cells cur' T (0, 0)))) : Ex C ⟨d, .store t x y, ty, pos, af, gd⟩ K ρ H := by
  rcases hS with ⟨hl, ⟨a, ha, hn, _⟩ | ⟨g', cap', cur', hv, hB, hn, hc, hcs, ht⟩⟩
  · omega
  · simp only [Value.slice.injEq, Option.some.injEq, Addr.mk.injEq, and_true, true_and] at hv
    obtain ⟨rfl, rfl⟩ := hv
    simp only [List.cons.injEq, Prod.mk.injEq, Obj.cells.injEq, and_true, true_and] at hB
    subst hB
    have hz' : Zip H g (cellsO cur.toList T) f := by simpa [cellsO] using hz
    refine ex_store1 hx hy hs ho hz' (by simp [Nat.ble_eq]; omega) rfl ?_
    refine h _ ⟨by simpa using hl, .inr ⟨g, cap, _, rfl, rfl, hn, hc, by simpa using hcs, ?_⟩⟩
    rw [← ht]
    simp [List.take_set]
end
section
variable {P : Program} {e : World} {ρ : Fr} {H : Hp} {d : Option Nat} {ty : TypeId} {pos : String} {af : Array Edge} {g : Option (Nat × Bool)}
/-- the beginning of an owned slice -/
theorem rd_sliceHiO {x y : Operand} {t el : TypeId} {n k m : Nat} {v : Value} {xs : List Value} {Bs : Hp} {q : IntKind} (hx : ev ρ x = v) (hS : SlO el n v m xs Bs) (hy : ev ρ y = .int q (k : Int)) (ht : P.underlying t = some (.slice el)) (hs : sz P el = some n) (hk : k ≤ m) :
    ∃ v', SlO el n v' k (xs.take (k * n)) Bs ∧ Rd P e ρ H ⟨d, .slice t x none (some y) none, ty, pos, af, g⟩ v' := by
  have hc : ∃ a c, v = .slice a m c ∧ m ≤ c ∧ SlO el n (.slice (if c = 0 then a else a.map (·.add (0 * n))) k (c - 0)) k (xs.take (k * n)) Bs := by
    rcases hS with ⟨hl, ⟨a, rfl, rfl, rfl⟩ | ⟨g', cap', cur', rfl, rfl, hn, hc, hcs, ht⟩⟩
    · obtain rfl : k = 0 := by omega
      exact ⟨a, 0, rfl, Nat.le_refl _, by simp, .inl ⟨_, rfl, rfl, rfl⟩⟩
    · refine ⟨_, cap', rfl, hn, ?_, .inr ⟨g', cap', cur', ?_, rfl, by omega, hc, hcs, ?_⟩⟩
      · rw [List.length_take, hl, Nat.min_eq_left (Nat.mul_le_mul_right _ hk)]
      · split <;> simp [addr_add]
      · rw [← ht, List.take_take, Nat.min_eq_left (Nat.mul_le_mul_right _ hk)]
  obtain ⟨a, c, rfl, hmc, h1⟩ := hc
  refine ⟨_, h1, fun w _ => ?_⟩
  have h0 : (Instr.sliceAt t (ev ρ x) none (some (ev ρ y)) none).run P w = .ok (.slice (if c = 0 then a else a.map (·.add (0 * n))) k (c - 0)) w := by
    rw [hx, hy]
    have hb : (0 : Int) ≤ (k : Int) ∧ (k : Int) ≤ (c : Int) := ⟨by omega, by omega⟩
    unfold Instr.sliceAt Instr.slice Instr.sliceBounds Instr.sliceBound
    simp only [Sem.run_bind, underlying_run ht, Result.andThen_ok, asIntOf, Sem.run_pure, hb, and_self, if_true, sizeOf_run hs, Int.toNat_natCast, Nat.sub_zero]
  simp [execOp, h0]
theorem flat_takeT {α : Type} {C' : α → List Value} {n : Nat} (hn : ∀ a, (C' a).length = n) : ∀ (k : Nat) (ws : List α), (ws.map C').flatten.take (k * n) = ((ws.take k).map C').flatten
  | 0, ws => by simp
  | k + 1, [] => by simp
  | k + 1, a :: ws => by
    rw [List.map_cons, List.flatten_cons, List.take_succ_cons, List.map_cons, List.flatten_cons, ← flat_takeT hn k ws, Nat.succ_mul, Nat.add_comm, ← hn a, List.take_length_add_append]
theorem rd_sliceHiT {α : Type} {C' : α → List Value} {ws : List α} {x y : Operand} {t el : TypeId} {n k : Nat} {v : Value} {Bs : Hp} {q : IntKind} (hx : ev ρ x = v) (hS : SlO el n v ws.length (ws.map C').flatten Bs) (hy : ev ρ y = .int q (k : Int)) (ht : P.underlying t = some (.slice el)) (hs : sz P el = some n) (hn : ∀ a, (C' a).length = n) (hk : k ≤ ws.length) :
    ∃ v', SlO el n v' (ws.take k).length ((ws.take k).map C').flatten Bs ∧ Rd P e ρ H ⟨d, .slice t x none (some y) none, ty, pos, af, g⟩ v' := by
  obtain ⟨v', h1, h2⟩ := rd_sliceHiO (P := P) (e := e) (H := H) (d := d) (ty := ty) (pos := pos) (af := af) (g := g) hx hS hy ht hs hk
  refine ⟨v', ?_, h2⟩
  rw [List.length_take, Nat.min_eq_left hk, ← flat_takeT hn]
  exact h1
/-- 's[:len(s):len(s)]' of an owned slice -/
theorem rd_clipO {x y z : Operand} {t el : TypeId} {n m : Nat} {v : Value} {xs : List Value} {Bs : Hp} {q r : IntKind} (hx : ev ρ x = v) (hS : SlO el n v m xs Bs) (hy : ev ρ y = .int q (m : Int)) (hz : ev ρ z = .int r (m : Int)) (ht : P.underlying t = some (.slice el)) (hs : sz P el = some n) :
    ∃ v', SlO el n v' m xs Bs ∧ Rd P e ρ H ⟨d, .slice t x none (some y) (some z), ty, pos, af, g⟩ v' := by
  rcases hS with ⟨hl, ⟨a, rfl, rfl, rfl⟩ | ⟨g', cap', cur', rfl, rfl, hn, hc, hcs, ht'⟩⟩
  · refine ⟨.slice a 0 0, ⟨hl, .inl ⟨a, rfl, rfl, rfl⟩⟩, rd_slice3 (n := n) hx hy hz ht hs (Nat.le_refl _) (Nat.le_refl _) (.inl rfl)⟩
  · exact ⟨.slice (some ⟨g', 0, none⟩) m m, ⟨hl, .inr ⟨g', m, cur', rfl, rfl, Nat.le_refl _, by omega, Nat.le_trans (Nat.mul_le_mul_right _ hn) hcs, ht'⟩⟩, rd_slice3 (n := n) hx hy hz ht hs (Nat.le_refl _) hn (.inr fun u hu => by cases hu; exact ⟨_, _, rfl⟩)⟩
/-- 's[:0:0]' -/
theorem rd_slice00 {x : Operand} {a : Option Addr} {len c n : Nat} {t el : TypeId} {q r : IntKind} {y z : Operand} (hx : ev ρ x = .slice a len c) (hy : ev ρ y = .int q 0) (hz : ev ρ z = .int r 0) (ht : P.underlying t = some (.slice el)) (hs : sz P el = some n) : Rd P e ρ H ⟨d, .slice t x none (some y) (some z), ty, pos, af, g⟩ (.slice a 0 0) :=
  rd_slice3 (i := 0) (j := 0) hx hy hz ht hs (Nat.le_refl _) (Nat.zero_le _) (.inl rfl)
theorem rd_bytesStrO {x : Operand} {s t el : TypeId} {v : Value} {bs : List UInt8} {Bs : Hp} (hx : ev ρ x = v) (hS : SlO el 1 v bs.length (bs.map byC).flatten Bs) (hF : Subs Bs H) (hs : P.underlying s = some (.slice el)) (he : P.underlying el = some (.int .u8)) (ht : P.underlying t = some .string) :
    Rd P e ρ H ⟨d, .convert s t x, ty, pos, af, g⟩ (.string ⟨bs.toArray⟩) :=
  rd_bytesStr hx (SlO.inB (by rw [List.length_map]; exact hS) (fun r hr => by obtain ⟨u, _, rfl⟩ := List.mem_map.1 hr; exact ⟨rfl, rfl⟩)) hF hs he ht
theorem rd_addNN {x y : Operand} {a b : Nat} {t yt : TypeId} (hx : ev ρ x = .int .i64 (a : Int)) (hy : ev ρ y = .int .i64 (b : Int)) (h : (a : Int) + (b : Int) ≤ 9223372036854775807) : Rd P e ρ H ⟨d, .binOp .add t x y yt, ty, pos, af, g⟩ (.int .i64 ((a + b : Nat) : Int)) := rd_add64 hx hy (by omega) h
theorem rd_subNN {x y : Operand} {a b : Nat} {t yt : TypeId} (hx : ev ρ x = .int .i64 (a : Int)) (hy : ev ρ y = .int .i64 (b : Int)) (h : b ≤ a) (h1 : (a : Int) ≤ 9223372036854775807) : Rd P e ρ H ⟨d, .binOp .sub t x y yt, ty, pos, af, g⟩ (.int .i64 ((a - b : Nat) : Int)) := by
  have := rd_sub64 (P := P) (e := e) (H := H) (d := d) (t := t) (yt := yt) (ty := ty) (pos := pos) (af := af) (g := g) hx hy (by omega) (by omega)
  rwa [show (a : Int) - (b : Int) = ((a - b : Nat) : Int) from by omega] at this
theorem rd_minNN {x y : Operand} {a b : Nat} {q : IntKind} {ats : Array TypeId} (hx : ev ρ x = .int q (a : Int)) (hy : ev ρ y = .int q (b : Int)) : Rd P e ρ H ⟨d, .call ⟨.builtin .min, #[x, y], ats⟩, ty, pos, af, g⟩ (.int q ((min a b : Nat) : Int)) := by
  have := rd_min (P := P) (e := e) (H := H) (d := d) (ty := ty) (pos := pos) (af := af) (g := g) (ats := ats) hx hy
  rwa [show (if (b : Int) < (a : Int) then (b : Int) else (a : Int)) = ((min a b : Nat) : Int) from by split <;> omega] at this
/-- xor of bytes -/
theorem wrap8 (n : Int) : ∃ b : UInt8, IntKind.u8.wrap n = (b.toNat : Int) := by
  have h : 0 ≤ IntKind.u8.wrap n ∧ IntKind.u8.wrap n < 256 := by
    have hb : (2 ^ IntKind.u8.bits : Int) = 256 := rfl
    have hs : IntKind.u8.signed = false := rfl
    unfold IntKind.wrap
    simp only [hb, hs, Bool.false_and, Bool.false_eq_true, if_false]
    omega
  refine ⟨UInt8.ofNat (IntKind.u8.wrap n).toNat, ?_⟩
  rw [UInt8.toNat_ofNat']
  omega
theorem rd_xor8 {x y : Operand} {t yt : TypeId} {a c : Int} (hx : ev ρ x = .int .u8 a) (hy : ev ρ y = .int .u8 c) : ∃ b : UInt8, Rd P e ρ H ⟨d, .binOp .xor t x y yt, ty, pos, af, g⟩ (.int .u8 (b.toNat : Int)) := by
  obtain ⟨b, hb⟩ := wrap8 (BitVec.ofInt IntKind.u8.bits a ^^^ BitVec.ofInt IntKind.u8.bits c).toNat
  refine ⟨b, fun w _ => ?_⟩
  rw [← hb]
  simp [execOp, hx, hy, binOp, Op.intBits, eqGuard]
end
end Go.Vl
