/-
  The disk's methods where their answers are known; strings that are equal.
-/
import Derived.Test.YtkamfmdonhaikaaDSP
namespace Go.Vl
open Go.Proofs
attribute [local irreducible] wpC wpO wpD Ex Rd callsK RetP Drop valK
set_option maxHeartbeats 4000000 in
set_option maxRecDepth 100000 in
theorem look_E (e : World) {s : ByteArray} {F : Hp} {d m : Nat} {x : Dk} {room : Int} {K : Value → Hp → Prop} {bs : List UInt8} {n : Int} {is : Bool} (hx : x.ok room) (hb : tot x.l ≤ 140737488355328) (hl : lookA x.ds.L s = (bs, n, is))
    (hK : ∀ v B, BytO v bs B → K (.tuple #[v, .int .i64 n, .bool is]) (B ++ (x.hp d m room ++ F))) :
    callsK Try.prog e 19 #[pv d, .string s] (x.hp d m room ++ F) K := look_D e hx hb (by rw [hl]; exact hK)
set_option maxHeartbeats 4000000 in
set_option maxRecDepth 100000 in
theorem down_E (e : World) {F : Hp} {d m : Nat} {x : Dk} {room : Int} {K : Value → Hp → Prop} {b : Bool} (hd : x.down = b) (hK : K (.bool b) (x.hp d m room ++ F)) :
    callsK Try.prog e 21 #[pv d] (x.hp d m room ++ F) K := down_D e (by rw [hd]; exact hK)
set_option maxHeartbeats 4000000 in
set_option maxRecDepth 100000 in
theorem used_E (e : World) {F : Hp} {d m : Nat} {x : Dk} {room : Int} {K : Value → Hp → Prop} {n : Nat} (hx : x.ok room) (hr : room ≤ 9223372036854775807) (hn : tot x.l = n) (hK : K (.int .i64 (n : Int)) (x.hp d m room ++ F)) :
    callsK Try.prog e 20 #[pv d] (x.hp d m room ++ F) K := used_D e hx hr (by rw [hn]; exact hK)
set_option maxHeartbeats 4000000 in
set_option maxRecDepth 100000 in
theorem run_E (e : World) {o : OpD} {Fn F : Hp} {d m : Nat} {x : Dk} {room : Int} {K : Value → Hp → Prop} {r : Int} {t : DS} (hx : x.ok room) (hr : room ≤ 9223372036854775807) (ho : OpOK Fn o) (hcap : (o.bs.length : Int) + tot x.l ≤ room → o.bs.length + tot x.l ≤ 140737488355328) (ht : tot x.l ≤ 140737488355328) (hR : x.ds.run room o = (r, t))
    (hK : ∀ x' : Dk, x'.ok room → x'.ds.E t → K (.int .i64 r) ((x'.hp d m room ++ Fn) ++ F)) :
    callsK Try.prog e 18 #[pv d, .agg o.cells.toArray] ((x.hp d m room ++ Fn) ++ F) K := run_D e hx hr ho.k ho.s ho.b hcap ht (by rw [hR]; exact hK)
set_option maxHeartbeats 4000000 in
set_option maxRecDepth 100000 in
theorem new_D (e : World) {room : Int} {F : Hp} {K : Value → Hp → Prop} (h1 : room < 0 → K (.tuple #[.pointer none, .int .i64 1]) F) (h0 : 0 ≤ room → ∀ d m, ∀ x : Dk, x.ok room → x.ds = ⟨[], 0, 0, false⟩ → K (.tuple #[pv d, .int .i64 0]) (x.hp d m room ++ F)) :
    callsK Try.prog e 13 #[.int .i64 room] F K :=
  new_spec e h1 fun hr d m => by
    have := h0 hr d m ⟨0, #[], [], 0, 0, false⟩ (Dk.mkok (MapK.nil _ _) (by simp) (by simpa [tot] using hr) (by simp) (by simp) (by simp)) rfl
    simpa [show fsH [] = [] from rfl] using this
section
variable {C : Cx} {ops : Array Oper} {Hs : Hp} {Q : Post} {pl : List Nat} {rest : List Oper} {ρ : Fr} {ds : List Nat} {H : Hp} {i d : Nat} {ty t yt : TypeId} {pos : String} {af : Array Edge} {g : Option (Nat × Bool)} {x y : Operand} {la lb : List UInt8}
set_option maxHeartbeats 4000000 in
set_option maxRecDepth 100000 in
theorem d_strNe (h : wpD C ops Hs Q pl (upd ρ d (.bool false)) ds H) (hab : la = lb) (ho : ops[i]? = some ⟨some d, .binOp .neq t x y yt, ty, pos, af, g⟩ := by exact rfl) (hw : wantV C.N ops ρ ⟨some d, .binOp .neq t x y yt, ty, pos, af, g⟩ = true := by exact rfl) (hd : Nat.blt d C.N = true := by exact rfl)
    (hx : ev ρ x = .string ⟨la.toArray⟩ := by exact rfl) (hy : ev ρ y = .string ⟨lb.toArray⟩ := by exact rfl) : wpD C ops Hs Q (i :: pl) ρ ds H := by
  refine wpD_rds ho rfl hw hd (rd_binV ?_) h
  rw [hx, hy, hab]
  show some (Value.bool (decide (_ ≠ _))) = _
  rw [decide_eq_false (by simp)]
end
set_option maxHeartbeats 4000000 in
set_option maxRecDepth 100000 in
theorem lookA_form {L : List Ab} {n : ByteArray} {b : List UInt8} {k : Int} {i : Bool} (hs : ∀ a ∈ L, a.2.2 ≤ a.2.1.length) (h : lookA L n = (b, k, i)) : ∃ m : Nat, k = (m : Int) ∧ m ≤ b.length := by
  unfold lookA at h
  split at h
  · cases h; exact ⟨0, rfl, Nat.zero_le _⟩
  · split at h
    · cases h; exact ⟨0, rfl, Nat.zero_le _⟩
    · rename_i a ha
      cases h
      exact ⟨a.2.2, rfl, hs a (List.mem_of_find?_eq_some ha)⟩
set_option maxHeartbeats 4000000 in
set_option maxRecDepth 100000 in
theorem read_E (e : World) {s : ByteArray} {F : Hp} {d m : Nat} {x : Dk} {room : Int} {K : Value → Hp → Prop} {bs : List UInt8} {r : Int} (hx : x.ok room) (hb : tot x.l ≤ 140737488355328) (hr : readA x.ds s = (bs, r))
    (hK : ∀ v B, BytO v bs B → K (.tuple #[v, .int .i64 r]) (B ++ (x.hp d m room ++ F))) :
    callsK Try.prog e 17 #[pv d, .string s] (x.hp d m room ++ F) K := read_D e hx hb (by rw [hr]; exact hK)
set_option maxHeartbeats 4000000 in
set_option maxRecDepth 100000 in
theorem size_E (e : World) {s : ByteArray} {F : Hp} {d m : Nat} {x : Dk} {room : Int} {K : Value → Hp → Prop} {p q r : Int} (hx : x.ok room) (hb : tot x.l ≤ 140737488355328) (hr : sizeA x.ds s = (p, q, r))
    (hK : K (.tuple #[.int .i64 p, .int .i64 q, .int .i64 r]) (x.hp d m room ++ F)) :
    callsK Try.prog e 31 #[pv d, .string s] (x.hp d m room ++ F) K := size_D e hx hb (by rw [hr]; exact hK)
set_option maxHeartbeats 4000000 in
set_option maxRecDepth 100000 in
theorem crash_E (e : World) {a : Int} {F : Hp} {d m : Nat} {x : Dk} {room : Int} {K : Value → Hp → Prop} {r : Int} {t : DS} (hx : x.ok room) (hr : x.ds.crash a = (r, t))
    (hK : ∀ x' : Dk, x'.ok room → x'.ds.E t → K (.int .i64 r) (x'.hp d m room ++ F)) :
    callsK Try.prog e 28 #[pv d, .int .i64 a] (x.hp d m room ++ F) K := crash_D e hx (by rw [hr]; exact hK)
set_option maxHeartbeats 4000000 in
set_option maxRecDepth 100000 in
theorem restart_E (e : World) {F : Hp} {d m : Nat} {x : Dk} {room : Int} {K : Value → Hp → Prop} {r : Int} {t : DS} (hx : x.ok room) (hr : x.ds.restart = (r, t))
    (hK : ∀ x' : Dk, x'.ok room → x'.ds.E t → K (.int .i64 r) (x'.hp d m room ++ F)) :
    callsK Try.prog e 29 #[pv d] (x.hp d m room ++ F) K := restart_D e hx (by rw [hr]; exact hK)
end Go.Vl
