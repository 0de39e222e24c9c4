/-
  PROVED HERE: 'Rows.ClientsFullSaid': whatever the two arguments, ClientsFull returns true and its arguments read afterwards as they read before. No condition.
-/
import Derived.Test.YtbbobncokpfkmaaT2
import Derived.Test.YtbbobncokpfkmaaVr
import Derived.Test.YtbbobncokpfkmaaRows
namespace Go.Proofs.Ytbbobncokpfkmaa
open Go.ChangeShapes Go.WideShapes Go.ChangeAt Go.RowKit Go.Vl

theorem own : ownKnob Try.prog.godebug = none := by kernel_rfl
theorem laidOut : laidOutB Try.prog = true := by kernel_rfl

theorem rep_of {H : Type} {enc : TypeId × Value → H} {W : World} {cs : List Value} (h : All2 (LKok enc Try.prog W) [.int .i64, .int .i64, .int .i64, .int .i64] cs) : ∃ r : Rep, cs = r.cells := by
  cases h with
  | cons h0 h => cases h with
    | cons h1 h => cases h with
      | cons h2 h => cases h with
        | cons h3 h =>
          cases h
          obtain ⟨a, rfl, _⟩ := h0
          obtain ⟨b, rfl, _⟩ := h1
          obtain ⟨c, rfl, _⟩ := h2
          obtain ⟨d, rfl, _⟩ := h3
          exact ⟨⟨a, b, c, d⟩, rfl⟩

set_option maxRecDepth 100000 in
theorem liftedFull (os : Os) (started : os.Started) (H : Type) (enc : TypeId × Value → H) :
    ReturnsInHanded {} Try.checked os 4 .any (Rows.clientsFullSpec.pre6 enc Try.prog Try.f4 Rows.clientsFullRow.domain false) (Rows.clientsFullSpec.post enc Try.prog Try.f4 false true false false) := by
  refine returnsInHanded_of_change (C := Try.checked) own started (by kernel_rfl) Try.func4
    (ChangeSpec.witness6 (enc := enc) (C := Try.checked) false ⟨#[], #[.int .i64 0, .agg #[.int .i64 0, .int .i64 0, .int .i64 0, .int .i64 0]], []⟩ 8 (by kernel_rfl) (by kernel_rfl) (by kernel_rfl) (by kernel_rfl)) ?_
  intro W base args ds gs before hval0 hW hcnd _
  have hval : ∀ (j : Nat) t v, Try.f4.params[j]? = some t → args[j]? = some v → Value.okWide Try.prog W .any base t v := hval0
  have hW' := hW
  obtain ⟨p, q, hA0, hV, rfl, hfz, hnd⟩ := hW
  have hA : DataW.TrodAll enc Try.prog W 0 (fun _ => true) true Try.f4.params.toList args.toList ds p := hA0
  have hp : Try.f4.params.toList = [2, 32] := rfl
  rw [hp] at hA
  obtain ⟨v0, vs0, d0, ds0, p0, q0, hargs, rfl, rfl, h0, r0⟩ := trodAll_cons hA
  obtain ⟨v1, vs1, d1, ds1, p1, q1, rfl, rfl, rfl, h1, r1⟩ := trodAll_cons r0
  obtain ⟨rfl, rfl, rfl⟩ := trodAll_nil r1
  obtain rfl : args = #[v0, v1] := by cases args; simp_all
  obtain ⟨rfl, rfl⟩ := trodVars_none hV
  have k0 := h0
  have k1 := h1
  have lt0 : ∀ x ∈ p0, x.block < W.heap.size := by obtain ⟨m, hm⟩ := k0; exact DataW.trod_lt m _ _ _ hm
  have lt1 : ∀ x ∈ p1, x.block < W.heap.size := by obtain ⟨m, hm⟩ := k1; exact DataW.trod_lt m _ _ _ hm
  obtain ⟨a0, rfl, rfl, rfl, w0⟩ := open_int (k := .i64) rfl (hval 0 2 v0 rfl rfl) h0
  obtain ⟨cs, rfl, hcs⟩ := okWide_struct rfl (hval 1 32 v1 rfl rfl)
  obtain ⟨rep, hrep⟩ : ∃ r : Rep, cs = r.cells.toArray := by
    obtain ⟨fuel, hf⟩ := h1
    obtain ⟨r, hr⟩ := rep_of (trod_kinds 4 32 _ fuel _ _ rfl rfl hf)
    exact ⟨r, by rw [← hr]; simp [Value.cells]⟩
  subst hrep
  clear hA0 hval0
  refine (law_calls (full_law W (F := all W) (K := fun v H => v = .bool true ∧ H = all W) (first := a0) (rep := rep) ⟨rfl, rfl⟩) (fun x H h => ⟨h.1, [], by rw [h.2, List.append_nil]⟩)).mono fun e W' ⟨he, bel⟩ => ?_
  subst he
  exact ⟨_, rfl, _, _, _, [], _, [], hW', trodAll_mk1 (shut_bool rfl _), (trodAll_cons_mk (Below.trod laidOut (by kernel_rfl) (of_decide_eq_true (by kernel_rfl)) k0 bel lt0) (trodAll_cons_mk (Below.trod laidOut (by kernel_rfl) (of_decide_eq_true (by kernel_rfl)) k1 bel lt1) trodAll_mk0)), rfl, bel.frame _, fun h => by cases h⟩

theorem provedFull : Rows.ClientsFullSaid :=
  OpenClaim.holds_of_wide 4 Try.f4 rfl rfl rfl rfl rfl rfl rfl ⟨rfl, rfl, rfl, rfl, rfl⟩ rfl rfl rfl rfl rfl (by kernel_rfl) Try.func4 (by kernel_rfl)
    (of_decide_eq_true (by kernel_rfl)) (by unfold Func.isWrapper; first | (rw [if_pos (by decide +kernel)]; kernel_rfl) | (rw [if_neg (by decide +kernel)]; exact ⟨rfl, rfl⟩))
    (fun os started H enc _ => liftedFull os started H enc)
#print axioms provedFull
end Go.Proofs.Ytbbobncokpfkmaa
