/-
  PROVED HERE: 'Rows.ClientsNoneSaid': whatever the input, ClientsNone returns true and its input reads afterwards as it read before. No condition.
-/
import Derived.Test.YtbbobncokpfkmaaT8
import Derived.Test.YtbbobncokpfkmaaVr
import Derived.Test.YtbbobncokpfkmaaRows
namespace Go.Proofs.Ytbbobncokpfkmaa
open Go.ChangeShapes Go.WideShapes Go.ChangeAt Go.RowKit Go.Vl

theorem ownNone : ownKnob Try.prog.godebug = none := by kernel_rfl
theorem laidOutNone : laidOutB Try.prog = true := by kernel_rfl
theorem op_ofNone {H : Type} {enc : TypeId × Value → H} {W : World} {cs : List Value} (h : All2 (LKok enc Try.prog W) [.int .i64, .int .i64, .bool, .bool, .int .i64, .int .i64, .int .i64, .int .i64, .int .i64] cs) : ∃ r : OpR, cs = r.cells ∧ True := by
  obtain _ | ⟨⟨a, rfl, _⟩, h⟩ := h
  obtain _ | ⟨⟨b, rfl, _⟩, h⟩ := h
  obtain _ | ⟨⟨c, rfl⟩, h⟩ := h
  obtain _ | ⟨⟨d, rfl⟩, h⟩ := h
  obtain _ | ⟨⟨f, rfl, _⟩, h⟩ := h
  obtain _ | ⟨⟨g, rfl, _⟩, h⟩ := h
  obtain _ | ⟨⟨i, rfl, _⟩, h⟩ := h
  obtain _ | ⟨⟨j, rfl, _⟩, h⟩ := h
  obtain _ | ⟨⟨k, rfl, _⟩, h⟩ := h
  cases h
  exact ⟨⟨a, b, c, d, ⟨f, g, i, j⟩, k⟩, rfl, trivial⟩

set_option maxRecDepth 100000 in
theorem liftedNone (os : Os) (started : os.Started) (H : Type) (enc : TypeId × Value → H) :
    ReturnsInHanded {} Try.checked os 8 .any (Rows.clientsNoneSpec.pre6 enc Try.prog Try.f8 Rows.clientsNoneRow.domain false) (Rows.clientsNoneSpec.post enc Try.prog Try.f8 false true false false) := by
  refine returnsInHanded_of_change (C := Try.checked) ownNone started (by kernel_rfl) Try.func8
    (ChangeSpec.witness6 (enc := enc) (C := Try.checked) false ⟨#[], #[.agg #[.int .i64 0, .int .i64 0, .bool false, .bool false, .int .i64 0, .int .i64 0, .int .i64 0, .int .i64 0, .int .i64 0]], []⟩ 8 (by kernel_rfl) (by kernel_rfl) (by kernel_rfl) (by kernel_rfl)) ?_
  intro W base args ds gs before hval0 hW hcnd _
  have hval : ∀ (j : Nat) t v, Try.f8.params[j]? = some t → args[j]? = some v → Value.okWide Try.prog W .any base t v := hval0
  have hW' := hW
  obtain ⟨p, q, hA0, hV, rfl, hfz, hnd⟩ := hW
  have hA : DataW.TrodAll enc Try.prog W 0 (fun _ => true) true Try.f8.params.toList args.toList ds p := hA0
  have hp : Try.f8.params.toList = [34] := rfl
  rw [hp] at hA
  obtain ⟨v0, vs0, d0, ds0, p0, q0, hargs, rfl, rfl, h0, r0⟩ := trodAll_cons hA
  obtain ⟨rfl, rfl, rfl⟩ := trodAll_nil r0
  obtain rfl : args = #[v0] := by cases args; simp_all
  obtain ⟨rfl, rfl⟩ := trodVars_none hV
  have k0 := h0
  have lt0 : ∀ x ∈ p0, x.block < W.heap.size := by obtain ⟨m, hm⟩ := k0; exact DataW.trod_lt m _ _ _ hm
  obtain ⟨cs0, rfl, hcs0⟩ := okWide_struct rfl (hval 0 34 v0 rfl rfl)
  obtain ⟨x0, hx0⟩ : ∃ x, cs0 = (OpR.cells x).toArray := by
    obtain ⟨fuel, hf⟩ := h0
    obtain ⟨r, hr, _⟩ := op_ofNone (trod_kinds 4 34 _ fuel _ _ rfl rfl hf)
    exact ⟨r, by rw [← hr]; simp [Value.cells]⟩
  subst hx0
  clear hA0 hval0
  refine (law_true (none_law W (x := x0) ⟨rfl, rfl⟩)).mono fun e W' ⟨he, bel⟩ => ?_
  subst he
  exact ⟨_, rfl, _, _, _, [], _, [], hW', trodAll_mk1 (shut_bool rfl _), (trodAll_cons_mk (Below.trod laidOutNone (by kernel_rfl) (of_decide_eq_true (by kernel_rfl)) k0 bel lt0) trodAll_mk0), rfl, bel.frame _, fun h => by cases h⟩

theorem provedNone : Rows.ClientsNoneSaid :=
  OpenClaim.holds_of_wide 8 Try.f8 rfl rfl rfl rfl rfl rfl rfl ⟨rfl, rfl, rfl, rfl, rfl⟩ rfl rfl rfl rfl rfl (by kernel_rfl) Try.func8 (by kernel_rfl)
    (of_decide_eq_true (by kernel_rfl)) (by unfold Func.isWrapper; first | (rw [if_pos (by decide +kernel)]; kernel_rfl) | (rw [if_neg (by decide +kernel)]; exact ⟨rfl, rfl⟩))
    (fun os started H enc _ => liftedNone os started H enc)
#print axioms provedNone
end Go.Proofs.Ytbbobncokpfkmaa
