/-
  PROVED HERE: 'Rows.DiskNoneSaid': whatever the input, DiskNone returns true and its input reads afterwards as it read before. No condition.
-/
import Derived.Test.YtkamfmdonhaikaaDO
import Derived.Test.YtkamfmdonhaikaaVi
import Derived.Test.YtkamfmdonhaikaaRows
namespace Go.Proofs.Ytkamfmdonhaikaa
open Go.ChangeShapes Go.WideShapes Go.ChangeAt Go.RowKit Go.Vl

theorem ownNone : ownKnob Try.prog.godebug = none := by kernel_rfl
theorem laidOutNone : laidOutB Try.prog = true := by kernel_rfl
set_option maxRecDepth 100000 in
theorem opd_of {H : Type} {enc : TypeId × Value → H} {W : World} {G : TypeId → DataW H → Prop} {Bd : TypeId → Nat → Prop} (hG : Her Try.prog G Bd) {cs : List Value} (h : All2 (LKg enc Try.prog W G Bd) [.int .i64, .str, .str, .sl 5, .int .i64, .int .i64] cs) : ∃ r : OpD, cs = r.cells ∧ OpOK (all W) r := by
  obtain _ | ⟨⟨a, rfl, _⟩, h⟩ := h
  obtain _ | ⟨⟨b, rfl, _⟩, h⟩ := h
  obtain _ | ⟨⟨c, rfl, _⟩, h⟩ := h
  obtain _ | ⟨hd, h⟩ := h
  obtain _ | ⟨⟨f, rfl, hf⟩, h⟩ := h
  obtain _ | ⟨⟨g, rfl, _⟩, h⟩ := h
  cases h
  obtain ⟨bs, ad, cp, rfl, hin, hl, _⟩ := slInG_bytes hG hd rfl rfl (by decide +kernel)
  refine ⟨⟨a, b, c, ad, cp, bs, f, g⟩, rfl, hin, hl, ?_⟩
  have h1 : IntKind.i64.min = -9223372036854775808 := rfl
  have h2 : IntKind.i64.max = 9223372036854775807 := rfl
  simp [Lit.wf] at hf
  show f ≤ 9223372036854775807
  omega

set_option maxRecDepth 100000 in
theorem liftedNone (os : Os) (started : os.Started) (H : Type) (enc : TypeId × Value → H) :
    ReturnsInHanded {} Try.checked os 8 .any (Rows.diskNoneSpec.pre6 enc Try.prog Try.f8 Rows.diskNoneRow.domain false) (Rows.diskNoneSpec.post enc Try.prog Try.f8 false true false false) := by
  refine returnsInHanded_of_change_sized (C := Try.checked) ownNone started (by kernel_rfl) Try.func8
    (ChangeSpec.witness6 (enc := enc) (C := Try.checked) false ⟨#[], #[.agg #[.int .i64 0, .string .empty, .string .empty, .slice none 0 0, .int .i64 0, .int .i64 0]], []⟩ 8 (by kernel_rfl) (by kernel_rfl) (by kernel_rfl) (by kernel_rfl)) ?_
  intro W base args ds gs before hval0 hW hcnd hk _
  have hval : ∀ (j : Nat) t v, Try.f8.params[j]? = some t → args[j]? = some v → Value.okWide Try.prog W .any base t v := hval0
  have hW' := hW
  obtain ⟨p, q, hA0, hV, rfl, hfz, hnd⟩ := hW
  have hA : DataW.TrodAll enc Try.prog W 0 (fun _ => true) true Try.f8.params.toList args.toList ds p := hA0
  have hp : Try.f8.params.toList = [34] := rfl
  rw [hp] at hA
  obtain ⟨v0, vs0, d0, ds0, p0, q0, hargs, rfl, rfl, h0, r0⟩ := trodAll_cons hA
  obtain ⟨rfl, rfl, rfl⟩ := trodAll_nil r0
  obtain rfl : args = #[v0] := by cases args; simp_all
  obtain ⟨rfl, rfl⟩ := trodVars_none hV
  have k0 := h0
  have lt0 : ∀ x ∈ p0, x.block < W.heap.size := by obtain ⟨m, hm⟩ := k0; exact DataW.trod_lt m _ _ _ hm
  have g0 : gR Try.prog 34 d0 := gR_at hk (j := 0) rfl rfl
  obtain ⟨cs0, rfl, hcs0⟩ := okWide_struct rfl (hval 0 34 v0 rfl rfl)
  obtain ⟨x0, hx0, wf0⟩ : ∃ x : OpD, cs0 = (OpD.cells x).toArray ∧ OpOK (all W) x := by
    obtain ⟨fuel, hf⟩ := h0
    obtain ⟨r, hr, hw⟩ := opd_of (herR Try.prog) (trodG_kinds (herR Try.prog) 8 34 _ fuel _ _ rfl rfl hf g0)
    exact ⟨r, by rw [← hr]; simp [Value.cells], hw⟩
  subst hx0
  clear hA0 hval0
  refine (law_true (none_law W (o := x0) ⟨rfl, rfl⟩)).mono fun e W' ⟨he, bel⟩ => ?_
  subst he
  exact ⟨_, rfl, _, _, _, [], _, [], hW', trodAll_mk1 (shut_bool rfl _), (trodAll_cons_mk (Below.trod laidOutNone (by kernel_rfl) (of_decide_eq_true (by kernel_rfl)) k0 bel lt0) trodAll_mk0), rfl, bel.frame _, fun h => by cases h⟩

theorem provedNone : Rows.DiskNoneSaid :=
  OpenClaim.holds_of_wide 8 Try.f8 rfl rfl rfl rfl rfl rfl rfl ⟨rfl, rfl, rfl, rfl, rfl⟩ rfl rfl rfl rfl rfl (by kernel_rfl) Try.func8 (by kernel_rfl)
    (of_decide_eq_true (by kernel_rfl)) (by unfold Func.isWrapper; first | (rw [if_pos (by decide +kernel)]; kernel_rfl) | (rw [if_neg (by decide +kernel)]; exact ⟨rfl, rfl⟩))
    (fun os started H enc _ => liftedNone os started H enc)
#print axioms provedNone
end Go.Proofs.Ytkamfmdonhaikaa
