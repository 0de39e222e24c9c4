/-
  PROVED HERE: 'Rows.AcceptorNoneSaid': whatever the input, AcceptorNone returns true and its input reads afterwards as it read before. No condition.
-/
import Derived.Test.YtagdhnbodddipaaAO
import Derived.Test.YtagdhnbodddipaaVi
import Derived.Test.YtagdhnbodddipaaRows
namespace Go.Proofs.Ytagdhnbodddipaa
open Go.ChangeShapes Go.WideShapes Go.ChangeAt Go.RowKit Go.Vl

theorem ownANone : ownKnob Try.prog.godebug = none := by kernel_rfl
theorem laidOutANone : laidOutB Try.prog = true := by kernel_rfl
theorem bal_of {H : Type} {enc : TypeId × Value → H} {W : World} {G : TypeId → DataW H → Prop} {Bd : TypeId → Nat → Prop} {cs : List Value} (h : All2 (LKg enc Try.prog W G Bd) [.int .i64, .int .i64] cs) : ∃ r : Bal, cs = r.cells ∧ True := by
  obtain _ | ⟨⟨a, rfl, _⟩, h⟩ := h
  obtain _ | ⟨⟨b, rfl, _⟩, h⟩ := h
  cases h
  exact ⟨⟨a, b⟩, rfl, trivial⟩

set_option maxRecDepth 100000 in
theorem liftedANone (os : Os) (started : os.Started) (H : Type) (enc : TypeId × Value → H) :
    ReturnsInHanded {} Try.checked os 10 .any (Rows.acceptorNoneSpec.pre6 enc Try.prog Try.f10 Rows.acceptorNoneRow.domain false) (Rows.acceptorNoneSpec.post enc Try.prog Try.f10 false true false false) := by
  refine returnsInHanded_of_change_sized (C := Try.checked) ownANone started (by kernel_rfl) Try.func10
    (ChangeSpec.witness6 (enc := enc) (C := Try.checked) false ⟨#[], #[.agg #[.int .i64 0, .int .i64 0], .int .i64 0], []⟩ 8 (by kernel_rfl) (by kernel_rfl) (by kernel_rfl) (by kernel_rfl)) ?_
  intro W base args ds gs before hval0 hW hcnd hk _
  have hval : ∀ (j : Nat) t v, Try.f10.params[j]? = some t → args[j]? = some v → Value.okWide Try.prog W .any base t v := hval0
  have hW' := hW
  obtain ⟨p, q, hA0, hV, rfl, hfz, hnd⟩ := hW
  have hA : DataW.TrodAll enc Try.prog W 0 (fun _ => true) true Try.f10.params.toList args.toList ds p := hA0
  have hp : Try.f10.params.toList = [23, 2] := rfl
  rw [hp] at hA
  obtain ⟨v0, vs0, d0, ds0, p0, q0, hargs, rfl, rfl, h0, r0⟩ := trodAll_cons hA
  obtain ⟨v1, vs1, d1, ds1, p1, q1, rfl, rfl, rfl, h1, r1⟩ := trodAll_cons r0
  obtain ⟨rfl, rfl, rfl⟩ := trodAll_nil r1
  obtain rfl : args = #[v0, v1] := by cases args; simp_all
  obtain ⟨rfl, rfl⟩ := trodVars_none hV
  have k0 := h0
  have lt0 : ∀ x ∈ p0, x.block < W.heap.size := by obtain ⟨m, hm⟩ := k0; exact DataW.trod_lt m _ _ _ hm
  have k1 := h1
  have lt1 : ∀ x ∈ p1, x.block < W.heap.size := by obtain ⟨m, hm⟩ := k1; exact DataW.trod_lt m _ _ _ hm
  have g0 : gR Try.prog 23 d0 := gR_at hk (j := 0) rfl rfl
  have g1 : gR Try.prog 2 d1 := gR_at hk (j := 1) rfl rfl
  obtain ⟨cs0, rfl, hcs0⟩ := okWide_struct rfl (hval 0 23 v0 rfl rfl)
  obtain ⟨x0, hx0, wf0⟩ : ∃ x : Bal, cs0 = (Bal.cells x).toArray ∧ (fun _ => True) x := by
    obtain ⟨fuel, hf⟩ := h0
    obtain ⟨r, hr, hw⟩ := bal_of (trodG_kinds (herR Try.prog) 8 23 _ fuel _ _ rfl rfl hf g0)
    exact ⟨r, by rw [← hr]; simp [Value.cells], hw⟩
  subst hx0
  obtain ⟨a1, rfl, rfl, rfl, w1⟩ := open_int (k := .i64) rfl (hval 1 2 v1 rfl rfl) h1
  clear hA0 hval0
  refine (law_true (anone_law W (b := x0) (n := a1) ⟨rfl, rfl⟩)).mono fun e W' ⟨he, bel⟩ => ?_
  subst he
  exact ⟨_, rfl, _, _, _, [], _, [], hW', trodAll_mk1 (shut_bool rfl _), (trodAll_cons_mk (Below.trod laidOutANone (by kernel_rfl) (of_decide_eq_true (by kernel_rfl)) k0 bel lt0) (trodAll_cons_mk (Below.trod laidOutANone (by kernel_rfl) (of_decide_eq_true (by kernel_rfl)) k1 bel lt1) trodAll_mk0)), rfl, bel.frame _, fun h => by cases h⟩

theorem provedANone : Rows.AcceptorNoneSaid :=
  OpenClaim.holds_of_wide 10 Try.f10 rfl rfl rfl rfl rfl rfl rfl ⟨rfl, rfl, rfl, rfl, rfl⟩ rfl rfl rfl rfl rfl (by kernel_rfl) Try.func10 (by kernel_rfl)
    (of_decide_eq_true (by kernel_rfl)) (by unfold Func.isWrapper; first | (rw [if_pos (by decide +kernel)]; kernel_rfl) | (rw [if_neg (by decide +kernel)]; exact ⟨rfl, rfl⟩))
    (fun os started H enc _ => liftedANone os started H enc)
#print axioms provedANone
end Go.Proofs.Ytagdhnbodddipaa
