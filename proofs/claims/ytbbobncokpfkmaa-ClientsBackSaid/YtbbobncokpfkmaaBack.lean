/-
  PROVED HERE: 'Rows.ClientsBackSaid': whatever the input, ClientsBack returns true and its input reads afterwards as it read before. No condition.
-/
import Derived.Test.YtbbobncokpfkmaaT9
import Derived.Test.YtbbobncokpfkmaaVr
import Derived.Test.YtbbobncokpfkmaaRows
namespace Go.Proofs.Ytbbobncokpfkmaa
open Go.ChangeShapes Go.WideShapes Go.ChangeAt Go.RowKit Go.Vl

theorem ownBack : ownKnob Try.prog.godebug = none := by kernel_rfl
theorem laidOutBack : laidOutB Try.prog = true := by kernel_rfl
theorem op_ofBack {H : Type} {enc : TypeId × Value → H} {W : World} {cs : List Value} (h : All2 (LKok enc Try.prog W) [.int .i64, .int .i64, .bool, .bool, .int .i64, .int .i64, .int .i64, .int .i64, .int .i64] cs) : ∃ r : OpR, cs = r.cells ∧ True := by
  obtain _ | ⟨⟨a, rfl, _⟩, h⟩ := h
  obtain _ | ⟨⟨b, rfl, _⟩, h⟩ := h
  obtain _ | ⟨⟨c, rfl⟩, h⟩ := h
  obtain _ | ⟨⟨d, rfl⟩, h⟩ := h
  obtain _ | ⟨⟨f, rfl, _⟩, h⟩ := h
  obtain _ | ⟨⟨g, rfl, _⟩, h⟩ := h
  obtain _ | ⟨⟨i, rfl, _⟩, h⟩ := h
  obtain _ | ⟨⟨j, rfl, _⟩, h⟩ := h
  obtain _ | ⟨⟨k, rfl, _⟩, h⟩ := h
  cases h
  exact ⟨⟨a, b, c, d, ⟨f, g, i, j⟩, k⟩, rfl, trivial⟩

set_option maxRecDepth 100000 in
theorem liftedBack (os : Os) (started : os.Started) (H : Type) (enc : TypeId × Value → H) :
    ReturnsInHanded {} Try.checked os 6 .any (Rows.clientsBackSpec.pre6 enc Try.prog Try.f6 Rows.clientsBackRow.domain false) (Rows.clientsBackSpec.post enc Try.prog Try.f6 false true false false) := by
  refine returnsInHanded_of_change (C := Try.checked) ownBack started (by kernel_rfl) Try.func6
    (ChangeSpec.witness6 (enc := enc) (C := Try.checked) false ⟨#[], #[.slice none 0 0, .slice none 0 0], []⟩ 8 (by kernel_rfl) (by kernel_rfl) (by kernel_rfl) (by kernel_rfl)) ?_
  intro W base args ds gs before hval0 hW hcnd _
  have hval : ∀ (j : Nat) t v, Try.f6.params[j]? = some t → args[j]? = some v → Value.okWide Try.prog W .any base t v := hval0
  have hW' := hW
  obtain ⟨p, q, hA0, hV, rfl, hfz, hnd⟩ := hW
  have hA : DataW.TrodAll enc Try.prog W 0 (fun _ => true) true Try.f6.params.toList args.toList ds p := hA0
  have hp : Try.f6.params.toList = [22, 22] := rfl
  rw [hp] at hA
  obtain ⟨v0, vs0, d0, ds0, p0, q0, hargs, rfl, rfl, h0, r0⟩ := trodAll_cons hA
  obtain ⟨v1, vs1, d1, ds1, p1, q1, rfl, rfl, rfl, h1, r1⟩ := trodAll_cons r0
  obtain ⟨rfl, rfl, rfl⟩ := trodAll_nil r1
  obtain rfl : args = #[v0, v1] := by cases args; simp_all
  obtain ⟨rfl, rfl⟩ := trodVars_none hV
  have k0 := h0
  have lt0 : ∀ x ∈ p0, x.block < W.heap.size := by obtain ⟨m, hm⟩ := k0; exact DataW.trod_lt m _ _ _ hm
  have k1 := h1
  have lt1 : ∀ x ∈ p1, x.block < W.heap.size := by obtain ⟨m, hm⟩ := k1; exact DataW.trod_lt m _ _ _ hm
  obtain ⟨a0, len0, cap0, rfl⟩ := okWide_slice rfl (hval 0 22 v0 rfl rfl)
  obtain ⟨xs0, hin0, hlen0⟩ : ∃ xs : List OpR, InSl (all W) 9 (xs.map OpR.cells) (.slice a0 len0 cap0) ∧ xs.length ≤ maxLen := by
    obtain ⟨fuel, hf⟩ := h0
    cases trod_kinds 4 22 _ fuel _ _ rfl rfl hf with
    | cons h1 _ =>
      obtain ⟨xs, h2, _, h3⟩ := slIn_rows (C := OpR.cells) (Wf := fun _ => True) h1 rfl rfl (by decide +kernel) (fun cs hcs => op_ofBack hcs) (fun _ => rfl)
      exact ⟨xs, h2, h3⟩
  obtain ⟨a1, len1, cap1, rfl⟩ := okWide_slice rfl (hval 1 22 v1 rfl rfl)
  obtain ⟨xs1, hin1, hlen1⟩ : ∃ xs : List OpR, InSl (all W) 9 (xs.map OpR.cells) (.slice a1 len1 cap1) ∧ xs.length ≤ maxLen := by
    obtain ⟨fuel, hf⟩ := h1
    cases trod_kinds 4 22 _ fuel _ _ rfl rfl hf with
    | cons h1 _ =>
      obtain ⟨xs, h2, _, h3⟩ := slIn_rows (C := OpR.cells) (Wf := fun _ => True) h1 rfl rfl (by decide +kernel) (fun cs hcs => op_ofBack hcs) (fun _ => rfl)
      exact ⟨xs, h2, h3⟩
  clear hA0 hval0
  refine (law_true (back_law W hin0 (Nat.le_trans hlen0 (by decide)) hin1 (Nat.le_trans hlen1 (by decide)) ⟨rfl, rfl⟩)).mono fun e W' ⟨he, bel⟩ => ?_
  subst he
  exact ⟨_, rfl, _, _, _, [], _, [], hW', trodAll_mk1 (shut_bool rfl _), (trodAll_cons_mk (Below.trod laidOutBack (by kernel_rfl) (of_decide_eq_true (by kernel_rfl)) k0 bel lt0) (trodAll_cons_mk (Below.trod laidOutBack (by kernel_rfl) (of_decide_eq_true (by kernel_rfl)) k1 bel lt1) trodAll_mk0)), rfl, bel.frame _, fun h => by cases h⟩

theorem provedBack : Rows.ClientsBackSaid :=
  OpenClaim.holds_of_wide 6 Try.f6 rfl rfl rfl rfl rfl rfl rfl ⟨rfl, rfl, rfl, rfl, rfl⟩ rfl rfl rfl rfl rfl (by kernel_rfl) Try.func6 (by kernel_rfl)
    (of_decide_eq_true (by kernel_rfl)) (by unfold Func.isWrapper; first | (rw [if_pos (by decide +kernel)]; kernel_rfl) | (rw [if_neg (by decide +kernel)]; exact ⟨rfl, rfl⟩))
    (fun os started H enc _ => liftedBack os started H enc)
#print axioms provedBack
end Go.Proofs.Ytbbobncokpfkmaa
