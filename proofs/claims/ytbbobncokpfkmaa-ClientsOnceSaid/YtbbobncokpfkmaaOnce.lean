/-
  PROVED HERE: 'Rows.ClientsOnceSaid': whatever the argument, ClientsOnce returns true and its argument reads afterwards as it read before. No condition.
-/
import Derived.Test.YtbbobncokpfkmaaT3
import Derived.Test.YtbbobncokpfkmaaVr
import Derived.Test.YtbbobncokpfkmaaRows
namespace Go.Proofs.Ytbbobncokpfkmaa
open Go.ChangeShapes Go.WideShapes Go.ChangeAt Go.RowKit Go.Vl

theorem own3 : ownKnob Try.prog.godebug = none := by kernel_rfl
theorem laidOut3 : laidOutB Try.prog = true := by kernel_rfl

theorem op_of {H : Type} {enc : TypeId × Value → H} {W : World} {cs : List Value} (h : All2 (LKok enc Try.prog W) [.int .i64, .int .i64, .bool, .bool, .int .i64, .int .i64, .int .i64, .int .i64, .int .i64] cs) : ∃ r : OpR, cs = r.cells ∧ True := by
  cases h with
  | cons h0 h => cases h with
    | cons h1 h => cases h with
      | cons h2 h => cases h with
        | cons h3 h => cases h with
          | cons h4 h => cases h with
            | cons h5 h => cases h with
              | cons h6 h => cases h with
                | cons h7 h => cases h with
                  | cons h8 h =>
                    cases h
                    obtain ⟨a, rfl, _⟩ := h0
                    obtain ⟨b, rfl, _⟩ := h1
                    obtain ⟨c, rfl⟩ := h2
                    obtain ⟨d, rfl⟩ := h3
                    obtain ⟨e, rfl, _⟩ := h4
                    obtain ⟨f, rfl, _⟩ := h5
                    obtain ⟨g, rfl, _⟩ := h6
                    obtain ⟨i, rfl, _⟩ := h7
                    obtain ⟨j, rfl, _⟩ := h8
                    exact ⟨⟨a, b, c, d, ⟨e, f, g, i⟩, j⟩, rfl, trivial⟩

set_option maxRecDepth 100000 in
theorem liftedOnce (os : Os) (started : os.Started) (H : Type) (enc : TypeId × Value → H) :
    ReturnsInHanded {} Try.checked os 3 .any (Rows.clientsOnceSpec.pre6 enc Try.prog Try.f3 Rows.clientsOnceRow.domain false) (Rows.clientsOnceSpec.post enc Try.prog Try.f3 false true false false) := by
  refine returnsInHanded_of_change (C := Try.checked) own3 started (by kernel_rfl) Try.func3
    (ChangeSpec.witness6 (enc := enc) (C := Try.checked) false ⟨#[], #[.slice none 0 0], []⟩ 8 (by kernel_rfl) (by kernel_rfl) (by kernel_rfl) (by kernel_rfl)) ?_
  intro W base args ds gs before hval0 hW hcnd _
  have hval : ∀ (j : Nat) t v, Try.f3.params[j]? = some t → args[j]? = some v → Value.okWide Try.prog W .any base t v := hval0
  have hW' := hW
  obtain ⟨p, q, hA0, hV, rfl, hfz, hnd⟩ := hW
  have hA : DataW.TrodAll enc Try.prog W 0 (fun _ => true) true Try.f3.params.toList args.toList ds p := hA0
  have hp : Try.f3.params.toList = [22] := rfl
  rw [hp] at hA
  obtain ⟨v0, vs0, d0, ds0, p0, q0, hargs, rfl, rfl, h0, r0⟩ := trodAll_cons hA
  obtain ⟨rfl, rfl, rfl⟩ := trodAll_nil r0
  obtain rfl : args = #[v0] := by cases args; simp_all
  obtain ⟨rfl, rfl⟩ := trodVars_none hV
  have k0 := h0
  have lt0 : ∀ x ∈ p0, x.block < W.heap.size := by obtain ⟨m, hm⟩ := k0; exact DataW.trod_lt m _ _ _ hm
  obtain ⟨a, len, cap, rfl⟩ := okWide_slice rfl (hval 0 22 v0 rfl rfl)
  obtain ⟨ops, hin, hlen⟩ : ∃ ops : List OpR, InSl (all W) 9 (ops.map OpR.cells) (.slice a len cap) ∧ ops.length ≤ maxLen := by
    obtain ⟨fuel, hf⟩ := h0
    cases trod_kinds 4 22 _ fuel _ _ rfl rfl hf with
    | cons h1 _ =>
      obtain ⟨xs, h2, _, h3⟩ := slIn_rows (C := OpR.cells) (Wf := fun _ => True) h1 rfl rfl (by decide +kernel) (fun cs hcs => op_of hcs)
      exact ⟨xs, h2, h3⟩
  clear hA0 hval0
  refine (law_calls (once_law W (F := all W) (K := fun v H => v = .bool true ∧ H = all W) hin (Nat.le_trans hlen (by decide)) ⟨rfl, rfl⟩) (fun x H h => ⟨h.1, [], by rw [h.2, List.append_nil]⟩)).mono fun e W' ⟨he, bel⟩ => ?_
  subst he
  exact ⟨_, rfl, _, _, _, [], _, [], hW', trodAll_mk1 (shut_bool rfl _), (trodAll_cons_mk (Below.trod laidOut3 (by kernel_rfl) (of_decide_eq_true (by kernel_rfl)) k0 bel lt0) trodAll_mk0), rfl, bel.frame _, fun h => by cases h⟩

theorem provedOnce : Rows.ClientsOnceSaid :=
  OpenClaim.holds_of_wide 3 Try.f3 rfl rfl rfl rfl rfl rfl rfl ⟨rfl, rfl, rfl, rfl, rfl⟩ rfl rfl rfl rfl rfl (by kernel_rfl) Try.func3 (by kernel_rfl)
    (of_decide_eq_true (by kernel_rfl)) (by unfold Func.isWrapper; first | (rw [if_pos (by decide +kernel)]; kernel_rfl) | (rw [if_neg (by decide +kernel)]; exact ⟨rfl, rfl⟩))
    (fun os started H enc _ => liftedOnce os started H enc)
#print axioms provedOnce
end Go.Proofs.Ytbbobncokpfkmaa
