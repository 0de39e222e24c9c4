/-
  PROVED HERE: 'Rows.ClientsFromSaid': whatever the argument, ClientsFrom returns true and its argument reads afterwards as it read before. No condition.
-/
import Derived.Test.YtbbobncokpfkmaaT6
import Derived.Test.YtbbobncokpfkmaaVr
import Derived.Test.YtbbobncokpfkmaaRows
namespace Go.Proofs.Ytbbobncokpfkmaa
open Go.ChangeShapes Go.WideShapes Go.ChangeAt Go.RowKit Go.Vl

theorem ownF : ownKnob Try.prog.godebug = none := by kernel_rfl
theorem laidOutF : laidOutB Try.prog = true := by kernel_rfl

theorem rw_of {H : Type} {enc : TypeId × Value → H} {W : World} {cs : List Value} (h : All2 (LKok enc Try.prog W) [.int .i64, .int .i64, .int .i64, .int .i64, .int .i64, .int .i64] cs) : ∃ r : Rw, cs = r.cells ∧ True := by
  obtain _ | ⟨⟨a, rfl, _⟩, h⟩ := h
  obtain _ | ⟨⟨b, rfl, _⟩, h⟩ := h
  obtain _ | ⟨⟨c, rfl, _⟩, h⟩ := h
  obtain _ | ⟨⟨d, rfl, _⟩, h⟩ := h
  obtain _ | ⟨⟨f, rfl, _⟩, h⟩ := h
  obtain _ | ⟨⟨g, rfl, _⟩, h⟩ := h
  cases h
  exact ⟨⟨a, b, ⟨c, d, f, g⟩⟩, rfl, trivial⟩

set_option maxRecDepth 100000 in
theorem liftedFrom (os : Os) (started : os.Started) (H : Type) (enc : TypeId × Value → H) :
    ReturnsInHanded {} Try.checked os 5 .any (Rows.clientsFromSpec.pre6 enc Try.prog Try.f5 Rows.clientsFromRow.domain false) (Rows.clientsFromSpec.post enc Try.prog Try.f5 false true false false) := by
  refine returnsInHanded_of_change (C := Try.checked) ownF started (by kernel_rfl) Try.func5
    (ChangeSpec.witness6 (enc := enc) (C := Try.checked) false ⟨#[], #[.slice none 0 0], []⟩ 8 (by kernel_rfl) (by kernel_rfl) (by kernel_rfl) (by kernel_rfl)) ?_
  intro W base args ds gs before hval0 hW hcnd _
  have hval : ∀ (j : Nat) t v, Try.f5.params[j]? = some t → args[j]? = some v → Value.okWide Try.prog W .any base t v := hval0
  have hW' := hW
  obtain ⟨p, q, hA0, hV, rfl, hfz, hnd⟩ := hW
  have hA : DataW.TrodAll enc Try.prog W 0 (fun _ => true) true Try.f5.params.toList args.toList ds p := hA0
  have hp : Try.f5.params.toList = [41] := rfl
  rw [hp] at hA
  obtain ⟨v0, vs0, d0, ds0, p0, q0, hargs, rfl, rfl, h0, r0⟩ := trodAll_cons hA
  obtain ⟨rfl, rfl, rfl⟩ := trodAll_nil r0
  obtain rfl : args = #[v0] := by cases args; simp_all
  obtain ⟨rfl, rfl⟩ := trodVars_none hV
  have k0 := h0
  have lt0 : ∀ x ∈ p0, x.block < W.heap.size := by obtain ⟨m, hm⟩ := k0; exact DataW.trod_lt m _ _ _ hm
  obtain ⟨a, len, cap, rfl⟩ := okWide_slice rfl (hval 0 41 v0 rfl rfl)
  obtain ⟨rs, hin, hlen⟩ : ∃ rs : List Rw, InSl (all W) 6 (rs.map Rw.cells) (.slice a len cap) ∧ rs.length ≤ maxLen := by
    obtain ⟨fuel, hf⟩ := h0
    cases trod_kinds 4 41 _ fuel _ _ rfl rfl hf with
    | cons h1 _ =>
      obtain ⟨xs, h2, _, h3⟩ := slIn_rows (C := Rw.cells) (Wf := fun _ => True) h1 rfl rfl (by decide +kernel) (fun cs hcs => rw_of hcs) (fun _ => rfl)
      exact ⟨xs, h2, h3⟩
  clear hA0 hval0
  refine (law_true (from_law W hin (Nat.le_trans hlen (by decide)) ⟨rfl, rfl⟩)).mono fun e W' ⟨he, bel⟩ => ?_
  subst he
  exact ⟨_, rfl, _, _, _, [], _, [], hW', trodAll_mk1 (shut_bool rfl _), (trodAll_cons_mk (Below.trod laidOutF (by kernel_rfl) (of_decide_eq_true (by kernel_rfl)) k0 bel lt0) trodAll_mk0), rfl, bel.frame _, fun h => by cases h⟩

theorem provedFrom : Rows.ClientsFromSaid :=
  OpenClaim.holds_of_wide 5 Try.f5 rfl rfl rfl rfl rfl rfl rfl ⟨rfl, rfl, rfl, rfl, rfl⟩ rfl rfl rfl rfl rfl (by kernel_rfl) Try.func5 (by kernel_rfl)
    (of_decide_eq_true (by kernel_rfl)) (by unfold Func.isWrapper; first | (rw [if_pos (by decide +kernel)]; kernel_rfl) | (rw [if_neg (by decide +kernel)]; exact ⟨rfl, rfl⟩))
    (fun os started H enc _ => liftedFrom os started H enc)
#print axioms provedFrom
end Go.Proofs.Ytbbobncokpfkmaa
