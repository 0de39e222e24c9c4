/-
  PROVED HERE: 'Rows.DiskOwnSaid': whatever the input, DiskOwn returns true and its input reads afterwards as it read before. No condition.
-/
import Derived.Test.YtkamfmdonhaikaaDB
import Derived.Test.YtkamfmdonhaikaaVi
import Derived.Test.YtkamfmdonhaikaaRows
namespace Go.Proofs.Ytkamfmdonhaikaa
open Go.ChangeShapes Go.WideShapes Go.ChangeAt Go.RowKit Go.Vl

theorem ownOwn : ownKnob Try.prog.godebug = none := by kernel_rfl
theorem laidOutOwn : laidOutB Try.prog = true := by kernel_rfl
set_option maxRecDepth 100000 in
theorem opd_of {H : Type} {enc : TypeId × Value → H} {W : World} {G : TypeId → DataW H → Prop} {Bd : TypeId → Nat → Prop} (hG : Her Try.prog G Bd) {cs : List Value} (h : All2 (LKg enc Try.prog W G Bd) [.int .i64, .str, .str, .sl 5, .int .i64, .int .i64] cs) : ∃ r : OpD, cs = r.cells ∧ OpOK (all W) r := by
  obtain _ | ⟨⟨a, rfl, _⟩, h⟩ := h
  obtain _ | ⟨⟨b, rfl, _⟩, h⟩ := h
  obtain _ | ⟨⟨c, rfl, _⟩, h⟩ := h
  obtain _ | ⟨hd, h⟩ := h
  obtain _ | ⟨⟨f, rfl, hf⟩, h⟩ := h
  obtain _ | ⟨⟨g, rfl, _⟩, h⟩ := h
  cases h
  obtain ⟨bs, ad, cp, rfl, hin, hl, _⟩ := slInG_bytes hG hd rfl rfl (by decide +kernel)
  refine ⟨⟨a, b, c, ad, cp, bs, f, g⟩, rfl, hin, hl, ?_⟩
  have h1 : IntKind.i64.min = -9223372036854775808 := rfl
  have h2 : IntKind.i64.max = 9223372036854775807 := rfl
  simp [Lit.wf] at hf
  show f ≤ 9223372036854775807
  omega

set_option maxRecDepth 100000 in
theorem liftedOwn (os : Os) (started : os.Started) (H : Type) (enc : TypeId × Value → H) :
    ReturnsInHanded {} Try.checked os 3 .any (Rows.diskOwnSpec.pre6 enc Try.prog Try.f3 Rows.diskOwnRow.domain false) (Rows.diskOwnSpec.post enc Try.prog Try.f3 false true false false) := by
  refine returnsInHanded_of_change_sized (C := Try.checked) ownOwn started (by kernel_rfl) Try.func3
    (ChangeSpec.witness6 (enc := enc) (C := Try.checked) false ⟨#[], #[.slice none 0 0, .slice none 0 0], []⟩ 8 (by kernel_rfl) (by kernel_rfl) (by kernel_rfl) (by kernel_rfl)) ?_
  intro W base args ds gs before hval0 hW hcnd hk _
  have hval : ∀ (j : Nat) t v, Try.f3.params[j]? = some t → args[j]? = some v → Value.okWide Try.prog W .any base t v := hval0
  have hW' := hW
  obtain ⟨p, q, hA0, hV, rfl, hfz, hnd⟩ := hW
  have hA : DataW.TrodAll enc Try.prog W 0 (fun _ => true) true Try.f3.params.toList args.toList ds p := hA0
  have hp : Try.f3.params.toList = [22, 23] := rfl
  rw [hp] at hA
  obtain ⟨v0, vs0, d0, ds0, p0, q0, hargs, rfl, rfl, h0, r0⟩ := trodAll_cons hA
  obtain ⟨v1, vs1, d1, ds1, p1, q1, rfl, rfl, rfl, h1, r1⟩ := trodAll_cons r0
  obtain ⟨rfl, rfl, rfl⟩ := trodAll_nil r1
  obtain rfl : args = #[v0, v1] := by cases args; simp_all
  obtain ⟨rfl, rfl⟩ := trodVars_none hV
  have k0 := h0
  have lt0 : ∀ x ∈ p0, x.block < W.heap.size := by obtain ⟨m, hm⟩ := k0; exact DataW.trod_lt m _ _ _ hm
  have k1 := h1
  have lt1 : ∀ x ∈ p1, x.block < W.heap.size := by obtain ⟨m, hm⟩ := k1; exact DataW.trod_lt m _ _ _ hm
  have g0 : gR Try.prog 22 d0 := gR_at hk (j := 0) rfl rfl
  have g1 : gR Try.prog 23 d1 := gR_at hk (j := 1) rfl rfl
  obtain ⟨bs0, ad0, cp0, rfl, hin0, ln0, bd0⟩ : ∃ (bs : List UInt8) (a : Option Addr) (c : Nat), v0 = .slice a bs.length c ∧ InSl (all W) 1 (bs.map byC) v0 ∧ bs.length ≤ maxLen ∧ (bdR Try.prog) 5 bs.length := by
    obtain ⟨aa, len, cap, rfl⟩ := okWide_slice rfl (hval 0 22 v0 rfl rfl)
    obtain ⟨fuel, hf⟩ := h0
    cases trodG_kinds (herR Try.prog) 4 22 _ fuel _ _ rfl rfl hf g0 with
    | cons h1 _ => exact slInG_bytes (herR Try.prog) h1 rfl rfl (by decide +kernel)
  obtain ⟨xs1, hin1, wf1, ln1, bd1⟩ : ∃ xs : List OpD, InSl (all W) 6 (xs.map OpD.cells) v1 ∧ (∀ x ∈ xs, OpOK (all W) x) ∧ xs.length ≤ maxLen ∧ (bdR Try.prog) _ xs.length := by
    obtain ⟨aa, len, cap, rfl⟩ := okWide_slice rfl (hval 1 23 v1 rfl rfl)
    obtain ⟨fuel, hf⟩ := h1
    cases trodG_kinds (herR Try.prog) 4 23 _ fuel _ _ rfl rfl hf g1 with
    | cons h1 _ => exact slInG_rows (C := OpD.cells) (Wf := OpOK (all W)) (herR Try.prog) h1 rfl rfl (by decide +kernel) (fun cs hcs => opd_of (herR Try.prog) hcs) (fun _ => rfl)
  clear hA0 hval0
  refine (law_true (own_law W hin0 hin1 (by have h9 := bd0; unfold bdR at h9; rw [show Try.prog.bytesOf 5 = 1 from by kernel_rfl, Nat.mul_one] at h9; have := reachBytes_lt; omega) wf1 (Nat.le_trans ln1 (by decide)) ⟨rfl, rfl⟩)).mono fun e W' ⟨he, bel⟩ => ?_
  subst he
  exact ⟨_, rfl, _, _, _, [], _, [], hW', trodAll_mk1 (shut_bool rfl _), (trodAll_cons_mk (Below.trod laidOutOwn (by kernel_rfl) (of_decide_eq_true (by kernel_rfl)) k0 bel lt0) (trodAll_cons_mk (Below.trod laidOutOwn (by kernel_rfl) (of_decide_eq_true (by kernel_rfl)) k1 bel lt1) trodAll_mk0)), rfl, bel.frame _, fun h => by cases h⟩

theorem provedOwn : Rows.DiskOwnSaid :=
  OpenClaim.holds_of_wide 3 Try.f3 rfl rfl rfl rfl rfl rfl rfl ⟨rfl, rfl, rfl, rfl, rfl⟩ rfl rfl rfl rfl rfl (by kernel_rfl) Try.func3 (by kernel_rfl)
    (of_decide_eq_true (by kernel_rfl)) (by unfold Func.isWrapper; first | (rw [if_pos (by decide +kernel)]; kernel_rfl) | (rw [if_neg (by decide +kernel)]; exact ⟨rfl, rfl⟩))
    (fun os started H enc _ => liftedOwn os started H enc)
#print axioms provedOwn
end Go.Proofs.Ytkamfmdonhaikaa
