/-
  PROVED HERE: 'Rows.CkptOneStepSaid': whatever the input, CkptOneStep returns true and its input reads afterwards as it read before. No condition.
-/
import Derived.Test.YtkamfmdonhaikaaXT
import Derived.Test.YtkamfmdonhaikaaVi
import Derived.Test.YtkamfmdonhaikaaRows
namespace Go.Proofs.Ytkamfmdonhaikaa
open Go.ChangeShapes Go.WideShapes Go.ChangeAt Go.RowKit Go.Vl

theorem ownCStep : ownKnob Try.prog.godebug = none := by kernel_rfl
theorem laidOutCStep : laidOutB Try.prog = true := by kernel_rfl
theorem i64_of {n : Int} (h : (Lit.int .i64 n).wf = true) : -9223372036854775808 ≤ n ∧ n ≤ 9223372036854775807 := by
  have h1 : IntKind.i64.min = -9223372036854775808 := rfl
  have h2 : IntKind.i64.max = 9223372036854775807 := rfl
  simp [Lit.wf] at h
  omega
structure OpKW (I : Hp) (o : OpK) : Prop where
  s : InSl I 1 (o.bs.map byC) o.v
  k : o.k ≤ 9223372036854775807
  kp : o.keep ≤ 9223372036854775807
theorem OpKW.ok {I : Hp} {o : OpK} (h : OpKW I o) (b : o.bs.length ≤ 140737488355000) : OpKOK I o := ⟨h.s, b, h.k⟩
set_option maxRecDepth 100000 in
theorem opk_of {H : Type} {enc : TypeId × Value → H} {W : World} {G : TypeId → DataW H → Prop} {Bd : TypeId → Nat → Prop} (hG : Her Try.prog G Bd) {cs : List Value} (h : All2 (LKg enc Try.prog W G Bd) [.int .i64, .int .i64, .sl 5, .int .i64, .int .i64, .str] cs) : ∃ r : OpK, cs = r.cells ∧ (OpKW (all W) r ∧ Bd 5 r.bs.length) := by
  obtain _ | ⟨⟨a, rfl, _⟩, h⟩ := h
  obtain _ | ⟨⟨b, rfl, _⟩, h⟩ := h
  obtain _ | ⟨hd, h⟩ := h
  obtain _ | ⟨⟨f, rfl, hf⟩, h⟩ := h
  obtain _ | ⟨⟨g, rfl, hg⟩, h⟩ := h
  obtain _ | ⟨⟨c, rfl, _⟩, h⟩ := h
  cases h
  obtain ⟨bs, ad, cp, rfl, hin, hl, hbd⟩ := slInG_bytes hG hd rfl rfl (by decide +kernel)
  have h1 : IntKind.i64.min = -9223372036854775808 := rfl
  have h2 : IntKind.i64.max = 9223372036854775807 := rfl
  simp [Lit.wf] at hf hg
  exact ⟨⟨a, b, ad, cp, bs, f, g, c⟩, rfl, ⟨hin, by show f ≤ _; omega, by show g ≤ _; omega⟩, hbd⟩

set_option maxRecDepth 100000 in
theorem liftedCStep (os : Os) (started : os.Started) (H : Type) (enc : TypeId × Value → H) :
    ReturnsInHanded {} Try.checked os 5 .any (Rows.ckptOneStepSpec.pre6 enc Try.prog Try.f5 Rows.ckptOneStepRow.domain false) (Rows.ckptOneStepSpec.post enc Try.prog Try.f5 false true false false) := by
  refine returnsInHanded_of_change_sized (C := Try.checked) ownCStep started (by kernel_rfl) Try.func5
    (ChangeSpec.witness6 (enc := enc) (C := Try.checked) false ⟨#[], #[.int .i64 0, .slice none 0 0, .int .i64 0, .slice none 0 0, .int .i64 0, .int .i64 0], []⟩ 8 (by kernel_rfl) (by kernel_rfl) (by kernel_rfl) (by kernel_rfl)) ?_
  intro W base args ds gs before hval0 hW hcnd hk _
  have hval : ∀ (j : Nat) t v, Try.f5.params[j]? = some t → args[j]? = some v → Value.okWide Try.prog W .any base t v := hval0
  have hW' := hW
  obtain ⟨p, q, hA0, hV, rfl, hfz, hnd⟩ := hW
  have hA : DataW.TrodAll enc Try.prog W 0 (fun _ => true) true Try.f5.params.toList args.toList ds p := hA0
  have hp : Try.f5.params.toList = [3, 41, 2, 22, 3, 3] := rfl
  rw [hp] at hA
  obtain ⟨v0, vs0, d0, ds0, p0, q0, hargs, rfl, rfl, h0, r0⟩ := trodAll_cons hA
  obtain ⟨v1, vs1, d1, ds1, p1, q1, rfl, rfl, rfl, h1, r1⟩ := trodAll_cons r0
  obtain ⟨v2, vs2, d2, ds2, p2, q2, rfl, rfl, rfl, h2, r2⟩ := trodAll_cons r1
  obtain ⟨v3, vs3, d3, ds3, p3, q3, rfl, rfl, rfl, h3, r3⟩ := trodAll_cons r2
  obtain ⟨v4, vs4, d4, ds4, p4, q4, rfl, rfl, rfl, h4, r4⟩ := trodAll_cons r3
  obtain ⟨v5, vs5, d5, ds5, p5, q5, rfl, rfl, rfl, h5, r5⟩ := trodAll_cons r4
  obtain ⟨rfl, rfl, rfl⟩ := trodAll_nil r5
  obtain rfl : args = #[v0, v1, v2, v3, v4, v5] := by cases args; simp_all
  obtain ⟨rfl, rfl⟩ := trodVars_none hV
  have k0 := h0
  have lt0 : ∀ x ∈ p0, x.block < W.heap.size := by obtain ⟨m, hm⟩ := k0; exact DataW.trod_lt m _ _ _ hm
  have k1 := h1
  have lt1 : ∀ x ∈ p1, x.block < W.heap.size := by obtain ⟨m, hm⟩ := k1; exact DataW.trod_lt m _ _ _ hm
  have k2 := h2
  have lt2 : ∀ x ∈ p2, x.block < W.heap.size := by obtain ⟨m, hm⟩ := k2; exact DataW.trod_lt m _ _ _ hm
  have k3 := h3
  have lt3 : ∀ x ∈ p3, x.block < W.heap.size := by obtain ⟨m, hm⟩ := k3; exact DataW.trod_lt m _ _ _ hm
  have k4 := h4
  have lt4 : ∀ x ∈ p4, x.block < W.heap.size := by obtain ⟨m, hm⟩ := k4; exact DataW.trod_lt m _ _ _ hm
  have k5 := h5
  have lt5 : ∀ x ∈ p5, x.block < W.heap.size := by obtain ⟨m, hm⟩ := k5; exact DataW.trod_lt m _ _ _ hm
  have g0 : gR Try.prog 3 d0 := gR_at hk (j := 0) rfl rfl
  have g1 : gR Try.prog 41 d1 := gR_at hk (j := 1) rfl rfl
  have g2 : gR Try.prog 2 d2 := gR_at hk (j := 2) rfl rfl
  have g3 : gR Try.prog 22 d3 := gR_at hk (j := 3) rfl rfl
  have g4 : gR Try.prog 3 d4 := gR_at hk (j := 4) rfl rfl
  have g5 : gR Try.prog 3 d5 := gR_at hk (j := 5) rfl rfl
  obtain ⟨a0, rfl, rfl, rfl, w0⟩ := open_int (k := .i64) rfl (hval 0 3 v0 rfl rfl) h0
  obtain ⟨xs1, hin1, wf1, ln1, bd1⟩ : ∃ xs : List OpK, InSl (all W) 6 (xs.map OpK.cells) v1 ∧ (∀ x ∈ xs, (fun r => OpKW (all W) r ∧ bdR Try.prog 5 r.bs.length) x) ∧ xs.length ≤ maxLen ∧ (bdR Try.prog) _ xs.length := by
    obtain ⟨aa, len, cap, rfl⟩ := okWide_slice rfl (hval 1 41 v1 rfl rfl)
    obtain ⟨fuel, hf⟩ := h1
    cases trodG_kinds (herR Try.prog) 4 41 _ fuel _ _ rfl rfl hf g1 with
    | cons h1 _ => exact slInG_rows (C := OpK.cells) (Wf := (fun r => OpKW (all W) r ∧ bdR Try.prog 5 r.bs.length)) (herR Try.prog) h1 rfl rfl (by decide +kernel) (fun cs hcs => opk_of (herR Try.prog) hcs) (fun _ => rfl)
  obtain ⟨a2, rfl, rfl, rfl, w2⟩ := open_int (k := .i64) rfl (hval 2 2 v2 rfl rfl) h2
  obtain ⟨bs3, ad3, cp3, rfl, hin3, ln3, bd3⟩ : ∃ (bs : List UInt8) (a : Option Addr) (c : Nat), v3 = .slice a bs.length c ∧ InSl (all W) 1 (bs.map byC) v3 ∧ bs.length ≤ maxLen ∧ (bdR Try.prog) 5 bs.length := by
    obtain ⟨aa, len, cap, rfl⟩ := okWide_slice rfl (hval 3 22 v3 rfl rfl)
    obtain ⟨fuel, hf⟩ := h3
    cases trodG_kinds (herR Try.prog) 4 22 _ fuel _ _ rfl rfl hf g3 with
    | cons h1 _ => exact slInG_bytes (herR Try.prog) h1 rfl rfl (by decide +kernel)
  obtain ⟨a4, rfl, rfl, rfl, w4⟩ := open_int (k := .i64) rfl (hval 4 3 v4 rfl rfl) h4
  obtain ⟨a5, rfl, rfl, rfl, w5⟩ := open_int (k := .i64) rfl (hval 5 3 v5 rfl rfl) h5
  clear hA0 hval0
  refine (law_true (onestep_law W (room := a0) (slot := a2) (k := a4) (keep := a5) (i64_of w0).2 (i64_of w4).2 hin1 (fun o h => (wf1 o h).1.ok (by have h9 := (wf1 o h).2; unfold bdR at h9; rw [show Try.prog.bytesOf 5 = 1 from by kernel_rfl, Nat.mul_one] at h9; have : reachBytes = 140737488351232 := rfl; omega)) (Nat.le_trans ln1 (by decide)) hin3 (by have h9 := bd3; unfold bdR at h9; rw [show Try.prog.bytesOf 5 = 1 from by kernel_rfl, Nat.mul_one] at h9; have : reachBytes = 140737488351232 := rfl; omega) ⟨rfl, rfl⟩)).mono fun e W' ⟨he, bel⟩ => ?_
  subst he
  exact ⟨_, rfl, _, _, _, [], _, [], hW', trodAll_mk1 (shut_bool rfl _), (trodAll_cons_mk (Below.trod laidOutCStep (by kernel_rfl) (of_decide_eq_true (by kernel_rfl)) k0 bel lt0) (trodAll_cons_mk (Below.trod laidOutCStep (by kernel_rfl) (of_decide_eq_true (by kernel_rfl)) k1 bel lt1) (trodAll_cons_mk (Below.trod laidOutCStep (by kernel_rfl) (of_decide_eq_true (by kernel_rfl)) k2 bel lt2) (trodAll_cons_mk (Below.trod laidOutCStep (by kernel_rfl) (of_decide_eq_true (by kernel_rfl)) k3 bel lt3) (trodAll_cons_mk (Below.trod laidOutCStep (by kernel_rfl) (of_decide_eq_true (by kernel_rfl)) k4 bel lt4) (trodAll_cons_mk (Below.trod laidOutCStep (by kernel_rfl) (of_decide_eq_true (by kernel_rfl)) k5 bel lt5) trodAll_mk0)))))), rfl, bel.frame _, fun h => by cases h⟩

theorem provedCStep : Rows.CkptOneStepSaid :=
  OpenClaim.holds_of_wide 5 Try.f5 rfl rfl rfl rfl rfl rfl rfl ⟨rfl, rfl, rfl, rfl, rfl⟩ rfl rfl rfl rfl rfl (by kernel_rfl) Try.func5 (by kernel_rfl)
    (of_decide_eq_true (by kernel_rfl)) (by unfold Func.isWrapper; first | (rw [if_pos (by decide +kernel)]; kernel_rfl) | (rw [if_neg (by decide +kernel)]; exact ⟨rfl, rfl⟩))
    (fun os started H enc _ => liftedCStep os started H enc)
#print axioms provedCStep
end Go.Proofs.Ytkamfmdonhaikaa
