/-
  PROVED HERE: 'Rows.CkptLeanSaid': whatever the input, CkptLean returns true and its input reads afterwards as it read before. No condition.
-/
import Derived.Test.YtkamfmdonhaikaaXL
import Derived.Test.YtkamfmdonhaikaaVi
import Derived.Test.YtkamfmdonhaikaaRows
namespace Go.Proofs.Ytkamfmdonhaikaa
open Go.ChangeShapes Go.WideShapes Go.ChangeAt Go.RowKit Go.Vl

theorem ownCLean : ownKnob Try.prog.godebug = none := by kernel_rfl
theorem laidOutCLean : laidOutB Try.prog = true := by kernel_rfl
structure OpKW (I : Hp) (o : OpK) : Prop where
  s : InSl I 1 (o.bs.map byC) o.v
  k : o.k ≤ 9223372036854775807
  kp : o.keep ≤ 9223372036854775807
theorem OpKW.ok {I : Hp} {o : OpK} (h : OpKW I o) (b : o.bs.length ≤ 140737488355000) : OpKOK I o := ⟨h.s, b, h.k⟩
set_option maxRecDepth 100000 in
theorem opk_of {H : Type} {enc : TypeId × Value → H} {W : World} {G : TypeId → DataW H → Prop} {Bd : TypeId → Nat → Prop} (hG : Her Try.prog G Bd) {cs : List Value} (h : All2 (LKg enc Try.prog W G Bd) [.int .i64, .int .i64, .sl 5, .int .i64, .int .i64, .str] cs) : ∃ r : OpK, cs = r.cells ∧ (OpKW (all W) r ∧ Bd 5 r.bs.length) := by
  obtain _ | ⟨⟨a, rfl, _⟩, h⟩ := h
  obtain _ | ⟨⟨b, rfl, _⟩, h⟩ := h
  obtain _ | ⟨hd, h⟩ := h
  obtain _ | ⟨⟨f, rfl, hf⟩, h⟩ := h
  obtain _ | ⟨⟨g, rfl, hg⟩, h⟩ := h
  obtain _ | ⟨⟨c, rfl, _⟩, h⟩ := h
  cases h
  obtain ⟨bs, ad, cp, rfl, hin, hl, hbd⟩ := slInG_bytes hG hd rfl rfl (by decide +kernel)
  have h1 : IntKind.i64.min = -9223372036854775808 := rfl
  have h2 : IntKind.i64.max = 9223372036854775807 := rfl
  simp [Lit.wf] at hf hg
  exact ⟨⟨a, b, ad, cp, bs, f, g, c⟩, rfl, ⟨hin, by show f ≤ _; omega, by show g ≤ _; omega⟩, hbd⟩

set_option maxRecDepth 100000 in
theorem liftedCLean (os : Os) (started : os.Started) (H : Type) (enc : TypeId × Value → H) :
    ReturnsInHanded {} Try.checked os 12 .any (Rows.ckptLeanSpec.pre6 enc Try.prog Try.f12 Rows.ckptLeanRow.domain false) (Rows.ckptLeanSpec.post enc Try.prog Try.f12 false true false false) := by
  refine returnsInHanded_of_change_sized (C := Try.checked) ownCLean started (by kernel_rfl) Try.func12
    (ChangeSpec.witness6 (enc := enc) (C := Try.checked) false ⟨#[], #[.slice none 0 0, .int .i64 0, .slice none 0 0], []⟩ 8 (by kernel_rfl) (by kernel_rfl) (by kernel_rfl) (by kernel_rfl)) ?_
  intro W base args ds gs before hval0 hW hcnd hk _
  have hval : ∀ (j : Nat) t v, Try.f12.params[j]? = some t → args[j]? = some v → Value.okWide Try.prog W .any base t v := hval0
  have hW' := hW
  obtain ⟨p, q, hA0, hV, rfl, hfz, hnd⟩ := hW
  have hA : DataW.TrodAll enc Try.prog W 0 (fun _ => true) true Try.f12.params.toList args.toList ds p := hA0
  have hp : Try.f12.params.toList = [41, 2, 22] := rfl
  rw [hp] at hA
  obtain ⟨v0, vs0, d0, ds0, p0, q0, hargs, rfl, rfl, h0, r0⟩ := trodAll_cons hA
  obtain ⟨v1, vs1, d1, ds1, p1, q1, rfl, rfl, rfl, h1, r1⟩ := trodAll_cons r0
  obtain ⟨v2, vs2, d2, ds2, p2, q2, rfl, rfl, rfl, h2, r2⟩ := trodAll_cons r1
  obtain ⟨rfl, rfl, rfl⟩ := trodAll_nil r2
  obtain rfl : args = #[v0, v1, v2] := by cases args; simp_all
  obtain ⟨rfl, rfl⟩ := trodVars_none hV
  have k0 := h0
  have lt0 : ∀ x ∈ p0, x.block < W.heap.size := by obtain ⟨m, hm⟩ := k0; exact DataW.trod_lt m _ _ _ hm
  have k1 := h1
  have lt1 : ∀ x ∈ p1, x.block < W.heap.size := by obtain ⟨m, hm⟩ := k1; exact DataW.trod_lt m _ _ _ hm
  have k2 := h2
  have lt2 : ∀ x ∈ p2, x.block < W.heap.size := by obtain ⟨m, hm⟩ := k2; exact DataW.trod_lt m _ _ _ hm
  have g0 : gR Try.prog 41 d0 := gR_at hk (j := 0) rfl rfl
  have g1 : gR Try.prog 2 d1 := gR_at hk (j := 1) rfl rfl
  have g2 : gR Try.prog 22 d2 := gR_at hk (j := 2) rfl rfl
  obtain ⟨xs0, hin0, wf0, ln0, bd0⟩ : ∃ xs : List OpK, InSl (all W) 6 (xs.map OpK.cells) v0 ∧ (∀ x ∈ xs, (fun r => OpKW (all W) r ∧ bdR Try.prog 5 r.bs.length) x) ∧ xs.length ≤ maxLen ∧ (bdR Try.prog) _ xs.length := by
    obtain ⟨aa, len, cap, rfl⟩ := okWide_slice rfl (hval 0 41 v0 rfl rfl)
    obtain ⟨fuel, hf⟩ := h0
    cases trodG_kinds (herR Try.prog) 4 41 _ fuel _ _ rfl rfl hf g0 with
    | cons h1 _ => exact slInG_rows (C := OpK.cells) (Wf := (fun r => OpKW (all W) r ∧ bdR Try.prog 5 r.bs.length)) (herR Try.prog) h1 rfl rfl (by decide +kernel) (fun cs hcs => opk_of (herR Try.prog) hcs) (fun _ => rfl)
  obtain ⟨a1, rfl, rfl, rfl, w1⟩ := open_int (k := .i64) rfl (hval 1 2 v1 rfl rfl) h1
  obtain ⟨bs2, ad2, cp2, rfl, hin2, ln2, bd2⟩ : ∃ (bs : List UInt8) (a : Option Addr) (c : Nat), v2 = .slice a bs.length c ∧ InSl (all W) 1 (bs.map byC) v2 ∧ bs.length ≤ maxLen ∧ (bdR Try.prog) 5 bs.length := by
    obtain ⟨aa, len, cap, rfl⟩ := okWide_slice rfl (hval 2 22 v2 rfl rfl)
    obtain ⟨fuel, hf⟩ := h2
    cases trodG_kinds (herR Try.prog) 4 22 _ fuel _ _ rfl rfl hf g2 with
    | cons h1 _ => exact slInG_bytes (herR Try.prog) h1 rfl rfl (by decide +kernel)
  clear hA0 hval0
  refine (law_true (lean_law W (slot := a1) hin0 (fun o h => (wf0 o h).1.ok (by have h9 := (wf0 o h).2; unfold bdR at h9; rw [show Try.prog.bytesOf 5 = 1 from by kernel_rfl, Nat.mul_one] at h9; have : reachBytes = 140737488351232 := rfl; omega)) (Nat.le_trans ln0 (by decide)) hin2 (by have h9 := bd2; unfold bdR at h9; rw [show Try.prog.bytesOf 5 = 1 from by kernel_rfl, Nat.mul_one] at h9; have : reachBytes = 140737488351232 := rfl; omega) ⟨rfl, rfl⟩)).mono fun e W' ⟨he, bel⟩ => ?_
  subst he
  exact ⟨_, rfl, _, _, _, [], _, [], hW', trodAll_mk1 (shut_bool rfl _), (trodAll_cons_mk (Below.trod laidOutCLean (by kernel_rfl) (of_decide_eq_true (by kernel_rfl)) k0 bel lt0) (trodAll_cons_mk (Below.trod laidOutCLean (by kernel_rfl) (of_decide_eq_true (by kernel_rfl)) k1 bel lt1) (trodAll_cons_mk (Below.trod laidOutCLean (by kernel_rfl) (of_decide_eq_true (by kernel_rfl)) k2 bel lt2) trodAll_mk0))), rfl, bel.frame _, fun h => by cases h⟩

theorem provedCLean : Rows.CkptLeanSaid :=
  OpenClaim.holds_of_wide 12 Try.f12 rfl rfl rfl rfl rfl rfl rfl ⟨rfl, rfl, rfl, rfl, rfl⟩ rfl rfl rfl rfl rfl (by kernel_rfl) Try.func12 (by kernel_rfl)
    (of_decide_eq_true (by kernel_rfl)) (by unfold Func.isWrapper; first | (rw [if_pos (by decide +kernel)]; kernel_rfl) | (rw [if_neg (by decide +kernel)]; exact ⟨rfl, rfl⟩))
    (fun os started H enc _ => liftedCLean os started H enc)
#print axioms provedCLean
end Go.Proofs.Ytkamfmdonhaikaa
