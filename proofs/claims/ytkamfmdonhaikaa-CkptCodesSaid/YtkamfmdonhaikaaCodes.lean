/-
  PROVED HERE: 'Rows.CkptCodesSaid': whatever the input, CkptCodes returns true and its input reads afterwards as it read before. No condition.
-/
import Derived.Test.YtkamfmdonhaikaaX8
import Derived.Test.YtkamfmdonhaikaaVi
import Derived.Test.YtkamfmdonhaikaaRows
namespace Go.Proofs.Ytkamfmdonhaikaa
open Go.ChangeShapes Go.WideShapes Go.ChangeAt Go.RowKit Go.Vl

theorem ownCodes : ownKnob Try.prog.godebug = none := by kernel_rfl
theorem laidOutCodes : laidOutB Try.prog = true := by kernel_rfl

set_option maxRecDepth 100000 in
theorem liftedCodes (os : Os) (started : os.Started) (H : Type) (enc : TypeId × Value → H) :
    ReturnsInHanded {} Try.checked os 10 .any (Rows.ckptCodesSpec.pre6 enc Try.prog Try.f10 Rows.ckptCodesRow.domain false) (Rows.ckptCodesSpec.post enc Try.prog Try.f10 false true false false) := by
  refine returnsInHanded_of_change_sized (C := Try.checked) ownCodes started (by kernel_rfl) Try.func10
    (ChangeSpec.witness6 (enc := enc) (C := Try.checked) false ⟨#[], #[.int .i64 0, .slice none 0 0, .slice none 0 0], []⟩ 8 (by kernel_rfl) (by kernel_rfl) (by kernel_rfl) (by kernel_rfl)) ?_
  intro W base args ds gs before hval0 hW hcnd hk _
  have hval : ∀ (j : Nat) t v, Try.f10.params[j]? = some t → args[j]? = some v → Value.okWide Try.prog W .any base t v := hval0
  have hW' := hW
  obtain ⟨p, q, hA0, hV, rfl, hfz, hnd⟩ := hW
  have hA : DataW.TrodAll enc Try.prog W 0 (fun _ => true) true Try.f10.params.toList args.toList ds p := hA0
  have hp : Try.f10.params.toList = [2, 22, 22] := rfl
  rw [hp] at hA
  obtain ⟨v0, vs0, d0, ds0, p0, q0, hargs, rfl, rfl, h0, r0⟩ := trodAll_cons hA
  obtain ⟨v1, vs1, d1, ds1, p1, q1, rfl, rfl, rfl, h1, r1⟩ := trodAll_cons r0
  obtain ⟨v2, vs2, d2, ds2, p2, q2, rfl, rfl, rfl, h2, r2⟩ := trodAll_cons r1
  obtain ⟨rfl, rfl, rfl⟩ := trodAll_nil r2
  obtain rfl : args = #[v0, v1, v2] := by cases args; simp_all
  obtain ⟨rfl, rfl⟩ := trodVars_none hV
  have k0 := h0
  have lt0 : ∀ x ∈ p0, x.block < W.heap.size := by obtain ⟨m, hm⟩ := k0; exact DataW.trod_lt m _ _ _ hm
  have k1 := h1
  have lt1 : ∀ x ∈ p1, x.block < W.heap.size := by obtain ⟨m, hm⟩ := k1; exact DataW.trod_lt m _ _ _ hm
  have k2 := h2
  have lt2 : ∀ x ∈ p2, x.block < W.heap.size := by obtain ⟨m, hm⟩ := k2; exact DataW.trod_lt m _ _ _ hm
  have g0 : gR Try.prog 2 d0 := gR_at hk (j := 0) rfl rfl
  have g1 : gR Try.prog 22 d1 := gR_at hk (j := 1) rfl rfl
  have g2 : gR Try.prog 22 d2 := gR_at hk (j := 2) rfl rfl
  obtain ⟨a0, rfl, rfl, rfl, w0⟩ := open_int (k := .i64) rfl (hval 0 2 v0 rfl rfl) h0
  obtain ⟨bs1, ad1, cp1, rfl, hin1, ln1, bd1⟩ : ∃ (bs : List UInt8) (a : Option Addr) (c : Nat), v1 = .slice a bs.length c ∧ InSl (all W) 1 (bs.map byC) v1 ∧ bs.length ≤ maxLen ∧ (bdR Try.prog) 5 bs.length := by
    obtain ⟨aa, len, cap, rfl⟩ := okWide_slice rfl (hval 1 22 v1 rfl rfl)
    obtain ⟨fuel, hf⟩ := h1
    cases trodG_kinds (herR Try.prog) 4 22 _ fuel _ _ rfl rfl hf g1 with
    | cons h1 _ => exact slInG_bytes (herR Try.prog) h1 rfl rfl (by decide +kernel)
  obtain ⟨bs2, ad2, cp2, rfl, hin2, ln2, bd2⟩ : ∃ (bs : List UInt8) (a : Option Addr) (c : Nat), v2 = .slice a bs.length c ∧ InSl (all W) 1 (bs.map byC) v2 ∧ bs.length ≤ maxLen ∧ (bdR Try.prog) 5 bs.length := by
    obtain ⟨aa, len, cap, rfl⟩ := okWide_slice rfl (hval 2 22 v2 rfl rfl)
    obtain ⟨fuel, hf⟩ := h2
    cases trodG_kinds (herR Try.prog) 4 22 _ fuel _ _ rfl rfl hf g2 with
    | cons h1 _ => exact slInG_bytes (herR Try.prog) h1 rfl rfl (by decide +kernel)
  clear hA0 hval0
  refine (law_true (codes_law W (slot := a0) hin1 hin2 (by have h9 := bd1; unfold bdR at h9; rw [show Try.prog.bytesOf 5 = 1 from by kernel_rfl, Nat.mul_one] at h9; have : reachBytes = 140737488351232 := rfl; omega) (by have h9 := bd2; unfold bdR at h9; rw [show Try.prog.bytesOf 5 = 1 from by kernel_rfl, Nat.mul_one] at h9; have : reachBytes = 140737488351232 := rfl; omega) ⟨rfl, rfl⟩)).mono fun e W' ⟨he, bel⟩ => ?_
  subst he
  exact ⟨_, rfl, _, _, _, [], _, [], hW', trodAll_mk1 (shut_bool rfl _), (trodAll_cons_mk (Below.trod laidOutCodes (by kernel_rfl) (of_decide_eq_true (by kernel_rfl)) k0 bel lt0) (trodAll_cons_mk (Below.trod laidOutCodes (by kernel_rfl) (of_decide_eq_true (by kernel_rfl)) k1 bel lt1) (trodAll_cons_mk (Below.trod laidOutCodes (by kernel_rfl) (of_decide_eq_true (by kernel_rfl)) k2 bel lt2) trodAll_mk0))), rfl, bel.frame _, fun h => by cases h⟩

theorem provedCodes : Rows.CkptCodesSaid :=
  OpenClaim.holds_of_wide 10 Try.f10 rfl rfl rfl rfl rfl rfl rfl ⟨rfl, rfl, rfl, rfl, rfl⟩ rfl rfl rfl rfl rfl (by kernel_rfl) Try.func10 (by kernel_rfl)
    (of_decide_eq_true (by kernel_rfl)) (by unfold Func.isWrapper; first | (rw [if_pos (by decide +kernel)]; kernel_rfl) | (rw [if_neg (by decide +kernel)]; exact ⟨rfl, rfl⟩))
    (fun os started H enc _ => liftedCodes os started H enc)
#print axioms provedCodes
end Go.Proofs.Ytkamfmdonhaikaa
