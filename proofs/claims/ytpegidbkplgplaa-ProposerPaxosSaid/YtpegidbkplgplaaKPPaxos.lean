/-
  PROVED HERE: 'Rows.ProposerPaxosSaid': whatever the input, ProposerPaxos returns true and its input reads afterwards as it read before. No condition.
-/
import Derived.Test.YtpegidbkplgplaaK27
import Derived.Test.YtpegidbkplgplaaK28
import Derived.Test.YtpegidbkplgplaaRows
namespace Go.Proofs.Ytpegidbkplgplaa
open Go.ChangeShapes Go.WideShapes Go.ChangeAt Go.RowKit Go.Vl

theorem ownPPaxos : ownKnob Try.prog.godebug = none := by kernel_rfl
theorem laidOutPPaxos : laidOutB Try.prog = true := by kernel_rfl
set_option maxRecDepth 100000 in
theorem opc_of {H : Type} {enc : TypeId × Value → H} {W : World} {G : TypeId → DataW H → Prop} {Bd : TypeId → Nat → Prop} {cs : List Value} (h : All2 (LKg enc Try.prog W G Bd) [.int .i64, .int .i64, .int .i64, .int .i64, .int .i64, .str, .str, .str] cs) : ∃ r : OpC, cs = r.cells ∧ True := by
  obtain _ | ⟨⟨a, rfl, _⟩, h⟩ := h
  obtain _ | ⟨⟨b, rfl, _⟩, h⟩ := h
  obtain _ | ⟨⟨c, rfl, _⟩, h⟩ := h
  obtain _ | ⟨⟨d, rfl, _⟩, h⟩ := h
  obtain _ | ⟨⟨e, rfl, _⟩, h⟩ := h
  obtain _ | ⟨⟨f, rfl, _⟩, h⟩ := h
  obtain _ | ⟨⟨g, rfl, _⟩, h⟩ := h
  obtain _ | ⟨⟨k, rfl, _⟩, h⟩ := h
  cases h
  exact ⟨⟨a, b, c, d, e, f, g, k⟩, rfl, trivial⟩
set_option maxRecDepth 100000 in
theorem mor_of {H : Type} {enc : TypeId × Value → H} {W : World} {cs : List Value} (h : All2 (LKg enc Try.prog W (gR Try.prog) (bdR Try.prog)) [.int .i64, .int .i64, .int .i64, .int .i64, .int .i64, .int .i64, .int .i64, .int .i64, .int .i64, .int .i64, .int .i64, .int .i64, .str, .str, .str, .int .i64, .int .i64, .sl 30, .int .i64, .int .i64, .int .i64, .int .i64, .int .i64, .int .i64, .int .i64, .int .i64, .int .i64, .int .i64, .int .i64, .int .i64, .int .i64, .int .i64, .int .i64, .int .i64, .int .i64, .int .i64, .int .i64, .int .i64, .int .i64, .int .i64, .int .i64, .int .i64, .int .i64, .int .i64, .int .i64, .int .i64, .int .i64, .int .i64, .int .i64, .int .i64, .int .i64, .int .i64, .int .i64, .int .i64, .int .i64, .int .i64, .sl 5, .int .i64, .int .i64, .int .i64, .bool] cs) : ∃ r : MoR, cs = r.cells ∧ (EnIn (all W) r.en ∧ EnSz r.en.c) := by
  obtain _ | ⟨⟨x0, rfl, _⟩, h⟩ := h
  obtain _ | ⟨⟨x1, rfl, _⟩, h⟩ := h
  obtain _ | ⟨⟨x2, rfl, _⟩, h⟩ := h
  obtain _ | ⟨⟨x3, rfl, _⟩, h⟩ := h
  obtain _ | ⟨⟨x4, rfl, _⟩, h⟩ := h
  obtain _ | ⟨⟨x5, rfl, _⟩, h⟩ := h
  obtain _ | ⟨⟨x6, rfl, _⟩, h⟩ := h
  obtain _ | ⟨⟨x7, rfl, _⟩, h⟩ := h
  obtain _ | ⟨⟨x8, rfl, _⟩, h⟩ := h
  obtain _ | ⟨⟨x9, rfl, _⟩, h⟩ := h
  obtain _ | ⟨⟨x10, rfl, _⟩, h⟩ := h
  obtain _ | ⟨⟨x11, rfl, _⟩, h⟩ := h
  obtain _ | ⟨⟨x12, rfl, _⟩, h⟩ := h
  obtain _ | ⟨⟨x13, rfl, _⟩, h⟩ := h
  obtain _ | ⟨⟨x14, rfl, _⟩, h⟩ := h
  obtain _ | ⟨⟨x15, rfl, _⟩, h⟩ := h
  obtain _ | ⟨⟨x16, rfl, _⟩, h⟩ := h
  obtain _ | ⟨ho, h⟩ := h
  obtain ⟨os, hio, _, _, hbo⟩ := slInG_rows (C := OpC.cells) (Wf := fun _ => True) (herR Try.prog) ho rfl rfl (by decide +kernel) (fun cs hcs => opc_of hcs) (fun _ => rfl)
  obtain ⟨ao, co, rfl, _⟩ := id hio
  obtain _ | ⟨⟨x18, rfl, _⟩, h⟩ := h
  obtain _ | ⟨⟨x19, rfl, _⟩, h⟩ := h
  obtain _ | ⟨⟨x20, rfl, _⟩, h⟩ := h
  obtain _ | ⟨⟨x21, rfl, _⟩, h⟩ := h
  obtain _ | ⟨⟨x22, rfl, _⟩, h⟩ := h
  obtain _ | ⟨⟨x23, rfl, _⟩, h⟩ := h
  obtain _ | ⟨⟨x24, rfl, _⟩, h⟩ := h
  obtain _ | ⟨⟨x25, rfl, _⟩, h⟩ := h
  obtain _ | ⟨⟨x26, rfl, _⟩, h⟩ := h
  obtain _ | ⟨⟨x27, rfl, _⟩, h⟩ := h
  obtain _ | ⟨⟨x28, rfl, _⟩, h⟩ := h
  obtain _ | ⟨⟨x29, rfl, _⟩, h⟩ := h
  obtain _ | ⟨⟨x30, rfl, _⟩, h⟩ := h
  obtain _ | ⟨⟨x31, rfl, _⟩, h⟩ := h
  obtain _ | ⟨⟨x32, rfl, _⟩, h⟩ := h
  obtain _ | ⟨⟨x33, rfl, _⟩, h⟩ := h
  obtain _ | ⟨⟨x34, rfl, _⟩, h⟩ := h
  obtain _ | ⟨⟨x35, rfl, _⟩, h⟩ := h
  obtain _ | ⟨⟨x36, rfl, _⟩, h⟩ := h
  obtain _ | ⟨⟨x37, rfl, _⟩, h⟩ := h
  obtain _ | ⟨⟨x38, rfl, _⟩, h⟩ := h
  obtain _ | ⟨⟨x39, rfl, _⟩, h⟩ := h
  obtain _ | ⟨⟨x40, rfl, _⟩, h⟩ := h
  obtain _ | ⟨⟨x41, rfl, _⟩, h⟩ := h
  obtain _ | ⟨⟨x42, rfl, _⟩, h⟩ := h
  obtain _ | ⟨⟨x43, rfl, _⟩, h⟩ := h
  obtain _ | ⟨⟨x44, rfl, _⟩, h⟩ := h
  obtain _ | ⟨⟨x45, rfl, _⟩, h⟩ := h
  obtain _ | ⟨⟨x46, rfl, _⟩, h⟩ := h
  obtain _ | ⟨⟨x47, rfl, _⟩, h⟩ := h
  obtain _ | ⟨⟨x48, rfl, _⟩, h⟩ := h
  obtain _ | ⟨⟨x49, rfl, _⟩, h⟩ := h
  obtain _ | ⟨⟨x50, rfl, _⟩, h⟩ := h
  obtain _ | ⟨⟨x51, rfl, _⟩, h⟩ := h
  obtain _ | ⟨⟨x52, rfl, _⟩, h⟩ := h
  obtain _ | ⟨⟨x53, rfl, _⟩, h⟩ := h
  obtain _ | ⟨⟨x54, rfl, _⟩, h⟩ := h
  obtain _ | ⟨⟨x55, rfl, _⟩, h⟩ := h
  obtain _ | ⟨hd, h⟩ := h
  obtain ⟨bs, ad, cd, rfl, hid, _, hbd⟩ := slInG_bytes (herR Try.prog) hd rfl rfl (by decide +kernel)
  obtain _ | ⟨⟨x57, rfl, _⟩, h⟩ := h
  obtain _ | ⟨⟨x58, rfl, _⟩, h⟩ := h
  obtain _ | ⟨⟨x59, rfl, _⟩, h⟩ := h
  obtain _ | ⟨⟨x60, rfl⟩, h⟩ := h
  cases h
  have hlo : (os.map OpC.cells).length = os.length := List.length_map _
  have hE : EnIn (all W) (EnR.mk ⟨x4, x5, x6, ⟨x7, x8, x9, x10, x11, x12, x13, x14⟩, x15, x16, os, x18, (fun i => match i with | 0 => x19 | 1 => x20 | 2 => x21 | 3 => x22 | 4 => x23 | 5 => x24 | 6 => x25 | _ => x26), (fun i => match i with | 0 => x27 | 1 => x28 | 2 => x29 | 3 => x30 | 4 => x31 | 5 => x32 | 6 => x33 | _ => x34), (fun i => match i with | 0 => x35 | 1 => x36 | 2 => x37 | 3 => x38 | 4 => x39 | 5 => x40 | 6 => x41 | _ => x42), x43, (fun i => match i with | 0 => x44 | 1 => x45 | 2 => x46 | 3 => x47 | 4 => x48 | 5 => x49 | 6 => x50 | _ => x51), x52, x53, x54, x55, bs, x57, x58, x59⟩ ao co ad cd) := ⟨by show InSl _ 8 _ (.slice ao os.length co); rw [← hlo]; exact hio, hid⟩
  have hZ : EnSz ((EnR.mk ⟨x4, x5, x6, ⟨x7, x8, x9, x10, x11, x12, x13, x14⟩, x15, x16, os, x18, (fun i => match i with | 0 => x19 | 1 => x20 | 2 => x21 | 3 => x22 | 4 => x23 | 5 => x24 | 6 => x25 | _ => x26), (fun i => match i with | 0 => x27 | 1 => x28 | 2 => x29 | 3 => x30 | 4 => x31 | 5 => x32 | 6 => x33 | _ => x34), (fun i => match i with | 0 => x35 | 1 => x36 | 2 => x37 | 3 => x38 | 4 => x39 | 5 => x40 | 6 => x41 | _ => x42), x43, (fun i => match i with | 0 => x44 | 1 => x45 | 2 => x46 | 3 => x47 | 4 => x48 | 5 => x49 | 6 => x50 | _ => x51), x52, x53, x54, x55, bs, x57, x58, x59⟩ ao co ad cd)).c := by
    refine ⟨?_, ?_⟩
    · unfold bdR at hbo
      rw [by39] at hbo
      have := reachBytes_lt
      show os.length * 88 ≤ _
      omega
    · unfold bdR at hbd
      rw [show Try.prog.bytesOf 5 = 1 from by kernel_rfl, Nat.mul_one] at hbd
      have := reachBytes_lt
      show bs.length ≤ _
      omega
  exact ⟨⟨x0, x1, x2, x3, (EnR.mk ⟨x4, x5, x6, ⟨x7, x8, x9, x10, x11, x12, x13, x14⟩, x15, x16, os, x18, (fun i => match i with | 0 => x19 | 1 => x20 | 2 => x21 | 3 => x22 | 4 => x23 | 5 => x24 | 6 => x25 | _ => x26), (fun i => match i with | 0 => x27 | 1 => x28 | 2 => x29 | 3 => x30 | 4 => x31 | 5 => x32 | 6 => x33 | _ => x34), (fun i => match i with | 0 => x35 | 1 => x36 | 2 => x37 | 3 => x38 | 4 => x39 | 5 => x40 | 6 => x41 | _ => x42), x43, (fun i => match i with | 0 => x44 | 1 => x45 | 2 => x46 | 3 => x47 | 4 => x48 | 5 => x49 | 6 => x50 | _ => x51), x52, x53, x54, x55, bs, x57, x58, x59⟩ ao co ad cd), x60⟩, by rw [hlo]; rfl, hE, hZ⟩

set_option maxRecDepth 100000 in
theorem liftedPPaxos (os : Os) (started : os.Started) (H : Type) (enc : TypeId × Value → H) :
    ReturnsInHanded {} Try.checked os 5 .any (Rows.proposerPaxosSpec.pre6 enc Try.prog Try.f5 Rows.proposerPaxosRow.domain false) (Rows.proposerPaxosSpec.post enc Try.prog Try.f5 false true false false) := by
  refine returnsInHanded_of_change_sized (C := Try.checked) ownPPaxos started (by kernel_rfl) Try.func5
    (ChangeSpec.witness6 (enc := enc) (C := Try.checked) false ⟨#[], #[.int .u8 0, .int .u8 0, .slice none 0 0], []⟩ 8 (by kernel_rfl) (by kernel_rfl) (by kernel_rfl) (by kernel_rfl)) ?_
  intro W base args ds gs before hval0 hW hcnd hk _
  have hval : ∀ (j : Nat) t v, Try.f5.params[j]? = some t → args[j]? = some v → Value.okWide Try.prog W .any base t v := hval0
  have hW' := hW
  obtain ⟨p, q, hA0, hV, rfl, hfz, hnd⟩ := hW
  have hA : DataW.TrodAll enc Try.prog W 0 (fun _ => true) true Try.f5.params.toList args.toList ds p := hA0
  have hp : Try.f5.params.toList = [5, 5, 77] := rfl
  rw [hp] at hA
  obtain ⟨v0, vs0, d0, ds0, p0, q0, hargs, rfl, rfl, h0, r0⟩ := trodAll_cons hA
  obtain ⟨v1, vs1, d1, ds1, p1, q1, rfl, rfl, rfl, h1, r1⟩ := trodAll_cons r0
  obtain ⟨v2, vs2, d2, ds2, p2, q2, rfl, rfl, rfl, h2, r2⟩ := trodAll_cons r1
  obtain ⟨rfl, rfl, rfl⟩ := trodAll_nil r2
  obtain rfl : args = #[v0, v1, v2] := by cases args; simp_all
  obtain ⟨rfl, rfl⟩ := trodVars_none hV
  have k0 := h0
  have lt0 : ∀ x ∈ p0, x.block < W.heap.size := by obtain ⟨m, hm⟩ := k0; exact DataW.trod_lt m _ _ _ hm
  have k1 := h1
  have lt1 : ∀ x ∈ p1, x.block < W.heap.size := by obtain ⟨m, hm⟩ := k1; exact DataW.trod_lt m _ _ _ hm
  have k2 := h2
  have lt2 : ∀ x ∈ p2, x.block < W.heap.size := by obtain ⟨m, hm⟩ := k2; exact DataW.trod_lt m _ _ _ hm
  have g0 : gR Try.prog 5 d0 := gR_at hk (j := 0) rfl rfl
  have g1 : gR Try.prog 5 d1 := gR_at hk (j := 1) rfl rfl
  have g2 : gR Try.prog 77 d2 := gR_at hk (j := 2) rfl rfl
  obtain ⟨z0, rfl, rfl, rfl, w0⟩ := open_int (k := .u8) rfl (hval 0 5 v0 rfl rfl) h0
  obtain ⟨a0, rfl, lt80⟩ : ∃ a : Nat, z0 = (a : Int) ∧ a < 256 := by
    have h1 : IntKind.u8.min = 0 := rfl
    have h2 : IntKind.u8.max = 255 := rfl
    simp [Lit.wf] at w0
    exact ⟨z0.toNat, by omega, by omega⟩
  obtain ⟨z1, rfl, rfl, rfl, w1⟩ := open_int (k := .u8) rfl (hval 1 5 v1 rfl rfl) h1
  obtain ⟨a1, rfl, lt81⟩ : ∃ a : Nat, z1 = (a : Int) ∧ a < 256 := by
    have h1 : IntKind.u8.min = 0 := rfl
    have h2 : IntKind.u8.max = 255 := rfl
    simp [Lit.wf] at w1
    exact ⟨z1.toNat, by omega, by omega⟩
  obtain ⟨xs2, hin2, wf2, ln2, bd2⟩ : ∃ xs : List MoR, InSl (all W) 61 (xs.map MoR.cells) v2 ∧ (∀ x ∈ xs, (fun x => EnIn (all W) x.en ∧ EnSz x.en.c) x) ∧ xs.length ≤ maxLen ∧ (bdR Try.prog) _ xs.length := by
    obtain ⟨aa, len, cap, rfl⟩ := okWide_slice rfl (hval 2 77 v2 rfl rfl)
    obtain ⟨fuel, hf⟩ := h2
    cases trodG_kinds (herR Try.prog) 4 77 _ fuel _ _ rfl rfl hf g2 with
    | cons h1 _ => exact slInG_rows (C := MoR.cells) (Wf := (fun x => EnIn (all W) x.en ∧ EnSz x.en.c)) (herR Try.prog) h1 rfl rfl (by decide +kernel) (fun cs hcs => mor_of hcs) (fun _ => rfl)
  clear hA0 hval0
  refine (law_true (paxos_law W (nn := a0) (ll := a1) hin2 wf2 (by have h9 := bd2; unfold bdR at h9; rw [show Try.prog.bytesOf 79 = 544 from by kernel_rfl] at h9; have := reachBytes_lt; omega) ⟨rfl, rfl⟩)).mono fun e W' ⟨he, bel⟩ => ?_
  subst he
  exact ⟨_, rfl, _, _, _, [], _, [], hW', trodAll_mk1 (shut_bool rfl _), (trodAll_cons_mk (Below.trod laidOutPPaxos (by kernel_rfl) (of_decide_eq_true (by kernel_rfl)) k0 bel lt0) (trodAll_cons_mk (Below.trod laidOutPPaxos (by kernel_rfl) (of_decide_eq_true (by kernel_rfl)) k1 bel lt1) (trodAll_cons_mk (Below.trod laidOutPPaxos (by kernel_rfl) (of_decide_eq_true (by kernel_rfl)) k2 bel lt2) trodAll_mk0))), rfl, bel.frame _, fun h => by cases h⟩

theorem provedPPaxos : Rows.ProposerPaxosSaid :=
  OpenClaim.holds_of_wide 5 Try.f5 rfl rfl rfl rfl rfl rfl rfl ⟨rfl, rfl, rfl, rfl, rfl⟩ rfl rfl rfl rfl rfl (by kernel_rfl) Try.func5 (by kernel_rfl)
    (of_decide_eq_true (by kernel_rfl)) (by unfold Func.isWrapper; first | (rw [if_pos (by decide +kernel)]; kernel_rfl) | (rw [if_neg (by decide +kernel)]; exact ⟨rfl, rfl⟩))
    (fun os started H enc _ => liftedPPaxos os started H enc)
#print axioms provedPPaxos
end Go.Proofs.Ytpegidbkplgplaa
