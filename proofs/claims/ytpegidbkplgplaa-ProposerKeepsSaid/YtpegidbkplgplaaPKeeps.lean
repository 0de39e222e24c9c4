/-
  PROVED HERE: 'Rows.ProposerKeepsSaid': whatever the input, ProposerKeeps returns true and its input reads afterwards as it read before. No condition.
-/
import Derived.Test.YtpegidbkplgplaaHF
import Derived.Test.YtpegidbkplgplaaVi
import Derived.Test.YtpegidbkplgplaaRows
namespace Go.Proofs.Ytpegidbkplgplaa
open Go.ChangeShapes Go.WideShapes Go.ChangeAt Go.RowKit Go.Vl

theorem ownPKeeps : ownKnob Try.prog.godebug = none := by kernel_rfl
theorem laidOutPKeeps : laidOutB Try.prog = true := by kernel_rfl
theorem bal_of {H : Type} {enc : TypeId × Value → H} {W : World} {G : TypeId → DataW H → Prop} {Bd : TypeId → Nat → Prop} {cs : List Value} (h : All2 (LKg enc Try.prog W G Bd) [.int .i64, .int .i64] cs) : ∃ r : Bal, cs = r.cells ∧ True := by
  obtain _ | ⟨⟨a, rfl, _⟩, h⟩ := h
  obtain _ | ⟨⟨b, rfl, _⟩, h⟩ := h
  cases h
  exact ⟨⟨a, b⟩, rfl, trivial⟩
set_option maxRecDepth 100000 in
theorem opc_of {H : Type} {enc : TypeId × Value → H} {W : World} {G : TypeId → DataW H → Prop} {Bd : TypeId → Nat → Prop} {cs : List Value} (h : All2 (LKg enc Try.prog W G Bd) [.int .i64, .int .i64, .int .i64, .int .i64, .int .i64, .str, .str, .str] cs) : ∃ r : OpC, cs = r.cells ∧ True := by
  obtain _ | ⟨⟨a, rfl, _⟩, h⟩ := h
  obtain _ | ⟨⟨b, rfl, _⟩, h⟩ := h
  obtain _ | ⟨⟨c, rfl, _⟩, h⟩ := h
  obtain _ | ⟨⟨d, rfl, _⟩, h⟩ := h
  obtain _ | ⟨⟨e, rfl, _⟩, h⟩ := h
  obtain _ | ⟨⟨f, rfl, _⟩, h⟩ := h
  obtain _ | ⟨⟨g, rfl, _⟩, h⟩ := h
  obtain _ | ⟨⟨k, rfl, _⟩, h⟩ := h
  cases h
  exact ⟨⟨a, b, c, d, e, f, g, k⟩, rfl, trivial⟩
set_option maxRecDepth 100000 in
theorem enr_of {H : Type} {enc : TypeId × Value → H} {W : World} {cs : List Value} (h : All2 (LKg enc Try.prog W (gR Try.prog) (bdR Try.prog)) [.int .i64, .int .i64, .int .i64, .int .i64, .int .i64, .int .i64, .int .i64, .int .i64, .str, .str, .str, .int .i64, .int .i64, .sl 30, .int .i64, .int .i64, .int .i64, .int .i64, .int .i64, .int .i64, .int .i64, .int .i64, .int .i64, .int .i64, .int .i64, .int .i64, .int .i64, .int .i64, .int .i64, .int .i64, .int .i64, .int .i64, .int .i64, .int .i64, .int .i64, .int .i64, .int .i64, .int .i64, .int .i64, .int .i64, .int .i64, .int .i64, .int .i64, .int .i64, .int .i64, .int .i64, .int .i64, .int .i64, .int .i64, .int .i64, .int .i64, .int .i64, .sl 5, .int .i64, .int .i64, .int .i64] cs) : ∃ r : EnR, cs = r.cells ∧ (EnIn (all W) r ∧ EnSz r.c) := by
  obtain _ | ⟨⟨x0, rfl, _⟩, h⟩ := h
  obtain _ | ⟨⟨x1, rfl, _⟩, h⟩ := h
  obtain _ | ⟨⟨x2, rfl, _⟩, h⟩ := h
  obtain _ | ⟨⟨x3, rfl, _⟩, h⟩ := h
  obtain _ | ⟨⟨x4, rfl, _⟩, h⟩ := h
  obtain _ | ⟨⟨x5, rfl, _⟩, h⟩ := h
  obtain _ | ⟨⟨x6, rfl, _⟩, h⟩ := h
  obtain _ | ⟨⟨x7, rfl, _⟩, h⟩ := h
  obtain _ | ⟨⟨x8, rfl, _⟩, h⟩ := h
  obtain _ | ⟨⟨x9, rfl, _⟩, h⟩ := h
  obtain _ | ⟨⟨x10, rfl, _⟩, h⟩ := h
  obtain _ | ⟨⟨x11, rfl, _⟩, h⟩ := h
  obtain _ | ⟨⟨x12, rfl, _⟩, h⟩ := h
  obtain _ | ⟨ho, h⟩ := h
  obtain ⟨os, hio, _, _, hbo⟩ := slInG_rows (C := OpC.cells) (Wf := fun _ => True) (herR Try.prog) ho rfl rfl (by decide +kernel) (fun cs hcs => opc_of hcs) (fun _ => rfl)
  obtain ⟨ao, co, rfl, _⟩ := id hio
  obtain _ | ⟨⟨x14, rfl, _⟩, h⟩ := h
  obtain _ | ⟨⟨x15, rfl, _⟩, h⟩ := h
  obtain _ | ⟨⟨x16, rfl, _⟩, h⟩ := h
  obtain _ | ⟨⟨x17, rfl, _⟩, h⟩ := h
  obtain _ | ⟨⟨x18, rfl, _⟩, h⟩ := h
  obtain _ | ⟨⟨x19, rfl, _⟩, h⟩ := h
  obtain _ | ⟨⟨x20, rfl, _⟩, h⟩ := h
  obtain _ | ⟨⟨x21, rfl, _⟩, h⟩ := h
  obtain _ | ⟨⟨x22, rfl, _⟩, h⟩ := h
  obtain _ | ⟨⟨x23, rfl, _⟩, h⟩ := h
  obtain _ | ⟨⟨x24, rfl, _⟩, h⟩ := h
  obtain _ | ⟨⟨x25, rfl, _⟩, h⟩ := h
  obtain _ | ⟨⟨x26, rfl, _⟩, h⟩ := h
  obtain _ | ⟨⟨x27, rfl, _⟩, h⟩ := h
  obtain _ | ⟨⟨x28, rfl, _⟩, h⟩ := h
  obtain _ | ⟨⟨x29, rfl, _⟩, h⟩ := h
  obtain _ | ⟨⟨x30, rfl, _⟩, h⟩ := h
  obtain _ | ⟨⟨x31, rfl, _⟩, h⟩ := h
  obtain _ | ⟨⟨x32, rfl, _⟩, h⟩ := h
  obtain _ | ⟨⟨x33, rfl, _⟩, h⟩ := h
  obtain _ | ⟨⟨x34, rfl, _⟩, h⟩ := h
  obtain _ | ⟨⟨x35, rfl, _⟩, h⟩ := h
  obtain _ | ⟨⟨x36, rfl, _⟩, h⟩ := h
  obtain _ | ⟨⟨x37, rfl, _⟩, h⟩ := h
  obtain _ | ⟨⟨x38, rfl, _⟩, h⟩ := h
  obtain _ | ⟨⟨x39, rfl, _⟩, h⟩ := h
  obtain _ | ⟨⟨x40, rfl, _⟩, h⟩ := h
  obtain _ | ⟨⟨x41, rfl, _⟩, h⟩ := h
  obtain _ | ⟨⟨x42, rfl, _⟩, h⟩ := h
  obtain _ | ⟨⟨x43, rfl, _⟩, h⟩ := h
  obtain _ | ⟨⟨x44, rfl, _⟩, h⟩ := h
  obtain _ | ⟨⟨x45, rfl, _⟩, h⟩ := h
  obtain _ | ⟨⟨x46, rfl, _⟩, h⟩ := h
  obtain _ | ⟨⟨x47, rfl, _⟩, h⟩ := h
  obtain _ | ⟨⟨x48, rfl, _⟩, h⟩ := h
  obtain _ | ⟨⟨x49, rfl, _⟩, h⟩ := h
  obtain _ | ⟨⟨x50, rfl, _⟩, h⟩ := h
  obtain _ | ⟨⟨x51, rfl, _⟩, h⟩ := h
  obtain _ | ⟨hd, h⟩ := h
  obtain ⟨bs, ad, cd, rfl, hid, _, hbd⟩ := slInG_bytes (herR Try.prog) hd rfl rfl (by decide +kernel)
  obtain _ | ⟨⟨x53, rfl, _⟩, h⟩ := h
  obtain _ | ⟨⟨x54, rfl, _⟩, h⟩ := h
  obtain _ | ⟨⟨x55, rfl, _⟩, h⟩ := h
  cases h
  have hlo : (os.map OpC.cells).length = os.length := List.length_map _
  have hE : EnIn (all W) (EnR.mk ⟨x0, x1, x2, ⟨x3, x4, x5, x6, x7, x8, x9, x10⟩, x11, x12, os, x14, (fun i => match i with | 0 => x15 | 1 => x16 | 2 => x17 | 3 => x18 | 4 => x19 | 5 => x20 | 6 => x21 | _ => x22), (fun i => match i with | 0 => x23 | 1 => x24 | 2 => x25 | 3 => x26 | 4 => x27 | 5 => x28 | 6 => x29 | _ => x30), (fun i => match i with | 0 => x31 | 1 => x32 | 2 => x33 | 3 => x34 | 4 => x35 | 5 => x36 | 6 => x37 | _ => x38), x39, (fun i => match i with | 0 => x40 | 1 => x41 | 2 => x42 | 3 => x43 | 4 => x44 | 5 => x45 | 6 => x46 | _ => x47), x48, x49, x50, x51, bs, x53, x54, x55⟩ ao co ad cd) := ⟨by show InSl _ 8 _ (.slice ao os.length co); rw [← hlo]; exact hio, hid⟩
  have hZ : EnSz ((EnR.mk ⟨x0, x1, x2, ⟨x3, x4, x5, x6, x7, x8, x9, x10⟩, x11, x12, os, x14, (fun i => match i with | 0 => x15 | 1 => x16 | 2 => x17 | 3 => x18 | 4 => x19 | 5 => x20 | 6 => x21 | _ => x22), (fun i => match i with | 0 => x23 | 1 => x24 | 2 => x25 | 3 => x26 | 4 => x27 | 5 => x28 | 6 => x29 | _ => x30), (fun i => match i with | 0 => x31 | 1 => x32 | 2 => x33 | 3 => x34 | 4 => x35 | 5 => x36 | 6 => x37 | _ => x38), x39, (fun i => match i with | 0 => x40 | 1 => x41 | 2 => x42 | 3 => x43 | 4 => x44 | 5 => x45 | 6 => x46 | _ => x47), x48, x49, x50, x51, bs, x53, x54, x55⟩ ao co ad cd)).c := by
    refine ⟨?_, ?_⟩
    · unfold bdR at hbo
      rw [by39] at hbo
      have := reachBytes_lt
      show os.length * 88 ≤ _
      omega
    · unfold bdR at hbd
      rw [show Try.prog.bytesOf 5 = 1 from by kernel_rfl, Nat.mul_one] at hbd
      have := reachBytes_lt
      show bs.length ≤ _
      omega
  exact ⟨(EnR.mk ⟨x0, x1, x2, ⟨x3, x4, x5, x6, x7, x8, x9, x10⟩, x11, x12, os, x14, (fun i => match i with | 0 => x15 | 1 => x16 | 2 => x17 | 3 => x18 | 4 => x19 | 5 => x20 | 6 => x21 | _ => x22), (fun i => match i with | 0 => x23 | 1 => x24 | 2 => x25 | 3 => x26 | 4 => x27 | 5 => x28 | 6 => x29 | _ => x30), (fun i => match i with | 0 => x31 | 1 => x32 | 2 => x33 | 3 => x34 | 4 => x35 | 5 => x36 | 6 => x37 | _ => x38), x39, (fun i => match i with | 0 => x40 | 1 => x41 | 2 => x42 | 3 => x43 | 4 => x44 | 5 => x45 | 6 => x46 | _ => x47), x48, x49, x50, x51, bs, x53, x54, x55⟩ ao co ad cd), by rw [hlo]; rfl, hE, hZ⟩

set_option maxRecDepth 100000 in
theorem liftedPKeeps (os : Os) (started : os.Started) (H : Type) (enc : TypeId × Value → H) :
    ReturnsInHanded {} Try.checked os 4 .any (Rows.proposerKeepsSpec.pre6 enc Try.prog Try.f4 Rows.proposerKeepsRow.domain false) (Rows.proposerKeepsSpec.post enc Try.prog Try.f4 false true false false) := by
  refine returnsInHanded_of_change_sized (C := Try.checked) ownPKeeps started (by kernel_rfl) Try.func4
    (ChangeSpec.witness6 (enc := enc) (C := Try.checked) false ⟨#[], #[.int .u8 0, .slice none 0 0, .slice none 0 0, .slice none 0 0], []⟩ 8 (by kernel_rfl) (by kernel_rfl) (by kernel_rfl) (by kernel_rfl)) ?_
  intro W base args ds gs before hval0 hW hcnd hk _
  have hval : ∀ (j : Nat) t v, Try.f4.params[j]? = some t → args[j]? = some v → Value.okWide Try.prog W .any base t v := hval0
  have hW' := hW
  obtain ⟨p, q, hA0, hV, rfl, hfz, hnd⟩ := hW
  have hA : DataW.TrodAll enc Try.prog W 0 (fun _ => true) true Try.f4.params.toList args.toList ds p := hA0
  have hp : Try.f4.params.toList = [5, 61, 37, 37] := rfl
  rw [hp] at hA
  obtain ⟨v0, vs0, d0, ds0, p0, q0, hargs, rfl, rfl, h0, r0⟩ := trodAll_cons hA
  obtain ⟨v1, vs1, d1, ds1, p1, q1, rfl, rfl, rfl, h1, r1⟩ := trodAll_cons r0
  obtain ⟨v2, vs2, d2, ds2, p2, q2, rfl, rfl, rfl, h2, r2⟩ := trodAll_cons r1
  obtain ⟨v3, vs3, d3, ds3, p3, q3, rfl, rfl, rfl, h3, r3⟩ := trodAll_cons r2
  obtain ⟨rfl, rfl, rfl⟩ := trodAll_nil r3
  obtain rfl : args = #[v0, v1, v2, v3] := by cases args; simp_all
  obtain ⟨rfl, rfl⟩ := trodVars_none hV
  have k0 := h0
  have lt0 : ∀ x ∈ p0, x.block < W.heap.size := by obtain ⟨m, hm⟩ := k0; exact DataW.trod_lt m _ _ _ hm
  have k1 := h1
  have lt1 : ∀ x ∈ p1, x.block < W.heap.size := by obtain ⟨m, hm⟩ := k1; exact DataW.trod_lt m _ _ _ hm
  have k2 := h2
  have lt2 : ∀ x ∈ p2, x.block < W.heap.size := by obtain ⟨m, hm⟩ := k2; exact DataW.trod_lt m _ _ _ hm
  have k3 := h3
  have lt3 : ∀ x ∈ p3, x.block < W.heap.size := by obtain ⟨m, hm⟩ := k3; exact DataW.trod_lt m _ _ _ hm
  have g0 : gR Try.prog 5 d0 := gR_at hk (j := 0) rfl rfl
  have g1 : gR Try.prog 61 d1 := gR_at hk (j := 1) rfl rfl
  have g2 : gR Try.prog 37 d2 := gR_at hk (j := 2) rfl rfl
  have g3 : gR Try.prog 37 d3 := gR_at hk (j := 3) rfl rfl
  obtain ⟨z0, rfl, rfl, rfl, w0⟩ := open_int (k := .u8) rfl (hval 0 5 v0 rfl rfl) h0
  obtain ⟨a0, rfl, lt80⟩ : ∃ a : Nat, z0 = (a : Int) ∧ a < 256 := by
    have h1 : IntKind.u8.min = 0 := rfl
    have h2 : IntKind.u8.max = 255 := rfl
    simp [Lit.wf] at w0
    exact ⟨z0.toNat, by omega, by omega⟩
  obtain ⟨xs1, hin1, wf1, ln1, bd1⟩ : ∃ xs : List EnR, InSl (all W) 56 (xs.map EnR.cells) v1 ∧ (∀ x ∈ xs, (fun x => EnIn (all W) x ∧ EnSz x.c) x) ∧ xs.length ≤ maxLen ∧ (bdR Try.prog) _ xs.length := by
    obtain ⟨aa, len, cap, rfl⟩ := okWide_slice rfl (hval 1 61 v1 rfl rfl)
    obtain ⟨fuel, hf⟩ := h1
    cases trodG_kinds (herR Try.prog) 4 61 _ fuel _ _ rfl rfl hf g1 with
    | cons h1 _ => exact slInG_rows (C := EnR.cells) (Wf := (fun x => EnIn (all W) x ∧ EnSz x.c)) (herR Try.prog) h1 rfl rfl (by decide +kernel) (fun cs hcs => enr_of hcs) (fun _ => rfl)
  obtain ⟨bs2, ad2, cp2, rfl, hin2, ln2, bd2⟩ : ∃ (bs : List UInt8) (a : Option Addr) (c : Nat), v2 = .slice a bs.length c ∧ InSl (all W) 1 (bs.map byC) v2 ∧ bs.length ≤ maxLen ∧ (bdR Try.prog) 5 bs.length := by
    obtain ⟨aa, len, cap, rfl⟩ := okWide_slice rfl (hval 2 37 v2 rfl rfl)
    obtain ⟨fuel, hf⟩ := h2
    cases trodG_kinds (herR Try.prog) 4 37 _ fuel _ _ rfl rfl hf g2 with
    | cons h1 _ => exact slInG_bytes (herR Try.prog) h1 rfl rfl (by decide +kernel)
  obtain ⟨bs3, ad3, cp3, rfl, hin3, ln3, bd3⟩ : ∃ (bs : List UInt8) (a : Option Addr) (c : Nat), v3 = .slice a bs.length c ∧ InSl (all W) 1 (bs.map byC) v3 ∧ bs.length ≤ maxLen ∧ (bdR Try.prog) 5 bs.length := by
    obtain ⟨aa, len, cap, rfl⟩ := okWide_slice rfl (hval 3 37 v3 rfl rfl)
    obtain ⟨fuel, hf⟩ := h3
    cases trodG_kinds (herR Try.prog) 4 37 _ fuel _ _ rfl rfl hf g3 with
    | cons h1 _ => exact slInG_bytes (herR Try.prog) h1 rfl rfl (by decide +kernel)
  clear hA0 hval0
  refine (law_true (keeps_law W (nn := a0) hin1 wf1 (by have h9 := bd1; unfold bdR at h9; rw [show Try.prog.bytesOf 41 = 504 from by kernel_rfl] at h9; have := reachBytes_lt; omega) hin2 hin3 ⟨rfl, rfl⟩)).mono fun e W' ⟨he, bel⟩ => ?_
  subst he
  exact ⟨_, rfl, _, _, _, [], _, [], hW', trodAll_mk1 (shut_bool rfl _), (trodAll_cons_mk (Below.trod laidOutPKeeps (by kernel_rfl) (of_decide_eq_true (by kernel_rfl)) k0 bel lt0) (trodAll_cons_mk (Below.trod laidOutPKeeps (by kernel_rfl) (of_decide_eq_true (by kernel_rfl)) k1 bel lt1) (trodAll_cons_mk (Below.trod laidOutPKeeps (by kernel_rfl) (of_decide_eq_true (by kernel_rfl)) k2 bel lt2) (trodAll_cons_mk (Below.trod laidOutPKeeps (by kernel_rfl) (of_decide_eq_true (by kernel_rfl)) k3 bel lt3) trodAll_mk0)))), rfl, bel.frame _, fun h => by cases h⟩

theorem provedPKeeps : Rows.ProposerKeepsSaid :=
  OpenClaim.holds_of_wide 4 Try.f4 rfl rfl rfl rfl rfl rfl rfl ⟨rfl, rfl, rfl, rfl, rfl⟩ rfl rfl rfl rfl rfl (by kernel_rfl) Try.func4 (by kernel_rfl)
    (of_decide_eq_true (by kernel_rfl)) (by unfold Func.isWrapper; first | (rw [if_pos (by decide +kernel)]; kernel_rfl) | (rw [if_neg (by decide +kernel)]; exact ⟨rfl, rfl⟩))
    (fun os started H enc _ => liftedPKeeps os started H enc)
#print axioms provedPKeeps
end Go.Proofs.Ytpegidbkplgplaa
