/-
  PROVED HERE: 'Rows.ProposerNoneSaid': whatever the input, ProposerNone returns true and its input reads afterwards as it read before. No condition.
-/
import Derived.Test.YtpegidbkplgplaaPO
import Derived.Test.YtpegidbkplgplaaVi
import Derived.Test.YtpegidbkplgplaaRows
namespace Go.Proofs.Ytpegidbkplgplaa
open Go.ChangeShapes Go.WideShapes Go.ChangeAt Go.RowKit Go.Vl

theorem ownPNone : ownKnob Try.prog.godebug = none := by kernel_rfl
theorem laidOutPNone : laidOutB Try.prog = true := by kernel_rfl
set_option maxRecDepth 100000 in
theorem opc_of {H : Type} {enc : TypeId × Value → H} {W : World} {G : TypeId → DataW H → Prop} {Bd : TypeId → Nat → Prop} {cs : List Value} (h : All2 (LKg enc Try.prog W G Bd) [.int .i64, .int .i64, .int .i64, .int .i64, .int .i64, .str, .str, .str] cs) : ∃ r : OpC, cs = r.cells ∧ True := by
  obtain _ | ⟨⟨a, rfl, _⟩, h⟩ := h
  obtain _ | ⟨⟨b, rfl, _⟩, h⟩ := h
  obtain _ | ⟨⟨c, rfl, _⟩, h⟩ := h
  obtain _ | ⟨⟨d, rfl, _⟩, h⟩ := h
  obtain _ | ⟨⟨e, rfl, _⟩, h⟩ := h
  obtain _ | ⟨⟨f, rfl, _⟩, h⟩ := h
  obtain _ | ⟨⟨g, rfl, _⟩, h⟩ := h
  obtain _ | ⟨⟨k, rfl, _⟩, h⟩ := h
  cases h
  exact ⟨⟨a, b, c, d, e, f, g, k⟩, rfl, trivial⟩
set_option maxRecDepth 100000 in
theorem slv_of {H : Type} {enc : TypeId × Value → H} {P : Program} {W : World} {G : TypeId → DataW H → Prop} {Bd : TypeId → Nat → Prop} {e : TypeId} {v : Value} (h : SlInG enc P W G Bd e v) : ∃ (a : Option Addr) (l c : Nat), v = .slice a l c := by
  rcases h with rfl | ⟨a, l, c, rfl, _⟩
  · exact ⟨none, 0, 0, rfl⟩
  · exact ⟨some a, l, c, rfl⟩
set_option maxRecDepth 100000 in
theorem por_of {H : Type} {enc : TypeId × Value → H} {W : World} {cs : List Value} (h : All2 (LKg enc Try.prog W (gR Try.prog) (bdR Try.prog)) [.int .i64, .int .i64, .int .i64, .sl 51, .int .i64, .int .i64, .int .i64, .int .i64, .int .i64, .int .i64, .int .i64, .int .i64, .str, .str, .str, .int .i64, .int .i64, .sl 30, .int .i64, .int .i64, .int .i64, .int .i64, .int .i64, .int .i64, .int .i64, .int .i64, .int .i64, .int .i64, .int .i64, .int .i64, .int .i64, .int .i64, .int .i64, .int .i64, .int .i64, .int .i64, .int .i64, .int .i64, .int .i64, .int .i64, .int .i64, .int .i64, .int .i64, .int .i64, .int .i64, .int .i64, .int .i64, .int .i64, .int .i64, .int .i64, .int .i64, .int .i64, .int .i64, .int .i64, .int .i64, .int .i64, .sl 5, .int .i64, .int .i64, .int .i64] cs) : ∃ r : PoR, cs = r.cells ∧ (EnIn (all W) r.en ∧ EnSz r.en.c) := by
  obtain _ | ⟨⟨x0, rfl, _⟩, h⟩ := h
  obtain _ | ⟨⟨x1, rfl, _⟩, h⟩ := h
  obtain _ | ⟨⟨x2, rfl, _⟩, h⟩ := h
  obtain _ | ⟨hl, h⟩ := h
  obtain ⟨la, ll, lc, rfl⟩ := slv_of hl
  obtain _ | ⟨⟨x4, rfl, _⟩, h⟩ := h
  obtain _ | ⟨⟨x5, rfl, _⟩, h⟩ := h
  obtain _ | ⟨⟨x6, rfl, _⟩, h⟩ := h
  obtain _ | ⟨⟨x7, rfl, _⟩, h⟩ := h
  obtain _ | ⟨⟨x8, rfl, _⟩, h⟩ := h
  obtain _ | ⟨⟨x9, rfl, _⟩, h⟩ := h
  obtain _ | ⟨⟨x10, rfl, _⟩, h⟩ := h
  obtain _ | ⟨⟨x11, rfl, _⟩, h⟩ := h
  obtain _ | ⟨⟨x12, rfl, _⟩, h⟩ := h
  obtain _ | ⟨⟨x13, rfl, _⟩, h⟩ := h
  obtain _ | ⟨⟨x14, rfl, _⟩, h⟩ := h
  obtain _ | ⟨⟨x15, rfl, _⟩, h⟩ := h
  obtain _ | ⟨⟨x16, rfl, _⟩, h⟩ := h
  obtain _ | ⟨ho, h⟩ := h
  obtain ⟨os, hio, _, _, hbo⟩ := slInG_rows (C := OpC.cells) (Wf := fun _ => True) (herR Try.prog) ho rfl rfl (by decide +kernel) (fun cs hcs => opc_of hcs) (fun _ => rfl)
  obtain ⟨ao, co, rfl, _⟩ := id hio
  obtain _ | ⟨⟨x18, rfl, _⟩, h⟩ := h
  obtain _ | ⟨⟨x19, rfl, _⟩, h⟩ := h
  obtain _ | ⟨⟨x20, rfl, _⟩, h⟩ := h
  obtain _ | ⟨⟨x21, rfl, _⟩, h⟩ := h
  obtain _ | ⟨⟨x22, rfl, _⟩, h⟩ := h
  obtain _ | ⟨⟨x23, rfl, _⟩, h⟩ := h
  obtain _ | ⟨⟨x24, rfl, _⟩, h⟩ := h
  obtain _ | ⟨⟨x25, rfl, _⟩, h⟩ := h
  obtain _ | ⟨⟨x26, rfl, _⟩, h⟩ := h
  obtain _ | ⟨⟨x27, rfl, _⟩, h⟩ := h
  obtain _ | ⟨⟨x28, rfl, _⟩, h⟩ := h
  obtain _ | ⟨⟨x29, rfl, _⟩, h⟩ := h
  obtain _ | ⟨⟨x30, rfl, _⟩, h⟩ := h
  obtain _ | ⟨⟨x31, rfl, _⟩, h⟩ := h
  obtain _ | ⟨⟨x32, rfl, _⟩, h⟩ := h
  obtain _ | ⟨⟨x33, rfl, _⟩, h⟩ := h
  obtain _ | ⟨⟨x34, rfl, _⟩, h⟩ := h
  obtain _ | ⟨⟨x35, rfl, _⟩, h⟩ := h
  obtain _ | ⟨⟨x36, rfl, _⟩, h⟩ := h
  obtain _ | ⟨⟨x37, rfl, _⟩, h⟩ := h
  obtain _ | ⟨⟨x38, rfl, _⟩, h⟩ := h
  obtain _ | ⟨⟨x39, rfl, _⟩, h⟩ := h
  obtain _ | ⟨⟨x40, rfl, _⟩, h⟩ := h
  obtain _ | ⟨⟨x41, rfl, _⟩, h⟩ := h
  obtain _ | ⟨⟨x42, rfl, _⟩, h⟩ := h
  obtain _ | ⟨⟨x43, rfl, _⟩, h⟩ := h
  obtain _ | ⟨⟨x44, rfl, _⟩, h⟩ := h
  obtain _ | ⟨⟨x45, rfl, _⟩, h⟩ := h
  obtain _ | ⟨⟨x46, rfl, _⟩, h⟩ := h
  obtain _ | ⟨⟨x47, rfl, _⟩, h⟩ := h
  obtain _ | ⟨⟨x48, rfl, _⟩, h⟩ := h
  obtain _ | ⟨⟨x49, rfl, _⟩, h⟩ := h
  obtain _ | ⟨⟨x50, rfl, _⟩, h⟩ := h
  obtain _ | ⟨⟨x51, rfl, _⟩, h⟩ := h
  obtain _ | ⟨⟨x52, rfl, _⟩, h⟩ := h
  obtain _ | ⟨⟨x53, rfl, _⟩, h⟩ := h
  obtain _ | ⟨⟨x54, rfl, _⟩, h⟩ := h
  obtain _ | ⟨⟨x55, rfl, _⟩, h⟩ := h
  obtain _ | ⟨hd, h⟩ := h
  obtain ⟨bs, ad, cd, rfl, hid, _, hbd⟩ := slInG_bytes (herR Try.prog) hd rfl rfl (by decide +kernel)
  obtain _ | ⟨⟨x57, rfl, _⟩, h⟩ := h
  obtain _ | ⟨⟨x58, rfl, _⟩, h⟩ := h
  obtain _ | ⟨⟨x59, rfl, _⟩, h⟩ := h
  cases h
  have hlo : (os.map OpC.cells).length = os.length := List.length_map _
  have hE : EnIn (all W) (EnR.mk ⟨x4, x5, x6, ⟨x7, x8, x9, x10, x11, x12, x13, x14⟩, x15, x16, os, x18, (fun i => match i with | 0 => x19 | 1 => x20 | 2 => x21 | 3 => x22 | 4 => x23 | 5 => x24 | 6 => x25 | _ => x26), (fun i => match i with | 0 => x27 | 1 => x28 | 2 => x29 | 3 => x30 | 4 => x31 | 5 => x32 | 6 => x33 | _ => x34), (fun i => match i with | 0 => x35 | 1 => x36 | 2 => x37 | 3 => x38 | 4 => x39 | 5 => x40 | 6 => x41 | _ => x42), x43, (fun i => match i with | 0 => x44 | 1 => x45 | 2 => x46 | 3 => x47 | 4 => x48 | 5 => x49 | 6 => x50 | _ => x51), x52, x53, x54, x55, bs, x57, x58, x59⟩ ao co ad cd) := ⟨by show InSl _ 8 _ (.slice ao os.length co); rw [← hlo]; exact hio, hid⟩
  have hZ : EnSz ((EnR.mk ⟨x4, x5, x6, ⟨x7, x8, x9, x10, x11, x12, x13, x14⟩, x15, x16, os, x18, (fun i => match i with | 0 => x19 | 1 => x20 | 2 => x21 | 3 => x22 | 4 => x23 | 5 => x24 | 6 => x25 | _ => x26), (fun i => match i with | 0 => x27 | 1 => x28 | 2 => x29 | 3 => x30 | 4 => x31 | 5 => x32 | 6 => x33 | _ => x34), (fun i => match i with | 0 => x35 | 1 => x36 | 2 => x37 | 3 => x38 | 4 => x39 | 5 => x40 | 6 => x41 | _ => x42), x43, (fun i => match i with | 0 => x44 | 1 => x45 | 2 => x46 | 3 => x47 | 4 => x48 | 5 => x49 | 6 => x50 | _ => x51), x52, x53, x54, x55, bs, x57, x58, x59⟩ ao co ad cd)).c := by
    refine ⟨?_, ?_⟩
    · unfold bdR at hbo
      rw [by39] at hbo
      have := reachBytes_lt
      show os.length * 88 ≤ _
      omega
    · unfold bdR at hbd
      rw [show Try.prog.bytesOf 5 = 1 from by kernel_rfl, Nat.mul_one] at hbd
      have := reachBytes_lt
      show bs.length ≤ _
      omega
  exact ⟨⟨x0, x1, x2, la, ll, lc, (EnR.mk ⟨x4, x5, x6, ⟨x7, x8, x9, x10, x11, x12, x13, x14⟩, x15, x16, os, x18, (fun i => match i with | 0 => x19 | 1 => x20 | 2 => x21 | 3 => x22 | 4 => x23 | 5 => x24 | 6 => x25 | _ => x26), (fun i => match i with | 0 => x27 | 1 => x28 | 2 => x29 | 3 => x30 | 4 => x31 | 5 => x32 | 6 => x33 | _ => x34), (fun i => match i with | 0 => x35 | 1 => x36 | 2 => x37 | 3 => x38 | 4 => x39 | 5 => x40 | 6 => x41 | _ => x42), x43, (fun i => match i with | 0 => x44 | 1 => x45 | 2 => x46 | 3 => x47 | 4 => x48 | 5 => x49 | 6 => x50 | _ => x51), x52, x53, x54, x55, bs, x57, x58, x59⟩ ao co ad cd)⟩, by rw [hlo]; rfl, hE, hZ⟩

set_option maxRecDepth 100000 in
theorem liftedPNone (os : Os) (started : os.Started) (H : Type) (enc : TypeId × Value → H) :
    ReturnsInHanded {} Try.checked os 6 .any (Rows.proposerNoneSpec.pre6 enc Try.prog Try.f6 Rows.proposerNoneRow.domain false) (Rows.proposerNoneSpec.post enc Try.prog Try.f6 false true false false) := by
  refine returnsInHanded_of_change_sized (C := Try.checked) ownPNone started (by kernel_rfl) Try.func6
    (ChangeSpec.witness6 (enc := enc) (C := Try.checked) false ⟨#[], #[.agg #[.int .i64 0, .int .i64 0, .int .i64 0, .slice none 0 0, .int .i64 0, .int .i64 0, .int .i64 0, .int .i64 0, .int .i64 0, .int .i64 0, .int .i64 0, .int .i64 0, .string .empty, .string .empty, .string .empty, .int .i64 0, .int .i64 0, .slice none 0 0, .int .i64 0, .int .i64 0, .int .i64 0, .int .i64 0, .int .i64 0, .int .i64 0, .int .i64 0, .int .i64 0, .int .i64 0, .int .i64 0, .int .i64 0, .int .i64 0, .int .i64 0, .int .i64 0, .int .i64 0, .int .i64 0, .int .i64 0, .int .i64 0, .int .i64 0, .int .i64 0, .int .i64 0, .int .i64 0, .int .i64 0, .int .i64 0, .int .i64 0, .int .i64 0, .int .i64 0, .int .i64 0, .int .i64 0, .int .i64 0, .int .i64 0, .int .i64 0, .int .i64 0, .int .i64 0, .int .i64 0, .int .i64 0, .int .i64 0, .int .i64 0, .slice none 0 0, .int .i64 0, .int .i64 0, .int .i64 0]], []⟩ 8 (by kernel_rfl) (by kernel_rfl) (by kernel_rfl) (by kernel_rfl)) ?_
  intro W base args ds gs before hval0 hW hcnd hk _
  have hval : ∀ (j : Nat) t v, Try.f6.params[j]? = some t → args[j]? = some v → Value.okWide Try.prog W .any base t v := hval0
  have hW' := hW
  obtain ⟨p, q, hA0, hV, rfl, hfz, hnd⟩ := hW
  have hA : DataW.TrodAll enc Try.prog W 0 (fun _ => true) true Try.f6.params.toList args.toList ds p := hA0
  have hp : Try.f6.params.toList = [83] := rfl
  rw [hp] at hA
  obtain ⟨v0, vs0, d0, ds0, p0, q0, hargs, rfl, rfl, h0, r0⟩ := trodAll_cons hA
  obtain ⟨rfl, rfl, rfl⟩ := trodAll_nil r0
  obtain rfl : args = #[v0] := by cases args; simp_all
  obtain ⟨rfl, rfl⟩ := trodVars_none hV
  have k0 := h0
  have lt0 : ∀ x ∈ p0, x.block < W.heap.size := by obtain ⟨m, hm⟩ := k0; exact DataW.trod_lt m _ _ _ hm
  have g0 : gR Try.prog 83 d0 := gR_at hk (j := 0) rfl rfl
  obtain ⟨cs0, rfl, hcs0⟩ := okWide_struct rfl (hval 0 83 v0 rfl rfl)
  obtain ⟨x0, hx0, wf0⟩ : ∃ x : PoR, cs0 = (PoR.cells x).toArray ∧ (fun r => EnIn (all W) r.en ∧ EnSz r.en.c) x := by
    obtain ⟨fuel, hf⟩ := h0
    obtain ⟨r, hr, hw⟩ := por_of (trodG_kinds (herR Try.prog) 8 83 _ fuel _ _ rfl rfl hf g0)
    exact ⟨r, by rw [← hr]; simp [Value.cells], hw⟩
  subst hx0
  clear hA0 hval0
  refine (law_true (pnone_law W (o := x0) ⟨rfl, rfl⟩)).mono fun e W' ⟨he, bel⟩ => ?_
  subst he
  exact ⟨_, rfl, _, _, _, [], _, [], hW', trodAll_mk1 (shut_bool rfl _), (trodAll_cons_mk (Below.trod laidOutPNone (by kernel_rfl) (of_decide_eq_true (by kernel_rfl)) k0 bel lt0) trodAll_mk0), rfl, bel.frame _, fun h => by cases h⟩

theorem provedPNone : Rows.ProposerNoneSaid :=
  OpenClaim.holds_of_wide 6 Try.f6 rfl rfl rfl rfl rfl rfl rfl ⟨rfl, rfl, rfl, rfl, rfl⟩ rfl rfl rfl rfl rfl (by kernel_rfl) Try.func6 (by kernel_rfl)
    (of_decide_eq_true (by kernel_rfl)) (by unfold Func.isWrapper; first | (rw [if_pos (by decide +kernel)]; kernel_rfl) | (rw [if_neg (by decide +kernel)]; exact ⟨rfl, rfl⟩))
    (fun os started H enc _ => liftedPNone os started H enc)
#print axioms provedPNone
end Go.Proofs.Ytpegidbkplgplaa
