/-
  PROVED HERE: 'Rows.ProposerDoesSaid': whatever the input, ProposerDoes returns true and its input reads afterwards as it read before. No condition.
-/
import Derived.Test.YtpegidbkplgplaaGreatQ29
import Derived.Test.YtpegidbkplgplaaGreatQ30
import Derived.Test.YtpegidbkplgplaaGreatRows
namespace Go.Proofs.YtpegidbkplgplaaGreat
open Go.ChangeShapes Go.WideShapes Go.ChangeAt Go.RowKit Go.Vl

theorem ownYDoes : ownKnob Tryz.prog.godebug = none := by kernel_rfl
theorem laidOutYDoes : laidOutB Tryz.prog = true := by kernel_rfl
set_option maxRecDepth 100000 in
theorem opc_of {H : Type} {enc : TypeId × Value → H} {W : World} {G : TypeId → DataW H → Prop} {Bd : TypeId → Nat → Prop} {cs : List Value} (h : All2 (LKg enc Tryz.prog W G Bd) [.int .i64, .int .i64, .int .i64, .int .i64, .int .i64, .str, .str, .str] cs) : ∃ r : OpC, cs = r.cells ∧ True := by
  obtain _ | ⟨⟨a, rfl, _⟩, h⟩ := h
  obtain _ | ⟨⟨b, rfl, _⟩, h⟩ := h
  obtain _ | ⟨⟨c, rfl, _⟩, h⟩ := h
  obtain _ | ⟨⟨d, rfl, _⟩, h⟩ := h
  obtain _ | ⟨⟨e, rfl, _⟩, h⟩ := h
  obtain _ | ⟨⟨f, rfl, _⟩, h⟩ := h
  obtain _ | ⟨⟨g, rfl, _⟩, h⟩ := h
  obtain _ | ⟨⟨k, rfl, _⟩, h⟩ := h
  cases h
  exact ⟨⟨a, b, c, d, e, f, g, k⟩, rfl, trivial⟩
set_option maxRecDepth 100000 in
theorem slr_of {H : Type} {enc : TypeId × Value → H} {W : World} {cs : List Value} (h : All2 (LKg enc Tryz.prog W (gR Tryz.prog) (bdR Tryz.prog)) [.int .i64, .int .i64, .int .i64, .int .i64, .int .i64, .int .i64, .int .i64, .int .i64, .int .i64, .int .i64, .int .i64, .str, .str, .str, .int .i64, .int .i64, .sl 40, .int .i64, .int .i64, .int .i64, .int .i64, .int .i64, .int .i64, .int .i64, .int .i64, .int .i64, .int .i64, .int .i64, .int .i64, .int .i64, .int .i64, .int .i64, .int .i64, .int .i64, .int .i64, .int .i64, .int .i64, .int .i64, .int .i64, .int .i64, .int .i64, .int .i64, .int .i64, .int .i64, .int .i64, .int .i64, .int .i64, .int .i64, .int .i64, .int .i64, .int .i64, .int .i64, .int .i64, .int .i64, .int .i64, .sl 5, .int .i64, .int .i64, .int .i64] cs) : ∃ r : SlR, cs = r.cells ∧ (EnIn (all W) r.en ∧ EnSz r.en.c) := by
  obtain _ | ⟨⟨x0, rfl, _⟩, h⟩ := h
  obtain _ | ⟨⟨x1, rfl, _⟩, h⟩ := h
  obtain _ | ⟨⟨x2, rfl, _⟩, h⟩ := h
  obtain _ | ⟨⟨x3, rfl, _⟩, h⟩ := h
  obtain _ | ⟨⟨x4, rfl, _⟩, h⟩ := h
  obtain _ | ⟨⟨x5, rfl, _⟩, h⟩ := h
  obtain _ | ⟨⟨x6, rfl, _⟩, h⟩ := h
  obtain _ | ⟨⟨x7, rfl, _⟩, h⟩ := h
  obtain _ | ⟨⟨x8, rfl, _⟩, h⟩ := h
  obtain _ | ⟨⟨x9, rfl, _⟩, h⟩ := h
  obtain _ | ⟨⟨x10, rfl, _⟩, h⟩ := h
  obtain _ | ⟨⟨x11, rfl, _⟩, h⟩ := h
  obtain _ | ⟨⟨x12, rfl, _⟩, h⟩ := h
  obtain _ | ⟨⟨x13, rfl, _⟩, h⟩ := h
  obtain _ | ⟨⟨x14, rfl, _⟩, h⟩ := h
  obtain _ | ⟨⟨x15, rfl, _⟩, h⟩ := h
  obtain _ | ⟨ho, h⟩ := h
  obtain ⟨os, hio, _, _, hbo⟩ := slInG_rows (C := OpC.cells) (Wf := fun _ => True) (herR Tryz.prog) ho rfl rfl (by decide +kernel) (fun cs hcs => opc_of hcs) (fun _ => rfl)
  obtain ⟨ao, co, rfl, _⟩ := id hio
  obtain _ | ⟨⟨x17, rfl, _⟩, h⟩ := h
  obtain _ | ⟨⟨x18, rfl, _⟩, h⟩ := h
  obtain _ | ⟨⟨x19, rfl, _⟩, h⟩ := h
  obtain _ | ⟨⟨x20, rfl, _⟩, h⟩ := h
  obtain _ | ⟨⟨x21, rfl, _⟩, h⟩ := h
  obtain _ | ⟨⟨x22, rfl, _⟩, h⟩ := h
  obtain _ | ⟨⟨x23, rfl, _⟩, h⟩ := h
  obtain _ | ⟨⟨x24, rfl, _⟩, h⟩ := h
  obtain _ | ⟨⟨x25, rfl, _⟩, h⟩ := h
  obtain _ | ⟨⟨x26, rfl, _⟩, h⟩ := h
  obtain _ | ⟨⟨x27, rfl, _⟩, h⟩ := h
  obtain _ | ⟨⟨x28, rfl, _⟩, h⟩ := h
  obtain _ | ⟨⟨x29, rfl, _⟩, h⟩ := h
  obtain _ | ⟨⟨x30, rfl, _⟩, h⟩ := h
  obtain _ | ⟨⟨x31, rfl, _⟩, h⟩ := h
  obtain _ | ⟨⟨x32, rfl, _⟩, h⟩ := h
  obtain _ | ⟨⟨x33, rfl, _⟩, h⟩ := h
  obtain _ | ⟨⟨x34, rfl, _⟩, h⟩ := h
  obtain _ | ⟨⟨x35, rfl, _⟩, h⟩ := h
  obtain _ | ⟨⟨x36, rfl, _⟩, h⟩ := h
  obtain _ | ⟨⟨x37, rfl, _⟩, h⟩ := h
  obtain _ | ⟨⟨x38, rfl, _⟩, h⟩ := h
  obtain _ | ⟨⟨x39, rfl, _⟩, h⟩ := h
  obtain _ | ⟨⟨x40, rfl, _⟩, h⟩ := h
  obtain _ | ⟨⟨x41, rfl, _⟩, h⟩ := h
  obtain _ | ⟨⟨x42, rfl, _⟩, h⟩ := h
  obtain _ | ⟨⟨x43, rfl, _⟩, h⟩ := h
  obtain _ | ⟨⟨x44, rfl, _⟩, h⟩ := h
  obtain _ | ⟨⟨x45, rfl, _⟩, h⟩ := h
  obtain _ | ⟨⟨x46, rfl, _⟩, h⟩ := h
  obtain _ | ⟨⟨x47, rfl, _⟩, h⟩ := h
  obtain _ | ⟨⟨x48, rfl, _⟩, h⟩ := h
  obtain _ | ⟨⟨x49, rfl, _⟩, h⟩ := h
  obtain _ | ⟨⟨x50, rfl, _⟩, h⟩ := h
  obtain _ | ⟨⟨x51, rfl, _⟩, h⟩ := h
  obtain _ | ⟨⟨x52, rfl, _⟩, h⟩ := h
  obtain _ | ⟨⟨x53, rfl, _⟩, h⟩ := h
  obtain _ | ⟨⟨x54, rfl, _⟩, h⟩ := h
  obtain _ | ⟨hd, h⟩ := h
  obtain ⟨bs, ad, cd, rfl, hid, _, hbd⟩ := slInG_bytes (herR Tryz.prog) hd rfl rfl (by decide +kernel)
  obtain _ | ⟨⟨x56, rfl, _⟩, h⟩ := h
  obtain _ | ⟨⟨x57, rfl, _⟩, h⟩ := h
  obtain _ | ⟨⟨x58, rfl, _⟩, h⟩ := h
  cases h
  have hlo : (os.map OpC.cells).length = os.length := List.length_map _
  have hE : EnIn (all W) (EnR.mk ⟨x3, x4, x5, ⟨x6, x7, x8, x9, x10, x11, x12, x13⟩, x14, x15, os, x17, (fun i => match i with | 0 => x18 | 1 => x19 | 2 => x20 | 3 => x21 | 4 => x22 | 5 => x23 | 6 => x24 | _ => x25), (fun i => match i with | 0 => x26 | 1 => x27 | 2 => x28 | 3 => x29 | 4 => x30 | 5 => x31 | 6 => x32 | _ => x33), (fun i => match i with | 0 => x34 | 1 => x35 | 2 => x36 | 3 => x37 | 4 => x38 | 5 => x39 | 6 => x40 | _ => x41), x42, (fun i => match i with | 0 => x43 | 1 => x44 | 2 => x45 | 3 => x46 | 4 => x47 | 5 => x48 | 6 => x49 | _ => x50), x51, x52, x53, x54, bs, x56, x57, x58⟩ ao co ad cd) := ⟨by show InSl _ 8 _ (.slice ao os.length co); rw [← hlo]; exact hio, hid⟩
  have hZ : EnSz ((EnR.mk ⟨x3, x4, x5, ⟨x6, x7, x8, x9, x10, x11, x12, x13⟩, x14, x15, os, x17, (fun i => match i with | 0 => x18 | 1 => x19 | 2 => x20 | 3 => x21 | 4 => x22 | 5 => x23 | 6 => x24 | _ => x25), (fun i => match i with | 0 => x26 | 1 => x27 | 2 => x28 | 3 => x29 | 4 => x30 | 5 => x31 | 6 => x32 | _ => x33), (fun i => match i with | 0 => x34 | 1 => x35 | 2 => x36 | 3 => x37 | 4 => x38 | 5 => x39 | 6 => x40 | _ => x41), x42, (fun i => match i with | 0 => x43 | 1 => x44 | 2 => x45 | 3 => x46 | 4 => x47 | 5 => x48 | 6 => x49 | _ => x50), x51, x52, x53, x54, bs, x56, x57, x58⟩ ao co ad cd)).c := by
    refine ⟨?_, ?_⟩
    · unfold bdR at hbo
      rw [by39] at hbo
      have := reachBytes_lt
      show os.length * 88 ≤ _
      omega
    · unfold bdR at hbd
      rw [show Tryz.prog.bytesOf 5 = 1 from by kernel_rfl, Nat.mul_one] at hbd
      have := reachBytes_lt
      show bs.length ≤ _
      omega
  exact ⟨⟨x0, ⟨x1, x2⟩, (EnR.mk ⟨x3, x4, x5, ⟨x6, x7, x8, x9, x10, x11, x12, x13⟩, x14, x15, os, x17, (fun i => match i with | 0 => x18 | 1 => x19 | 2 => x20 | 3 => x21 | 4 => x22 | 5 => x23 | 6 => x24 | _ => x25), (fun i => match i with | 0 => x26 | 1 => x27 | 2 => x28 | 3 => x29 | 4 => x30 | 5 => x31 | 6 => x32 | _ => x33), (fun i => match i with | 0 => x34 | 1 => x35 | 2 => x36 | 3 => x37 | 4 => x38 | 5 => x39 | 6 => x40 | _ => x41), x42, (fun i => match i with | 0 => x43 | 1 => x44 | 2 => x45 | 3 => x46 | 4 => x47 | 5 => x48 | 6 => x49 | _ => x50), x51, x52, x53, x54, bs, x56, x57, x58⟩ ao co ad cd), [], []⟩, by rw [hlo]; rfl, hE, hZ⟩
set_option maxRecDepth 100000 in
theorem sto_of {H : Type} {enc : TypeId × Value → H} {W : World} {cs : List Value} (h : All2 (LKg enc Tryz.prog W (gR Tryz.prog) (bdR Tryz.prog)) [.int .i64, .int .i64, .int .i64, .sl 73, .int .i64, .int .i64, .int .i64, .int .i64, .int .i64, .int .i64, .int .i64, .int .i64, .str, .str, .str, .int .i64, .int .i64, .sl 40, .int .i64, .int .i64, .int .i64, .int .i64, .int .i64, .int .i64, .int .i64, .int .i64, .int .i64, .int .i64, .int .i64, .int .i64, .int .i64, .int .i64, .int .i64, .int .i64, .int .i64, .int .i64, .int .i64, .int .i64, .int .i64, .int .i64, .int .i64, .int .i64, .int .i64, .int .i64, .int .i64, .int .i64, .int .i64, .int .i64, .int .i64, .int .i64, .int .i64, .int .i64, .int .i64, .int .i64, .int .i64, .int .i64, .sl 5, .int .i64, .int .i64, .int .i64] cs) : ∃ r : StO, cs = r.cells ∧ (LsIn (all W) r.ls r.lv ∧ EnIn (all W) r.en ∧ EnSz r.en.c) := by
  obtain _ | ⟨⟨x0, rfl, _⟩, h⟩ := h
  obtain _ | ⟨⟨x1, rfl, _⟩, h⟩ := h
  obtain _ | ⟨⟨x2, rfl, _⟩, h⟩ := h
  obtain _ | ⟨hl, h⟩ := h
  obtain ⟨xs, hxi, hxw, _, hxb⟩ := slInG_rows (C := SlR.cells) (Wf := fun x => EnIn (all W) x.en ∧ EnSz x.en.c) (herR Tryz.prog) hl rfl rfl (by decide +kernel) (fun cs hcs => slr_of hcs) (fun _ => rfl)
  obtain ⟨la, lc, rfl, _⟩ := id hxi
  obtain _ | ⟨⟨x4, rfl, _⟩, h⟩ := h
  obtain _ | ⟨⟨x5, rfl, _⟩, h⟩ := h
  obtain _ | ⟨⟨x6, rfl, _⟩, h⟩ := h
  obtain _ | ⟨⟨x7, rfl, _⟩, h⟩ := h
  obtain _ | ⟨⟨x8, rfl, _⟩, h⟩ := h
  obtain _ | ⟨⟨x9, rfl, _⟩, h⟩ := h
  obtain _ | ⟨⟨x10, rfl, _⟩, h⟩ := h
  obtain _ | ⟨⟨x11, rfl, _⟩, h⟩ := h
  obtain _ | ⟨⟨x12, rfl, _⟩, h⟩ := h
  obtain _ | ⟨⟨x13, rfl, _⟩, h⟩ := h
  obtain _ | ⟨⟨x14, rfl, _⟩, h⟩ := h
  obtain _ | ⟨⟨x15, rfl, _⟩, h⟩ := h
  obtain _ | ⟨⟨x16, rfl, _⟩, h⟩ := h
  obtain _ | ⟨ho, h⟩ := h
  obtain ⟨os, hio, _, _, hbo⟩ := slInG_rows (C := OpC.cells) (Wf := fun _ => True) (herR Tryz.prog) ho rfl rfl (by decide +kernel) (fun cs hcs => opc_of hcs) (fun _ => rfl)
  obtain ⟨ao, co, rfl, _⟩ := id hio
  obtain _ | ⟨⟨x18, rfl, _⟩, h⟩ := h
  obtain _ | ⟨⟨x19, rfl, _⟩, h⟩ := h
  obtain _ | ⟨⟨x20, rfl, _⟩, h⟩ := h
  obtain _ | ⟨⟨x21, rfl, _⟩, h⟩ := h
  obtain _ | ⟨⟨x22, rfl, _⟩, h⟩ := h
  obtain _ | ⟨⟨x23, rfl, _⟩, h⟩ := h
  obtain _ | ⟨⟨x24, rfl, _⟩, h⟩ := h
  obtain _ | ⟨⟨x25, rfl, _⟩, h⟩ := h
  obtain _ | ⟨⟨x26, rfl, _⟩, h⟩ := h
  obtain _ | ⟨⟨x27, rfl, _⟩, h⟩ := h
  obtain _ | ⟨⟨x28, rfl, _⟩, h⟩ := h
  obtain _ | ⟨⟨x29, rfl, _⟩, h⟩ := h
  obtain _ | ⟨⟨x30, rfl, _⟩, h⟩ := h
  obtain _ | ⟨⟨x31, rfl, _⟩, h⟩ := h
  obtain _ | ⟨⟨x32, rfl, _⟩, h⟩ := h
  obtain _ | ⟨⟨x33, rfl, _⟩, h⟩ := h
  obtain _ | ⟨⟨x34, rfl, _⟩, h⟩ := h
  obtain _ | ⟨⟨x35, rfl, _⟩, h⟩ := h
  obtain _ | ⟨⟨x36, rfl, _⟩, h⟩ := h
  obtain _ | ⟨⟨x37, rfl, _⟩, h⟩ := h
  obtain _ | ⟨⟨x38, rfl, _⟩, h⟩ := h
  obtain _ | ⟨⟨x39, rfl, _⟩, h⟩ := h
  obtain _ | ⟨⟨x40, rfl, _⟩, h⟩ := h
  obtain _ | ⟨⟨x41, rfl, _⟩, h⟩ := h
  obtain _ | ⟨⟨x42, rfl, _⟩, h⟩ := h
  obtain _ | ⟨⟨x43, rfl, _⟩, h⟩ := h
  obtain _ | ⟨⟨x44, rfl, _⟩, h⟩ := h
  obtain _ | ⟨⟨x45, rfl, _⟩, h⟩ := h
  obtain _ | ⟨⟨x46, rfl, _⟩, h⟩ := h
  obtain _ | ⟨⟨x47, rfl, _⟩, h⟩ := h
  obtain _ | ⟨⟨x48, rfl, _⟩, h⟩ := h
  obtain _ | ⟨⟨x49, rfl, _⟩, h⟩ := h
  obtain _ | ⟨⟨x50, rfl, _⟩, h⟩ := h
  obtain _ | ⟨⟨x51, rfl, _⟩, h⟩ := h
  obtain _ | ⟨⟨x52, rfl, _⟩, h⟩ := h
  obtain _ | ⟨⟨x53, rfl, _⟩, h⟩ := h
  obtain _ | ⟨⟨x54, rfl, _⟩, h⟩ := h
  obtain _ | ⟨⟨x55, rfl, _⟩, h⟩ := h
  obtain _ | ⟨hd, h⟩ := h
  obtain ⟨bs, ad, cd, rfl, hid, _, hbd⟩ := slInG_bytes (herR Tryz.prog) hd rfl rfl (by decide +kernel)
  obtain _ | ⟨⟨x57, rfl, _⟩, h⟩ := h
  obtain _ | ⟨⟨x58, rfl, _⟩, h⟩ := h
  obtain _ | ⟨⟨x59, rfl, _⟩, h⟩ := h
  cases h
  have hlo : (os.map OpC.cells).length = os.length := List.length_map _
  have hE : EnIn (all W) (EnR.mk ⟨x4, x5, x6, ⟨x7, x8, x9, x10, x11, x12, x13, x14⟩, x15, x16, os, x18, (fun i => match i with | 0 => x19 | 1 => x20 | 2 => x21 | 3 => x22 | 4 => x23 | 5 => x24 | 6 => x25 | _ => x26), (fun i => match i with | 0 => x27 | 1 => x28 | 2 => x29 | 3 => x30 | 4 => x31 | 5 => x32 | 6 => x33 | _ => x34), (fun i => match i with | 0 => x35 | 1 => x36 | 2 => x37 | 3 => x38 | 4 => x39 | 5 => x40 | 6 => x41 | _ => x42), x43, (fun i => match i with | 0 => x44 | 1 => x45 | 2 => x46 | 3 => x47 | 4 => x48 | 5 => x49 | 6 => x50 | _ => x51), x52, x53, x54, x55, bs, x57, x58, x59⟩ ao co ad cd) := ⟨by show InSl _ 8 _ (.slice ao os.length co); rw [← hlo]; exact hio, hid⟩
  have hZ : EnSz ((EnR.mk ⟨x4, x5, x6, ⟨x7, x8, x9, x10, x11, x12, x13, x14⟩, x15, x16, os, x18, (fun i => match i with | 0 => x19 | 1 => x20 | 2 => x21 | 3 => x22 | 4 => x23 | 5 => x24 | 6 => x25 | _ => x26), (fun i => match i with | 0 => x27 | 1 => x28 | 2 => x29 | 3 => x30 | 4 => x31 | 5 => x32 | 6 => x33 | _ => x34), (fun i => match i with | 0 => x35 | 1 => x36 | 2 => x37 | 3 => x38 | 4 => x39 | 5 => x40 | 6 => x41 | _ => x42), x43, (fun i => match i with | 0 => x44 | 1 => x45 | 2 => x46 | 3 => x47 | 4 => x48 | 5 => x49 | 6 => x50 | _ => x51), x52, x53, x54, x55, bs, x57, x58, x59⟩ ao co ad cd)).c := by
    refine ⟨?_, ?_⟩
    · unfold bdR at hbo
      rw [by39] at hbo
      have := reachBytes_lt
      show os.length * 88 ≤ _
      omega
    · unfold bdR at hbd
      rw [show Tryz.prog.bytesOf 5 = 1 from by kernel_rfl, Nat.mul_one] at hbd
      have := reachBytes_lt
      show bs.length ≤ _
      omega
  exact ⟨⟨x0, x1, x2, la, (xs.map SlR.cells).length, lc, xs, (EnR.mk ⟨x4, x5, x6, ⟨x7, x8, x9, x10, x11, x12, x13, x14⟩, x15, x16, os, x18, (fun i => match i with | 0 => x19 | 1 => x20 | 2 => x21 | 3 => x22 | 4 => x23 | 5 => x24 | 6 => x25 | _ => x26), (fun i => match i with | 0 => x27 | 1 => x28 | 2 => x29 | 3 => x30 | 4 => x31 | 5 => x32 | 6 => x33 | _ => x34), (fun i => match i with | 0 => x35 | 1 => x36 | 2 => x37 | 3 => x38 | 4 => x39 | 5 => x40 | 6 => x41 | _ => x42), x43, (fun i => match i with | 0 => x44 | 1 => x45 | 2 => x46 | 3 => x47 | 4 => x48 | 5 => x49 | 6 => x50 | _ => x51), x52, x53, x54, x55, bs, x57, x58, x59⟩ ao co ad cd)⟩, by rw [hlo]; rfl, ⟨hxi, hxw, by show xs.length ≤ _; have h9 := hxb; unfold bdR at h9; rw [show Tryz.prog.bytesOf 73 = 528 from by kernel_rfl] at h9; have := reachBytes_lt; omega⟩, hE, hZ⟩
theorem str_of {H : Type} {enc : TypeId × Value → H} {W : World} {G : TypeId → DataW H → Prop} {Bd : TypeId → Nat → Prop} {cs : List Value} (h : All2 (LKg enc Tryz.prog W G Bd) [.int .i64, .int .i64, .int .i64, .int .i64] cs) : ∃ r : StR, cs = r.cells ∧ True := by
  obtain _ | ⟨⟨a, rfl, _⟩, h⟩ := h
  obtain _ | ⟨⟨b, rfl, _⟩, h⟩ := h
  obtain _ | ⟨⟨c, rfl, _⟩, h⟩ := h
  obtain _ | ⟨⟨d, rfl, _⟩, h⟩ := h
  cases h
  exact ⟨⟨⟨a, b⟩, c, d⟩, rfl, trivial⟩

set_option maxRecDepth 100000 in
theorem liftedYDoes (os : Os) (started : os.Started) (H : Type) (enc : TypeId × Value → H) :
    ReturnsInHanded {} Tryz.checked os 3 .any (Rows.proposerDoesSpec.pre6 enc Tryz.prog Tryz.f3 Rows.proposerDoesRow.domain false) (Rows.proposerDoesSpec.post enc Tryz.prog Tryz.f3 false true false false) := by
  refine returnsInHanded_of_change_sized (C := Tryz.checked) ownYDoes started (by kernel_rfl) Tryz.func3
    (ChangeSpec.witness6 (enc := enc) (C := Tryz.checked) false ⟨#[], #[.agg #[.int .i64 0, .int .i64 0, .int .i64 0, .int .i64 0], .slice none 0 0], []⟩ 8 (by kernel_rfl) (by kernel_rfl) (by kernel_rfl) (by kernel_rfl)) ?_
  intro W base args ds gs before hval0 hW hcnd hk _
  have hval : ∀ (j : Nat) t v, Tryz.f3.params[j]? = some t → args[j]? = some v → Value.okWide Tryz.prog W .any base t v := hval0
  have hW' := hW
  obtain ⟨p, q, hA0, hV, rfl, hfz, hnd⟩ := hW
  have hA : DataW.TrodAll enc Tryz.prog W 0 (fun _ => true) true Tryz.f3.params.toList args.toList ds p := hA0
  have hp : Tryz.f3.params.toList = [25, 26] := rfl
  rw [hp] at hA
  obtain ⟨v0, vs0, d0, ds0, p0, q0, hargs, rfl, rfl, h0, r0⟩ := trodAll_cons hA
  obtain ⟨v1, vs1, d1, ds1, p1, q1, rfl, rfl, rfl, h1, r1⟩ := trodAll_cons r0
  obtain ⟨rfl, rfl, rfl⟩ := trodAll_nil r1
  obtain rfl : args = #[v0, v1] := by cases args; simp_all
  obtain ⟨rfl, rfl⟩ := trodVars_none hV
  have k0 := h0
  have lt0 : ∀ x ∈ p0, x.block < W.heap.size := by obtain ⟨m, hm⟩ := k0; exact DataW.trod_lt m _ _ _ hm
  have k1 := h1
  have lt1 : ∀ x ∈ p1, x.block < W.heap.size := by obtain ⟨m, hm⟩ := k1; exact DataW.trod_lt m _ _ _ hm
  have g0 : gR Tryz.prog 25 d0 := gR_at hk (j := 0) rfl rfl
  have g1 : gR Tryz.prog 26 d1 := gR_at hk (j := 1) rfl rfl
  obtain ⟨cs0, rfl, hcs0⟩ := okWide_struct rfl (hval 0 25 v0 rfl rfl)
  obtain ⟨x0, hx0, wf0⟩ : ∃ x : StR, cs0 = (StR.cells x).toArray ∧ (fun _ => True) x := by
    obtain ⟨fuel, hf⟩ := h0
    obtain ⟨r, hr, hw⟩ := str_of (trodG_kinds (herR Tryz.prog) 8 25 _ fuel _ _ rfl rfl hf g0)
    exact ⟨r, by rw [← hr]; simp [Value.cells], hw⟩
  subst hx0
  obtain ⟨xs1, hin1, wf1, ln1, bd1⟩ : ∃ xs : List StO, InSl (all W) 60 (xs.map StO.cells) v1 ∧ (∀ x ∈ xs, (fun x => LsIn (all W) x.ls x.lv ∧ EnIn (all W) x.en ∧ EnSz x.en.c) x) ∧ xs.length ≤ maxLen ∧ (bdR Tryz.prog) _ xs.length := by
    obtain ⟨aa, len, cap, rfl⟩ := okWide_slice rfl (hval 1 26 v1 rfl rfl)
    obtain ⟨fuel, hf⟩ := h1
    cases trodG_kinds (herR Tryz.prog) 4 26 _ fuel _ _ rfl rfl hf g1 with
    | cons h1 _ => exact slInG_rows (C := StO.cells) (Wf := (fun x => LsIn (all W) x.ls x.lv ∧ EnIn (all W) x.en ∧ EnSz x.en.c)) (herR Tryz.prog) h1 rfl rfl (by decide +kernel) (fun cs hcs => sto_of hcs) (fun _ => rfl)
  clear hA0 hval0
  refine (law_true (does8_law W (st := x0) hin1 wf1 (by have h9 := bd1; unfold bdR at h9; rw [show Tryz.prog.bytesOf 53 = 552 from by kernel_rfl] at h9; have := reachBytes_lt; omega) ⟨rfl, rfl⟩)).mono fun e W' ⟨he, bel⟩ => ?_
  subst he
  exact ⟨_, rfl, _, _, _, [], _, [], hW', trodAll_mk1 (shut_bool rfl _), (trodAll_cons_mk (Below.trod laidOutYDoes (by kernel_rfl) (of_decide_eq_true (by kernel_rfl)) k0 bel lt0) (trodAll_cons_mk (Below.trod laidOutYDoes (by kernel_rfl) (of_decide_eq_true (by kernel_rfl)) k1 bel lt1) trodAll_mk0)), rfl, bel.frame _, fun h => by cases h⟩

theorem provedYDoes : Rows.ProposerDoesSaid :=
  OpenClaim.holds_of_wide 3 Tryz.f3 rfl rfl rfl rfl rfl rfl rfl ⟨rfl, rfl, rfl, rfl, rfl⟩ rfl rfl rfl rfl rfl (by kernel_rfl) Tryz.func3 (by kernel_rfl)
    (of_decide_eq_true (by kernel_rfl)) (by unfold Func.isWrapper; first | (rw [if_pos (by decide +kernel)]; kernel_rfl) | (rw [if_neg (by decide +kernel)]; exact ⟨rfl, rfl⟩))
    (fun os started H enc _ => liftedYDoes os started H enc)
#print axioms provedYDoes
end Go.Proofs.YtpegidbkplgplaaGreat
