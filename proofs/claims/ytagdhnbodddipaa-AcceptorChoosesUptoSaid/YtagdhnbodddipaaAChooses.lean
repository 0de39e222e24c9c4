/-
  PROVED HERE: 'Rows.AcceptorChoosesUptoSaid': whatever the input, AcceptorChooses returns true and its input reads afterwards as it read before. The inputs are of bulk at most 1048576.
-/
import Derived.Test.YtagdhnbodddipaaCR
import Derived.Test.YtagdhnbodddipaaVi
import Derived.Test.YtagdhnbodddipaaRows
import Derived.JoinedCond
import Derived.Deep.CondSized
namespace Go.Proofs.Ytagdhnbodddipaa
open Go.ChangeShapes Go.WideShapes Go.ChangeAt Go.RowKit Go.Vl

theorem ownAChooses : ownKnob Try.prog.godebug = none := by kernel_rfl
theorem laidOutAChooses : laidOutB Try.prog = true := by kernel_rfl
/- what the bound gives -/
theorem bulk_one {H : Type} (d : DataW H) : 1 ≤ Rows.uptoBulk d := by
  cases d with
  | lit l => cases l <;> simp [Rows.uptoBulk]
  | nil => simp [Rows.uptoBulk]
  | ptr d => simp [Rows.uptoBulk]
  | slice elems spare => simp [Rows.uptoBulk]
  | agg parts => simp [Rows.uptoBulk]
  | iface t d => simp [Rows.uptoBulk]
  | map entries => simp [Rows.uptoBulk]
  | held h => simp [Rows.uptoBulk]
theorem bulk_part {H : Type} {d : DataW H} {l : List (DataW H)} (h : d ∈ l) : Rows.uptoBulk d ≤ Rows.uptoBulkAll l := by
  induction l with
  | nil => cases h
  | cons x r ih =>
    simp only [Rows.uptoBulkAll]
    cases List.mem_cons.1 h with
    | inl e => subst e; omega
    | inr e => have := ih e; omega
theorem bulk_len {H : Type} (l : List (DataW H)) : l.length ≤ Rows.uptoBulkAll l := by
  induction l with
  | nil => simp [Rows.uptoBulkAll]
  | cons x r ih => have := bulk_one x; simp only [Rows.uptoBulkAll, List.length_cons]; omega
def gU {H : Type} (_ : TypeId) (d : DataW H) : Prop := Rows.uptoBulk d ≤ 1048576
def bdU (_ : TypeId) (n : Nat) : Prop := n ≤ 1048576
theorem herU {H : Type} (P : Program) : Her P (gU (H := H)) bdU where
  str t fs ps i f p _ hg _ hp := by
    have h1 := bulk_part (List.mem_of_getElem? hp)
    simp only [gU, Rows.uptoBulk] at hg ⊢
    omega
  arr t m e ps p _ hg hp := by
    have h1 := bulk_part hp
    simp only [gU, Rows.uptoBulk] at hg ⊢
    omega
  sl t e es ss _ hg := by
    simp only [gU, Rows.uptoBulk] at hg
    refine ⟨fun p hp => ?_, fun p hp => ?_, ?_⟩
    · have h1 := bulk_part hp
      simp only [gU]; omega
    · have h1 := bulk_part hp
      simp only [gU]; omega
    · have h1 := bulk_len es
      have h2 := bulk_len ss
      simp only [bdU]; omega
  mono e n m h hm := Nat.le_trans hm h
  zero e := Nat.zero_le _
set_option maxRecDepth 100000 in
theorem bools_of {H : Type} {enc : TypeId × Value → H} {W : World} {G : TypeId → DataW H → Prop} {Bd : TypeId → Nat → Prop} (hG : Her Try.prog G Bd) {v : Value} (h : SlInG enc Try.prog W G Bd 4 v) : ∃ (a : Option Addr) (c : Nat) (bs : List Bool), v = .slice a bs.length c ∧ InSl (all W) 1 (bs.map boC) v := by
  obtain ⟨bs, hin, _, _, _⟩ := slInG_rows (C := boC) (Wf := fun _ => True) hG h rfl rfl (by decide +kernel) (fun cs hcs => by
    obtain _ | ⟨⟨b, rfl⟩, hcs⟩ := hcs
    cases hcs
    exact ⟨b, rfl, trivial⟩) (fun _ => rfl)
  have hin1 : InSl (all W) 1 (bs.map boC) v := hin
  obtain ⟨a, c, rfl, _⟩ := id hin1
  have hl : (bs.map boC).length = bs.length := List.length_map _
  rw [hl] at hin1 ⊢
  exact ⟨a, c, bs, rfl, hin1⟩
set_option maxRecDepth 100000 in
theorem ldr_of {H : Type} {enc : TypeId × Value → H} {W : World} {G : TypeId → DataW H → Prop} {Bd : TypeId → Nat → Prop} (hG : Her Try.prog G Bd) {cs : List Value} (h : All2 (LKg enc Try.prog W G Bd) [.int .i64, .sl 4, .sl 4, .int .i64] cs) : ∃ r : LdR, cs = r.cells ∧ LdOK (all W) r := by
  obtain _ | ⟨⟨a, rfl, _⟩, h⟩ := h
  obtain _ | ⟨hp, h⟩ := h
  obtain _ | ⟨hq, h⟩ := h
  obtain _ | ⟨⟨e, rfl, _⟩, h⟩ := h
  cases h
  obtain ⟨pa, pc, ps, rfl, h1⟩ := bools_of hG hp
  obtain ⟨qa, qc, qs, rfl, h2⟩ := bools_of hG hq
  exact ⟨⟨a, pa, pc, ps, qa, qc, qs, e⟩, rfl, h1, h2⟩

set_option maxRecDepth 100000 in
theorem liftedAChooses (os : Os) (started : os.Started) (H : Type) (enc : TypeId × Value → H) (F : Stop.Interp) :
    ReturnsInHanded {} Try.checked os 4 .any ((Rows.OpenSpec.upto Rows.acceptorChoosesSpec).pre6 enc Try.prog Try.f4 Rows.acceptorChoosesUptoRow.domain false) (((Rows.OpenSpec.upto Rows.acceptorChoosesSpec).at F).post enc Try.prog Try.f4 false true false false) := by
  refine returnsInHanded_of_cond (C := Try.checked) (s := Rows.OpenSpec.upto Rows.acceptorChoosesSpec) (k := Rows.uptoSmall) rfl ownAChooses started (by kernel_rfl) Try.func4
    (OpenSpec.witness (enc := enc) (C := Try.checked) (s := Rows.OpenSpec.upto Rows.acceptorChoosesSpec) (k := Rows.uptoSmall) rfl false ⟨#[], #[.int .u8 0, .slice none 0 0], []⟩ 8 (by kernel_rfl) (by kernel_rfl) (by kernel_rfl)
      (x := ([.lit (.int .u8 0), .nil], [], [])) (by kernel_rfl) rfl (by kernel_rfl)) ?_
  intro W base args ds gs before hval0 hW hcnd hk _
  have hval : ∀ (j : Nat) t v, Try.f4.params[j]? = some t → args[j]? = some v → Value.okWide Try.prog W .any base t v := hval0
  have hW' := hW
  obtain ⟨p, q, hA0, hV, rfl, hfz, hnd⟩ := hW
  have hA : DataW.TrodAll enc Try.prog W 0 (fun _ => true) true Try.f4.params.toList args.toList ds p := hA0
  have hp : Try.f4.params.toList = [5, 28] := rfl
  rw [hp] at hA
  obtain ⟨v0, vs0, d0, ds0, p0, q0, hargs, rfl, rfl, h0, r0⟩ := trodAll_cons hA
  obtain ⟨v1, vs1, d1, ds1, p1, q1, rfl, rfl, rfl, h1, r1⟩ := trodAll_cons r0
  obtain ⟨rfl, rfl, rfl⟩ := trodAll_nil r1
  obtain rfl : args = #[v0, v1] := by cases args; simp_all
  obtain ⟨rfl, rfl⟩ := trodVars_none hV
  have k0 := h0
  have lt0 : ∀ x ∈ p0, x.block < W.heap.size := by obtain ⟨m, hm⟩ := k0; exact DataW.trod_lt m _ _ _ hm
  have k1 := h1
  have lt1 : ∀ x ∈ p1, x.block < W.heap.size := by obtain ⟨m, hm⟩ := k1; exact DataW.trod_lt m _ _ _ hm
  have hbulk : Rows.uptoBulkAll [d0, d1] ≤ 1048576 := by
    simp only [List.append_nil] at hk
    exact of_decide_eq_true hk
  simp only [Rows.uptoBulkAll] at hbulk
  have g0 : gU 5 d0 := by simp only [gU]; omega
  have g1 : gU 28 d1 := by simp only [gU]; omega
  obtain ⟨z0, rfl, rfl, rfl, w0⟩ := open_int (k := .u8) rfl (hval 0 5 v0 rfl rfl) h0
  obtain ⟨a0, rfl, lt80⟩ : ∃ a : Nat, z0 = (a : Int) ∧ a < 256 := by
    have h1 : IntKind.u8.min = 0 := rfl
    have h2 : IntKind.u8.max = 255 := rfl
    simp [Lit.wf] at w0
    exact ⟨z0.toNat, by omega, by omega⟩
  obtain ⟨xs1, hin1, wf1, ln1, bd1⟩ : ∃ xs : List LdR, InSl (all W) 4 (xs.map LdR.cells) v1 ∧ (∀ x ∈ xs, LdOK (all W) x) ∧ xs.length ≤ maxLen ∧ bdU _ xs.length := by
    obtain ⟨aa, len, cap, rfl⟩ := okWide_slice rfl (hval 1 28 v1 rfl rfl)
    obtain ⟨fuel, hf⟩ := h1
    cases trodG_kinds (herU Try.prog) 4 28 _ fuel _ _ rfl rfl hf g1 with
    | cons h1 _ => exact slInG_rows (C := LdR.cells) (Wf := LdOK (all W)) (herU Try.prog) h1 rfl rfl (by decide +kernel) (fun cs hcs => ldr_of (herU Try.prog) hcs) (fun _ => rfl)
  clear hA0 hval0
  refine (law_true (chooses_law W lt80 hin1 (Nat.le_trans bd1 (by decide)) (Nat.le_trans (Nat.mul_le_mul_right _ bd1) (by decide)) wf1 ⟨rfl, rfl⟩)).mono fun e W' ⟨he, bel⟩ => ?_
  subst he
  exact ⟨_, rfl, _, _, _, [], _, [], hW', trodAll_mk1 (shut_bool rfl _), (trodAll_cons_mk (Below.trod laidOutAChooses (by kernel_rfl) (of_decide_eq_true (by kernel_rfl)) k0 bel lt0) (trodAll_cons_mk (Below.trod laidOutAChooses (by kernel_rfl) (of_decide_eq_true (by kernel_rfl)) k1 bel lt1) trodAll_mk0)), rfl, bel.frame _, fun h => by cases h⟩

theorem provedAChooses : Rows.AcceptorChoosesUptoSaid :=
  OpenClaim.holds_of_cond 4 Try.f4 rfl rfl rfl rfl rfl rfl rfl ⟨rfl, rfl, rfl, rfl, rfl⟩ rfl rfl rfl rfl rfl (by kernel_rfl) Try.func4 (by kernel_rfl)
    (of_decide_eq_true (by kernel_rfl)) (by unfold Func.isWrapper; first | (rw [if_pos (by decide +kernel)]; kernel_rfl) | (rw [if_neg (by decide +kernel)]; exact ⟨rfl, rfl⟩))
    (fun os started H enc _ F => liftedAChooses os started H enc F)
#print axioms provedAChooses
end Go.Proofs.Ytagdhnbodddipaa
