/-
  PROVED HERE: 'Rows.DiskDoesUptoSaid': whatever the input, DiskDoes returns true and its input reads afterwards as it read before. The inputs are of bulk at most 1048576.
-/
import Derived.Test.YtkamfmdonhaikaaQ4
import Derived.Test.YtkamfmdonhaikaaVi
import Derived.Test.YtkamfmdonhaikaaRows
import Derived.JoinedCond
import Derived.Deep.CondSized
namespace Go.Proofs.Ytkamfmdonhaikaa
open Go.ChangeShapes Go.WideShapes Go.ChangeAt Go.RowKit Go.Vl

theorem ownDoesD : ownKnob Try.prog.godebug = none := by kernel_rfl
theorem laidOutDoesD : laidOutB Try.prog = true := by kernel_rfl
/- what the bound gives -/
theorem bulk_one {H : Type} (d : DataW H) : 1 ≤ Rows.uptoBulk d := by
  cases d with
  | lit l => cases l <;> simp [Rows.uptoBulk]
  | nil => simp [Rows.uptoBulk]
  | ptr d => simp [Rows.uptoBulk]
  | slice elems spare => simp [Rows.uptoBulk]
  | agg parts => simp [Rows.uptoBulk]
  | iface t d => simp [Rows.uptoBulk]
  | map entries => simp [Rows.uptoBulk]
  | held h => simp [Rows.uptoBulk]
theorem bulk_part {H : Type} {d : DataW H} {l : List (DataW H)} (h : d ∈ l) : Rows.uptoBulk d ≤ Rows.uptoBulkAll l := by
  induction l with
  | nil => cases h
  | cons x r ih =>
    simp only [Rows.uptoBulkAll]
    cases List.mem_cons.1 h with
    | inl e => subst e; omega
    | inr e => have := ih e; omega
theorem bulk_len {H : Type} (l : List (DataW H)) : l.length ≤ Rows.uptoBulkAll l := by
  induction l with
  | nil => simp [Rows.uptoBulkAll]
  | cons x r ih => have := bulk_one x; simp only [Rows.uptoBulkAll, List.length_cons]; omega
def gU {H : Type} (_ : TypeId) (d : DataW H) : Prop := Rows.uptoBulk d ≤ 1048576
def bdU (_ : TypeId) (n : Nat) : Prop := n ≤ 1048576
theorem herU {H : Type} (P : Program) : Her P (gU (H := H)) bdU where
  str t fs ps i f p _ hg _ hp := by
    have h1 := bulk_part (List.mem_of_getElem? hp)
    simp only [gU, Rows.uptoBulk] at hg ⊢
    omega
  arr t m e ps p _ hg hp := by
    have h1 := bulk_part hp
    simp only [gU, Rows.uptoBulk] at hg ⊢
    omega
  sl t e es ss _ hg := by
    simp only [gU, Rows.uptoBulk] at hg
    refine ⟨fun p hp => ?_, fun p hp => ?_, ?_⟩
    · have h1 := bulk_part hp
      simp only [gU]; omega
    · have h1 := bulk_part hp
      simp only [gU]; omega
    · have h1 := bulk_len es
      have h2 := bulk_len ss
      simp only [bdU]; omega
  mono e n m h hm := Nat.le_trans hm h
  zero e := Nat.zero_le _
set_option maxRecDepth 100000 in
theorem i64_of {n : Int} (h : (Lit.int .i64 n).wf = true) : -9223372036854775808 ≤ n ∧ n ≤ 9223372036854775807 := by
  have h1 : IntKind.i64.min = -9223372036854775808 := rfl
  have h2 : IntKind.i64.max = 9223372036854775807 := rfl
  simp [Lit.wf] at h
  omega
set_option maxRecDepth 100000 in
theorem opd_of {H : Type} {enc : TypeId × Value → H} {W : World} {G : TypeId → DataW H → Prop} {Bd : TypeId → Nat → Prop} (hG : Her Try.prog G Bd) {cs : List Value} (h : All2 (LKg enc Try.prog W G Bd) [.int .i64, .str, .str, .sl 5, .int .i64, .int .i64] cs) : ∃ r : OpD, cs = r.cells ∧ (OpK (all W) r ∧ Bd 5 r.bs.length) := by
  obtain _ | ⟨⟨a, rfl, _⟩, h⟩ := h
  obtain _ | ⟨⟨b, rfl, _⟩, h⟩ := h
  obtain _ | ⟨⟨c, rfl, _⟩, h⟩ := h
  obtain _ | ⟨hd, h⟩ := h
  obtain _ | ⟨⟨f, rfl, hf⟩, h⟩ := h
  obtain _ | ⟨⟨g, rfl, hg⟩, h⟩ := h
  cases h
  obtain ⟨bs, ad, cp, rfl, hin, hl, hbd⟩ := slInG_bytes hG hd rfl rfl (by decide +kernel)
  exact ⟨⟨a, b, c, ad, cp, bs, f, g⟩, rfl, ⟨⟨hin, hl, (i64_of hf).2⟩, (i64_of hg).2⟩, hbd⟩

set_option maxRecDepth 100000 in
theorem liftedDoesD (os : Os) (started : os.Started) (H : Type) (enc : TypeId × Value → H) (F : Stop.Interp) :
    ReturnsInHanded {} Try.checked os 7 .any ((Rows.OpenSpec.upto Rows.diskDoesSpec).pre6 enc Try.prog Try.f7 Rows.diskDoesUptoRow.domain false) (((Rows.OpenSpec.upto Rows.diskDoesSpec).at F).post enc Try.prog Try.f7 false true false false) := by
  refine returnsInHanded_of_cond (C := Try.checked) (s := Rows.OpenSpec.upto Rows.diskDoesSpec) (k := Rows.uptoSmall) rfl ownDoesD started (by kernel_rfl) Try.func7
    (OpenSpec.witness (enc := enc) (C := Try.checked) (s := Rows.OpenSpec.upto Rows.diskDoesSpec) (k := Rows.uptoSmall) rfl false ⟨#[], #[.int .i64 0, .slice none 0 0], []⟩ 8 (by kernel_rfl) (by kernel_rfl) (by kernel_rfl)
      (x := ([.lit (.int .i64 0), .nil], [], [])) (by kernel_rfl) rfl (by kernel_rfl)) ?_
  intro W base args ds gs before hval0 hW hcnd hk _
  have hval : ∀ (j : Nat) t v, Try.f7.params[j]? = some t → args[j]? = some v → Value.okWide Try.prog W .any base t v := hval0
  have hW' := hW
  obtain ⟨p, q, hA0, hV, rfl, hfz, hnd⟩ := hW
  have hA : DataW.TrodAll enc Try.prog W 0 (fun _ => true) true Try.f7.params.toList args.toList ds p := hA0
  have hp : Try.f7.params.toList = [3, 23] := rfl
  rw [hp] at hA
  obtain ⟨v0, vs0, d0, ds0, p0, q0, hargs, rfl, rfl, h0, r0⟩ := trodAll_cons hA
  obtain ⟨v1, vs1, d1, ds1, p1, q1, rfl, rfl, rfl, h1, r1⟩ := trodAll_cons r0
  obtain ⟨rfl, rfl, rfl⟩ := trodAll_nil r1
  obtain rfl : args = #[v0, v1] := by cases args; simp_all
  obtain ⟨rfl, rfl⟩ := trodVars_none hV
  have k0 := h0
  have lt0 : ∀ x ∈ p0, x.block < W.heap.size := by obtain ⟨m, hm⟩ := k0; exact DataW.trod_lt m _ _ _ hm
  have k1 := h1
  have lt1 : ∀ x ∈ p1, x.block < W.heap.size := by obtain ⟨m, hm⟩ := k1; exact DataW.trod_lt m _ _ _ hm
  have hbulk : Rows.uptoBulkAll [d0, d1] ≤ 1048576 := by
    simp only [List.append_nil] at hk
    exact of_decide_eq_true hk
  simp only [Rows.uptoBulkAll] at hbulk
  have g0 : gU 3 d0 := by simp only [gU]; omega
  have g1 : gU 23 d1 := by simp only [gU]; omega
  obtain ⟨a0, rfl, rfl, rfl, w0⟩ := open_int (k := .i64) rfl (hval 0 3 v0 rfl rfl) h0
  obtain ⟨xs1, hin1, wf1, ln1, bd1⟩ : ∃ xs : List OpD, InSl (all W) 6 (xs.map OpD.cells) v1 ∧ (∀ x ∈ xs, (fun r => OpK (all W) r ∧ bdU 5 r.bs.length) x) ∧ xs.length ≤ maxLen ∧ bdU _ xs.length := by
    obtain ⟨aa, len, cap, rfl⟩ := okWide_slice rfl (hval 1 23 v1 rfl rfl)
    obtain ⟨fuel, hf⟩ := h1
    cases trodG_kinds (herU Try.prog) 4 23 _ fuel _ _ rfl rfl hf g1 with
    | cons h1 _ => exact slInG_rows (C := OpD.cells) (Wf := (fun r => OpK (all W) r ∧ bdU 5 r.bs.length)) (herU Try.prog) h1 rfl rfl (by decide +kernel) (fun cs hcs => opd_of (herU Try.prog) hcs) (fun _ => rfl)
  clear hA0 hval0
  refine (law_true (does_law W (i64_of w0).2 hin1 (fun o h => (wf1 o h).1) (c := 1048576) (Nat.le_trans (Nat.mul_le_mul_right _ bd1) (by decide)) (by decide) (Nat.le_trans ln1 (by decide)) (fun o h => (wf1 o h).2) ⟨rfl, rfl⟩)).mono fun e W' ⟨he, bel⟩ => ?_
  subst he
  exact ⟨_, rfl, _, _, _, [], _, [], hW', trodAll_mk1 (shut_bool rfl _), (trodAll_cons_mk (Below.trod laidOutDoesD (by kernel_rfl) (of_decide_eq_true (by kernel_rfl)) k0 bel lt0) (trodAll_cons_mk (Below.trod laidOutDoesD (by kernel_rfl) (of_decide_eq_true (by kernel_rfl)) k1 bel lt1) trodAll_mk0)), rfl, bel.frame _, fun h => by cases h⟩

theorem provedDoesD : Rows.DiskDoesUptoSaid :=
  OpenClaim.holds_of_cond 7 Try.f7 rfl rfl rfl rfl rfl rfl rfl ⟨rfl, rfl, rfl, rfl, rfl⟩ rfl rfl rfl rfl rfl (by kernel_rfl) Try.func7 (by kernel_rfl)
    (of_decide_eq_true (by kernel_rfl)) (by unfold Func.isWrapper; first | (rw [if_pos (by decide +kernel)]; kernel_rfl) | (rw [if_neg (by decide +kernel)]; exact ⟨rfl, rfl⟩))
    (fun os started H enc _ F => liftedDoesD os started H enc F)
#print axioms provedDoesD
end Go.Proofs.Ytkamfmdonhaikaa
