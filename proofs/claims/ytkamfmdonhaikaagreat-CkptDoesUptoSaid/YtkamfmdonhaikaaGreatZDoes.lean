/-
  PROVED HERE: 'Rows.CkptDoesUptoSaid': whatever the input, CkptDoes returns true and its input reads afterwards as it read before. The inputs are of bulk at most 1048576.
-/
import Derived.Test.YtkamfmdonhaikaaGreatZ4
import Derived.Test.YtkamfmdonhaikaaGreatVi
import Derived.Test.YtkamfmdonhaikaaGreatRows
import Derived.JoinedCond
import Derived.Deep.CondSized
namespace Go.Proofs.YtkamfmdonhaikaaGreat
open Go.ChangeShapes Go.WideShapes Go.ChangeAt Go.RowKit Go.Vl

theorem ownZDoes : ownKnob Tryz.prog.godebug = none := by kernel_rfl
theorem laidOutZDoes : laidOutB Tryz.prog = true := by kernel_rfl
/- what the bound gives -/
theorem bulk_one {H : Type} (d : DataW H) : 1 ≤ Rows.uptoBulk d := by
  cases d with
  | lit l => cases l <;> simp [Rows.uptoBulk]
  | nil => simp [Rows.uptoBulk]
  | ptr d => simp [Rows.uptoBulk]
  | slice elems spare => simp [Rows.uptoBulk]
  | agg parts => simp [Rows.uptoBulk]
  | iface t d => simp [Rows.uptoBulk]
  | map entries => simp [Rows.uptoBulk]
  | held h => simp [Rows.uptoBulk]
theorem bulk_part {H : Type} {d : DataW H} {l : List (DataW H)} (h : d ∈ l) : Rows.uptoBulk d ≤ Rows.uptoBulkAll l := by
  induction l with
  | nil => cases h
  | cons x r ih =>
    simp only [Rows.uptoBulkAll]
    cases List.mem_cons.1 h with
    | inl e => subst e; omega
    | inr e => have := ih e; omega
theorem bulk_len {H : Type} (l : List (DataW H)) : l.length ≤ Rows.uptoBulkAll l := by
  induction l with
  | nil => simp [Rows.uptoBulkAll]
  | cons x r ih => have := bulk_one x; simp only [Rows.uptoBulkAll, List.length_cons]; omega
def gU {H : Type} (_ : TypeId) (d : DataW H) : Prop := Rows.uptoBulk d ≤ 1048576
def bdU (_ : TypeId) (n : Nat) : Prop := n ≤ 1048576
theorem herU {H : Type} (P : Program) : Her P (gU (H := H)) bdU where
  str t fs ps i f p _ hg _ hp := by
    have h1 := bulk_part (List.mem_of_getElem? hp)
    simp only [gU, Rows.uptoBulk] at hg ⊢
    omega
  arr t m e ps p _ hg hp := by
    have h1 := bulk_part hp
    simp only [gU, Rows.uptoBulk] at hg ⊢
    omega
  sl t e es ss _ hg := by
    simp only [gU, Rows.uptoBulk] at hg
    refine ⟨fun p hp => ?_, fun p hp => ?_, ?_⟩
    · have h1 := bulk_part hp
      simp only [gU]; omega
    · have h1 := bulk_part hp
      simp only [gU]; omega
    · have h1 := bulk_len es
      have h2 := bulk_len ss
      simp only [bdU]; omega
  mono e n m h hm := Nat.le_trans hm h
  zero e := Nat.zero_le _
theorem i64_of {n : Int} (h : (Lit.int .i64 n).wf = true) : -9223372036854775808 ≤ n ∧ n ≤ 9223372036854775807 := by
  have h1 : IntKind.i64.min = -9223372036854775808 := rfl
  have h2 : IntKind.i64.max = 9223372036854775807 := rfl
  simp [Lit.wf] at h
  omega
structure OpKW (I : Hp) (o : OpZ) : Prop where
  s : InSl I 1 (o.bs.map byC) o.v
  k : o.k ≤ 9223372036854775807
  kp : o.keep ≤ 9223372036854775807
theorem OpKW.ok {I : Hp} {o : OpZ} (h : OpKW I o) (b : o.bs.length ≤ 1048576) : OpZK I o := ⟨h.s, b, h.k, h.kp⟩
set_option maxRecDepth 100000 in
theorem opz_of {H : Type} {enc : TypeId × Value → H} {W : World} {G : TypeId → DataW H → Prop} {Bd : TypeId → Nat → Prop} (hG : Her Tryz.prog G Bd) {cs : List Value} (h : All2 (LKg enc Tryz.prog W G Bd) [.int .i64, .int .i64, .sl 5, .int .i64, .int .i64, .str] cs) : ∃ r : OpZ, cs = r.cells ∧ (OpKW (all W) r ∧ Bd 5 r.bs.length) := by
  obtain _ | ⟨⟨a, rfl, _⟩, h⟩ := h
  obtain _ | ⟨⟨b, rfl, _⟩, h⟩ := h
  obtain _ | ⟨hd, h⟩ := h
  obtain _ | ⟨⟨f, rfl, hf⟩, h⟩ := h
  obtain _ | ⟨⟨g, rfl, hg⟩, h⟩ := h
  obtain _ | ⟨⟨c, rfl, _⟩, h⟩ := h
  cases h
  obtain ⟨bs, ad, cp, rfl, hin, hl, hbd⟩ := slInG_bytes hG hd rfl rfl (by decide +kernel)
  have h1 : IntKind.i64.min = -9223372036854775808 := rfl
  have h2 : IntKind.i64.max = 9223372036854775807 := rfl
  simp [Lit.wf] at hf hg
  exact ⟨⟨a, b, ad, cp, bs, f, g, c⟩, rfl, ⟨hin, by show f ≤ _; omega, by show g ≤ _; omega⟩, hbd⟩

set_option maxRecDepth 100000 in
theorem liftedZDoes (os : Os) (started : os.Started) (H : Type) (enc : TypeId × Value → H) (F : Stop.Interp) :
    ReturnsInHanded {} Tryz.checked os 3 .any ((Rows.OpenSpec.upto Rows.ckptDoesSpec).pre6 enc Tryz.prog Tryz.f3 Rows.ckptDoesUptoRow.domain false) (((Rows.OpenSpec.upto Rows.ckptDoesSpec).at F).post enc Tryz.prog Tryz.f3 false true false false) := by
  refine returnsInHanded_of_cond (C := Tryz.checked) (s := Rows.OpenSpec.upto Rows.ckptDoesSpec) (k := Rows.uptoSmall) rfl ownZDoes started (by kernel_rfl) Tryz.func3
    (OpenSpec.witness (enc := enc) (C := Tryz.checked) (s := Rows.OpenSpec.upto Rows.ckptDoesSpec) (k := Rows.uptoSmall) rfl false ⟨#[], #[.int .i64 0, .slice none 0 0], []⟩ 8 (by kernel_rfl) (by kernel_rfl) (by kernel_rfl)
      (x := ([.lit (.int .i64 0), .nil], [], [])) (by kernel_rfl) rfl (by kernel_rfl)) ?_
  intro W base args ds gs before hval0 hW hcnd hk _
  have hval : ∀ (j : Nat) t v, Tryz.f3.params[j]? = some t → args[j]? = some v → Value.okWide Tryz.prog W .any base t v := hval0
  have hW' := hW
  obtain ⟨p, q, hA0, hV, rfl, hfz, hnd⟩ := hW
  have hA : DataW.TrodAll enc Tryz.prog W 0 (fun _ => true) true Tryz.f3.params.toList args.toList ds p := hA0
  have hp : Tryz.f3.params.toList = [3, 22] := rfl
  rw [hp] at hA
  obtain ⟨v0, vs0, d0, ds0, p0, q0, hargs, rfl, rfl, h0, r0⟩ := trodAll_cons hA
  obtain ⟨v1, vs1, d1, ds1, p1, q1, rfl, rfl, rfl, h1, r1⟩ := trodAll_cons r0
  obtain ⟨rfl, rfl, rfl⟩ := trodAll_nil r1
  obtain rfl : args = #[v0, v1] := by cases args; simp_all
  obtain ⟨rfl, rfl⟩ := trodVars_none hV
  have k0 := h0
  have lt0 : ∀ x ∈ p0, x.block < W.heap.size := by obtain ⟨m, hm⟩ := k0; exact DataW.trod_lt m _ _ _ hm
  have k1 := h1
  have lt1 : ∀ x ∈ p1, x.block < W.heap.size := by obtain ⟨m, hm⟩ := k1; exact DataW.trod_lt m _ _ _ hm
  have hbulk : Rows.uptoBulkAll [d0, d1] ≤ 1048576 := by
    simp only [List.append_nil] at hk
    exact of_decide_eq_true hk
  simp only [Rows.uptoBulkAll] at hbulk
  have g0 : gU 3 d0 := by simp only [gU]; omega
  have g1 : gU 22 d1 := by simp only [gU]; omega
  obtain ⟨a0, rfl, rfl, rfl, w0⟩ := open_int (k := .i64) rfl (hval 0 3 v0 rfl rfl) h0
  obtain ⟨xs1, hin1, wf1, ln1, bd1⟩ : ∃ xs : List OpZ, InSl (all W) 6 (xs.map OpZ.cells) v1 ∧ (∀ x ∈ xs, (fun r => OpKW (all W) r ∧ bdU 5 r.bs.length) x) ∧ xs.length ≤ maxLen ∧ bdU _ xs.length := by
    obtain ⟨aa, len, cap, rfl⟩ := okWide_slice rfl (hval 1 22 v1 rfl rfl)
    obtain ⟨fuel, hf⟩ := h1
    cases trodG_kinds (herU Tryz.prog) 4 22 _ fuel _ _ rfl rfl hf g1 with
    | cons h1 _ => exact slInG_rows (C := OpZ.cells) (Wf := (fun r => OpKW (all W) r ∧ bdU 5 r.bs.length)) (herU Tryz.prog) h1 rfl rfl (by decide +kernel) (fun cs hcs => opz_of (herU Tryz.prog) hcs) (fun _ => rfl)
  clear hA0 hval0
  refine (law_true (does6_law W (room := a0) (i64_of w0).2 hin1 (fun o h => (wf1 o h).1.ok (wf1 o h).2) bd1 ⟨rfl, rfl⟩)).mono fun e W' ⟨he, bel⟩ => ?_
  subst he
  exact ⟨_, rfl, _, _, _, [], _, [], hW', trodAll_mk1 (shut_bool rfl _), (trodAll_cons_mk (Below.trod laidOutZDoes (by kernel_rfl) (of_decide_eq_true (by kernel_rfl)) k0 bel lt0) (trodAll_cons_mk (Below.trod laidOutZDoes (by kernel_rfl) (of_decide_eq_true (by kernel_rfl)) k1 bel lt1) trodAll_mk0)), rfl, bel.frame _, fun h => by cases h⟩

theorem provedZDoes : Rows.CkptDoesUptoSaid :=
  OpenClaim.holds_of_cond 3 Tryz.f3 rfl rfl rfl rfl rfl rfl rfl ⟨rfl, rfl, rfl, rfl, rfl⟩ rfl rfl rfl rfl rfl (by kernel_rfl) Tryz.func3 (by kernel_rfl)
    (of_decide_eq_true (by kernel_rfl)) (by unfold Func.isWrapper; first | (rw [if_pos (by decide +kernel)]; kernel_rfl) | (rw [if_neg (by decide +kernel)]; exact ⟨rfl, rfl⟩))
    (fun os started H enc _ F => liftedZDoes os started H enc F)
#print axioms provedZDoes
end Go.Proofs.YtkamfmdonhaikaaGreat
