/-
  Steps of the proof: GF.
-/
import Derived.Test.YtpegidbkplgplaaGreatQ11
namespace Go.Vl
open Go.Proofs Go.RowKit
/-- the fields of an entry that its kind has -/
def bareC (c : EnC) : EnC :=
  if c.kind = 1 then { zeroE.c with kind := c.kind, ses := c.ses, req := c.req, op := c.op }
  else if c.kind = 2 then { zeroE.c with kind := c.kind, origin := c.origin, seq := c.seq, ops := c.ops }
  else if c.kind = 3 then { zeroE.c with kind := c.kind, num := c.num, st := c.st, sea := c.sea, spo := c.spo }
  else if c.kind = 4 then { zeroE.c with kind := c.kind, seq := c.seq, src := c.src, vec := c.vec, clock := c.clock }
  else if c.kind = 5 then { zeroE.c with kind := c.kind, snap := c.snap, idx := c.idx, many := c.many, data := c.data }
  else if c.kind = 6 then { zeroE.c with kind := c.kind, site := c.site, sponsor := c.sponsor }
  else if c.kind = 7 then { zeroE.c with kind := c.kind, site := c.site }
  else if c.kind = 8 then { zeroE.c with kind := c.kind, site := c.site, len := c.len }
  else { zeroE.c with kind := c.kind }
def kindOK (c : EnC) : Prop :=
  (c.kind = 0) ∨ (c.kind = 1 ∧ cntOK c.ses ∧ 0 < c.ses ∧ cntOK c.req ∧ 0 < c.req ∧ c.op.may) ∨ (c.kind = 2 ∧ sitOK c.origin ∧ cntOK c.seq ∧ opsOK c.ops) ∨ (c.kind = 3 ∧ epOK c) ∨
    (c.kind = 4 ∧ cntOK c.seq ∧ sitOK c.src ∧ vecOK c.vec ∧ cntOK c.clock) ∨ (c.kind = 5 ∧ parOK c) ∨ (c.kind = 6 ∧ sitOK c.site ∧ sitOK c.sponsor) ∨ (c.kind = 7 ∧ sitOK c.site) ∨ (c.kind = 8 ∧ sitOK c.site ∧ cntOK c.len)
def mayE (c : EnC) : Prop := kindOK c ∧ c.same (bareC c)
set_option maxHeartbeats 4000000 in
set_option maxRecDepth 100000 in
theorem EnC.same_symm {a b : EnC} (h : a.same b) : b.same a :=
  ⟨h.kind.symm, h.ses.symm, h.req.symm, h.op.symm, h.origin.symm, h.seq.symm, h.ops.symm, ⟨h.ep.num.symm, fun i hi => (h.ep.st i hi).symm, fun i hi => (h.ep.sea i hi).symm, fun i hi => (h.ep.spo i hi).symm⟩, h.src.symm, fun i hi => (h.vec i hi).symm, h.clock.symm, h.snap.symm, h.idx.symm, h.many.symm, h.data.symm, h.site.symm, h.sponsor.symm, h.len.symm⟩
/-- an entry with the fields of its kind, in memory -/
def bareR (x : EnR) : EnR :=
  if x.c.kind = 2 then ⟨bareC x.c, x.ao, x.co, none, 0⟩ else if x.c.kind = 5 then ⟨bareC x.c, none, 0, x.ad, x.cd⟩ else ⟨bareC x.c, none, 0, none, 0⟩
set_option maxHeartbeats 4000000 in
set_option maxRecDepth 100000 in
theorem bareR0 {x : EnR} (h : x.c.kind = 0) : bareR x = ⟨{ zeroE.c with kind := x.c.kind }, none, 0, none, 0⟩ := by
  unfold bareR bareC
  simp only [h]
  rfl
set_option maxHeartbeats 4000000 in
set_option maxRecDepth 100000 in
theorem bareR1 {x : EnR} (h : x.c.kind = 1) : bareR x = ⟨{ zeroE.c with kind := x.c.kind, ses := x.c.ses, req := x.c.req, op := x.c.op }, none, 0, none, 0⟩ := by
  unfold bareR bareC
  simp only [h]
  rfl
set_option maxHeartbeats 4000000 in
set_option maxRecDepth 100000 in
theorem bareR2 {x : EnR} (h : x.c.kind = 2) : bareR x = ⟨{ zeroE.c with kind := x.c.kind, origin := x.c.origin, seq := x.c.seq, ops := x.c.ops }, x.ao, x.co, none, 0⟩ := by
  unfold bareR bareC
  simp only [h]
  rfl
set_option maxHeartbeats 4000000 in
set_option maxRecDepth 100000 in
theorem bareR3 {x : EnR} (h : x.c.kind = 3) : bareR x = ⟨{ zeroE.c with kind := x.c.kind, num := x.c.num, st := x.c.st, sea := x.c.sea, spo := x.c.spo }, none, 0, none, 0⟩ := by
  unfold bareR bareC
  simp only [h]
  rfl
set_option maxHeartbeats 4000000 in
set_option maxRecDepth 100000 in
theorem bareR4 {x : EnR} (h : x.c.kind = 4) : bareR x = ⟨{ zeroE.c with kind := x.c.kind, seq := x.c.seq, src := x.c.src, vec := x.c.vec, clock := x.c.clock }, none, 0, none, 0⟩ := by
  unfold bareR bareC
  simp only [h]
  rfl
set_option maxHeartbeats 4000000 in
set_option maxRecDepth 100000 in
theorem bareR5 {x : EnR} (h : x.c.kind = 5) : bareR x = ⟨{ zeroE.c with kind := x.c.kind, snap := x.c.snap, idx := x.c.idx, many := x.c.many, data := x.c.data }, none, 0, x.ad, x.cd⟩ := by
  unfold bareR bareC
  simp only [h]
  rfl
set_option maxHeartbeats 4000000 in
set_option maxRecDepth 100000 in
theorem bareR6 {x : EnR} (h : x.c.kind = 6) : bareR x = ⟨{ zeroE.c with kind := x.c.kind, site := x.c.site, sponsor := x.c.sponsor }, none, 0, none, 0⟩ := by
  unfold bareR bareC
  simp only [h]
  rfl
set_option maxHeartbeats 4000000 in
set_option maxRecDepth 100000 in
theorem bareR7 {x : EnR} (h : x.c.kind = 7) : bareR x = ⟨{ zeroE.c with kind := x.c.kind, site := x.c.site }, none, 0, none, 0⟩ := by
  unfold bareR bareC
  simp only [h]
  rfl
set_option maxHeartbeats 4000000 in
set_option maxRecDepth 100000 in
theorem bareR8 {x : EnR} (h : x.c.kind = 8) : bareR x = ⟨{ zeroE.c with kind := x.c.kind, site := x.c.site, len := x.c.len }, none, 0, none, 0⟩ := by
  unfold bareR bareC
  simp only [h]
  rfl
set_option maxHeartbeats 4000000 in
set_option maxRecDepth 100000 in
theorem bareR_c (x : EnR) : (bareR x).c = bareC x.c := by unfold bareR; split; rfl; split <;> rfl
set_option maxHeartbeats 4000000 in
set_option maxRecDepth 100000 in
theorem bareR_in {P : Hp} {x : EnR} (h : EnIn P x) : EnIn P (bareR x) := by
  unfold bareR
  by_cases h2 : x.c.kind = 2
  · rw [if_pos h2]
    have hb : bareC x.c = { zeroE.c with kind := x.c.kind, origin := x.c.origin, seq := x.c.seq, ops := x.c.ops } := by
      unfold bareC; rw [if_neg (by omega), if_pos h2]
    rw [hb]
    exact ⟨h.o, InSl.nil⟩
  · rw [if_neg h2]
    by_cases h5 : x.c.kind = 5
    · rw [if_pos h5]
      have hb : bareC x.c = { zeroE.c with kind := x.c.kind, snap := x.c.snap, idx := x.c.idx, many := x.c.many, data := x.c.data } := by
        unfold bareC; rw [if_neg (by omega), if_neg (by omega), if_neg (by omega), if_neg (by omega), if_pos h5]
      rw [hb]
      exact ⟨InSl.nil, h.d⟩
    · rw [if_neg h5]
      have hb : (bareC x.c).ops = [] ∧ (bareC x.c).data = [] := by
        unfold bareC
        repeat' split
        all_goals first | exact ⟨rfl, rfl⟩ | (exfalso; omega)
      generalize bareC x.c = y at *
      obtain ⟨o, d⟩ := hb
      refine ⟨?_, ?_⟩
      · show InSl P 8 (y.ops.map OpC.cells) (.slice none y.ops.length 0)
        rw [o]; exact InSl.nil
      · show InSl P 1 (y.data.map byC) (.slice none y.data.length 0)
        rw [d]; exact InSl.nil
attribute [local irreducible] eqW eqV wpC wpO wpD Ex Rd callsK RetP Drop valK
set_option maxHeartbeats 4000000 in
set_option maxRecDepth 100000 in
theorem pverd (e : World) {b : Bool} {F : Hp} {K : Value → Hp → Prop} (hK : K (.int .i64 (if b = true then 0 else 40)) F) : callsK Tryz.prog e 66 #[.bool b] F K := by
  cases b
  · refine calls_body (N := 4) (args := [.bool false]) Tryz.func66 rfl rfl rfl (by simp) ?_
    repeat' (first | (show wpO _ _ _ _ _ _ _; first | refine wpO_nil ?_ | refine s_rdp ?_ | refine s_rdm ?_ | refine s_exq ?_ | refine s_exm ?_) | (show wpC _ _ _ _ _ _; first | refine wpC_seq ?_ | refine wpC_region ?_ | refine c_true ?_ | refine c_false ?_ | (refine c_b (fun _ => ?_) (fun _ => ?_) <;> (first | (exfalso; omega) | contradiction | skip)) | refine wpC_ret ?_ | refine wpC_skip ?_ | refine wpC_label ?_) | (show Then _ _ _ _ _ _ _; first | refine then_normal ?_ | refine then_ret ?_) | (show RetP _ _ _ _ _ _ _ _; first | refine r_1 ?_))
    all_goals exact q_drop hK
  · refine calls_body (N := 4) (args := [.bool true]) Tryz.func66 rfl rfl rfl (by simp) ?_
    repeat' (first | (show wpO _ _ _ _ _ _ _; first | refine wpO_nil ?_ | refine s_rdp ?_ | refine s_rdm ?_ | refine s_exq ?_ | refine s_exm ?_) | (show wpC _ _ _ _ _ _; first | refine wpC_seq ?_ | refine wpC_region ?_ | refine c_true ?_ | refine c_false ?_ | (refine c_b (fun _ => ?_) (fun _ => ?_) <;> (first | (exfalso; omega) | contradiction | skip)) | refine wpC_ret ?_ | refine wpC_skip ?_ | refine wpC_label ?_) | (show Then _ _ _ _ _ _ _; first | refine then_normal ?_ | refine then_ret ?_) | (show RetP _ _ _ _ _ _ _ _; first | refine r_1 ?_))
    all_goals exact q_drop hK
set_option maxHeartbeats 4000000 in
set_option maxRecDepth 100000 in
theorem rbare (e : World) {x : EnR} {F : Hp} {K : Value → Hp → Prop} (h1 : 0 ≤ x.c.kind → x.c.kind ≤ 8 → K (.tuple #[.agg (bareR x).cells.toArray, .bool true]) F) (h0 : ¬ (0 ≤ x.c.kind ∧ x.c.kind ≤ 8) → ∀ y : EnR, K (.tuple #[.agg y.cells.toArray, .bool false]) F) :
    callsK Tryz.prog e 68 #[.agg x.cells.toArray] F K := by
  refine calls_body (N := 81) (args := [.agg x.cells.toArray]) Tryz.func68 rfl rfl rfl (by simp) ?_
  repeat' (first | refine r_CA ?_ | (show wpO _ _ _ _ _ _ _; first | refine wpO_nil ?_ | (show wpO _ _ _ (⟨_, .binOp _ _ _ _ _, _, _, _, _⟩ :: _) _ _ _; first | refine s_tt ?_ | refine s_ff ?_ | refine s_rdp ?_ | ((first | refine s_cmp (fun _ => ?_) (fun _ => ?_) | refine s_cb (fun _ => ?_) (fun _ => ?_)) <;> (first | (exfalso; omega) | contradiction | skip))) | refine s_rdp ?_ | refine s_rdm ?_ | refine s_exq ?_ | refine s_exm ?_) | (show Ex _ _ _ _ _; first | (show Ex _ ⟨_, .alloc _, _, _, _, _⟩ _ _ _; first | (refine e_allocA ?_; intro _) | (refine e_alloc1 ?_; intro _)) | (show Ex _ ⟨_, .box _ _, _, _, _, _⟩ _ _ _; first | (refine e_boxA ?_; intro _) | (refine e_box1 ?_; intro _)) | (show Ex _ ⟨_, .store _ _ _, _, _, _, _⟩ _ _ _; first | refine e_store1 ?_ | refine e_storeA ?_ | (refine e_storeO ?_; intro _ _))) | (show wpC _ _ _ _ _ _; first | refine wpC_seq ?_ | refine wpC_region ?_ | refine c_true ?_ | refine c_false ?_ | (refine c_b (fun _ => ?_) (fun _ => ?_) <;> (first | (exfalso; omega) | contradiction | skip)) | refine wpC_block ?_ | refine wpC_ret ?_ | refine wpC_skip ?_ | refine wpC_label ?_) | (show Then _ _ _ _ _ _ _; first | refine then_normal ?_ | refine then_ret ?_) | (show InBlock _ _ _ _ _ _; first | refine inBlock_normal ?_ | refine inBlock_ret ?_ | refine inBlock_same ?_ | refine b_other ?_) | (show RetP _ _ _ _ _ _ _ _; first | refine r_C1 ?_ | refine r_DC ?_))
  all_goals first
    | exact q_drop (by have := h1 (by omega) (by omega); rw [bareR0 ‹_›] at this; exact this)
    | exact q_drop (by have := h1 (by omega) (by omega); rw [bareR1 ‹_›] at this; exact this)
    | exact q_drop (by have := h1 (by omega) (by omega); rw [bareR2 ‹_›] at this; exact this)
    | exact q_drop (by have := h1 (by omega) (by omega); rw [bareR3 ‹_›] at this; exact this)
    | exact q_drop (by have := h1 (by omega) (by omega); rw [bareR4 ‹_›] at this; exact this)
    | exact q_drop (by have := h1 (by omega) (by omega); rw [bareR5 ‹_›] at this; exact this)
    | exact q_drop (by have := h1 (by omega) (by omega); rw [bareR6 ‹_›] at this; exact this)
    | exact q_drop (by have := h1 (by omega) (by omega); rw [bareR7 ‹_›] at this; exact this)
    | exact q_drop (by have := h1 (by omega) (by omega); rw [bareR8 ‹_›] at this; exact this)
    | (refine q_drop (h0 (by omega) ⟨{ zeroE.c with kind := x.c.kind }, none, 0, none, 0⟩))
    | trace_state
end Go.Vl
