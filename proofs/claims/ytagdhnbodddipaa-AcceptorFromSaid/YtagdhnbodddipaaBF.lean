/-
  does: an operation with both.
-/
import Derived.Test.YtagdhnbodddipaaBD
import Derived.Test.YtagdhnbodddipaaBE
namespace Go.Vl
open Go.Proofs
/-- a script's operation in memory -/
structure OpA where
  kind : Int
  bal : Bal
  slot : Int
  en : EnR
  stop : Int
abbrev OpA.cells (o : OpA) : List Value := [.int .i64 o.kind, .int .i64 o.bal.r, .int .i64 o.bal.p, .int .i64 o.slot, .int .i64 o.en.c.kind, .int .i64 o.en.c.ses, .int .i64 o.en.c.req,
  .int .i64 o.en.c.op.time, .int .i64 o.en.c.op.site, .int .i64 o.en.c.op.kind, .int .i64 o.en.c.op.node, .int .i64 o.en.c.op.parent, .string o.en.c.op.name, .string o.en.c.op.key, .string o.en.c.op.val,
  .int .i64 o.en.c.origin, .int .i64 o.en.c.seq, o.en.vo,
  .int .i64 o.en.c.num, .int .i64 (o.en.c.st 0), .int .i64 (o.en.c.st 1), .int .i64 (o.en.c.st 2), .int .i64 (o.en.c.st 3), .int .i64 (o.en.c.st 4), .int .i64 (o.en.c.st 5), .int .i64 (o.en.c.st 6), .int .i64 (o.en.c.st 7),
  .int .i64 (o.en.c.sea 0), .int .i64 (o.en.c.sea 1), .int .i64 (o.en.c.sea 2), .int .i64 (o.en.c.sea 3), .int .i64 (o.en.c.sea 4), .int .i64 (o.en.c.sea 5), .int .i64 (o.en.c.sea 6), .int .i64 (o.en.c.sea 7),
  .int .i64 (o.en.c.spo 0), .int .i64 (o.en.c.spo 1), .int .i64 (o.en.c.spo 2), .int .i64 (o.en.c.spo 3), .int .i64 (o.en.c.spo 4), .int .i64 (o.en.c.spo 5), .int .i64 (o.en.c.spo 6), .int .i64 (o.en.c.spo 7),
  .int .i64 o.en.c.src, .int .i64 (o.en.c.vec 0), .int .i64 (o.en.c.vec 1), .int .i64 (o.en.c.vec 2), .int .i64 (o.en.c.vec 3), .int .i64 (o.en.c.vec 4), .int .i64 (o.en.c.vec 5), .int .i64 (o.en.c.vec 6), .int .i64 (o.en.c.vec 7),
  .int .i64 o.en.c.clock, .int .i64 o.en.c.snap, .int .i64 o.en.c.idx, .int .i64 o.en.c.many, o.en.vd, .int .i64 o.en.c.site, .int .i64 o.en.c.sponsor, .int .i64 o.en.c.len, .int .i64 o.stop]
abbrev OpA.c (o : OpA) : OpS := ⟨o.kind, o.bal, o.slot, o.en.c, o.stop⟩
set_option maxHeartbeats 4000000 in
set_option maxRecDepth 100000 in
theorem rdl1 {y : SlR} {b : Nat} {P : Hp} (h : EnIn P y.en) (hb : (b, cellsO y.cells 52) ∈ P) : RdL [y.c] (.slice (some ⟨b, 0, none⟩) 1 1) P :=
  ⟨[y], rfl, ⟨some ⟨b, 0, none⟩, 1, rfl, Nat.le_refl _, (fun r hr => by obtain rfl := List.mem_singleton.1 hr; exact ⟨rfl, rfl⟩), .inr ⟨b, 0, _, _, _, rfl, hb, by simpa using rowAt_all y.cells⟩⟩, fun s hs => by obtain rfl := List.mem_singleton.1 hs; exact h⟩
set_option maxHeartbeats 4000000 in
set_option maxRecDepth 100000 in
theorem Ac.len_eq {a : Ac} {ls : List SlR} (h : ls.map SlR.c = a.L) : ls.length = a.L.length := by rw [← h, List.length_map]
attribute [local irreducible] wpC wpO wpD Ex Rd callsK RetP Drop valK
set_option maxHeartbeats 4000000 in
set_option maxRecDepth 100000 in
theorem same1 (e : World) {y s : SlR} {b1 b2 : Nat} {P1 P2 F : Hp} {K : Value → Hp → Prop} (h1 : EnIn P1 y.en) (h2 : EnIn P2 s.en) (hc : y.c = s.c) (hz : EnSz y.en.c)
    (hK : K (.bool true) ((([(b1, cellsO y.cells 52)] ++ P1) ++ ([(b2, cellsO s.cells 52)] ++ P2)) ++ F)) :
    callsK Try.prog e 69 #[.slice (some ⟨b1, 0, none⟩) 1 1, .slice (some ⟨b2, 0, none⟩) 1 1] ((([(b1, cellsO y.cells 52)] ++ P1) ++ ([(b2, cellsO s.cells 52)] ++ P2)) ++ F) K := by
  have r1 : RdL [y.c] (.slice (some ⟨b1, 0, none⟩) 1 1) (([(b1, cellsO y.cells 52)] ++ P1) ++ ([(b2, cellsO s.cells 52)] ++ P2)) := rdl1 (y := y) (h1.more fun x hx => List.mem_append_left _ (List.mem_append_right _ hx)) (by simp)
  have r2 : RdL [s.c] (.slice (some ⟨b2, 0, none⟩) 1 1) (([(b1, cellsO y.cells 52)] ++ P1) ++ ([(b2, cellsO s.cells 52)] ++ P2)) := rdl1 (y := s) (h2.more fun x hx => List.mem_append_right _ (List.mem_append_right _ hx)) (by simp)
  rw [← hc] at r2
  exact same_spec e r1 r2 (fun x hx => by obtain rfl := List.mem_singleton.1 hx; exact hz) (by simp) hK
set_option maxHeartbeats 4000000 in
set_option maxRecDepth 100000 in
theorem at_AS (e : World) {d : Nat} {a : Ac} {n : Int} {x : Sl} {H F : Hp} {K : Value → Hp → Prop} (hA : AcO a d H) (hx : x ∈ a.L) (hn : x.slot = n)
    (hK : ∀ y : SlR, y.ok → y.c = x → K (.tuple #[slV y, .bool true]) ((y.hp ++ H) ++ F)) : callsK Try.prog e 27 #[pv d, .int .i64 n] (H ++ F) K :=
  at_A e hA (fun y h1 h2 h3 => hK y h1 (hA.sorted.uniq h2 hx (h3.trans hn.symm))) (fun h => absurd hn (h x hx))
set_option maxHeartbeats 4000000 in
set_option maxRecDepth 100000 in
theorem at_AN (e : World) {d : Nat} {a : Ac} {n : Int} {H F : Hp} {K : Value → Hp → Prop} (hA : AcO a d H) (hno : ∀ x ∈ a.L, x.slot ≠ n)
    (hK : ∀ y : SlR, y.ok → y.c = zeroS 0 → K (.tuple #[slV y, .bool false]) ((y.hp ++ H) ++ F)) : callsK Try.prog e 27 #[pv d, .int .i64 n] (H ++ F) K :=
  at_A e hA (fun y _ h2 h3 => absurd h3 (hno _ h2)) (fun _ => hK)
set_option maxHeartbeats 4000000 in
set_option maxRecDepth 100000 in
theorem rat_RS (e : World) {d : Nat} {a : Ac} {n : Int} {x : Sl} {H F : Hp} {K : Value → Hp → Prop} (hA : RfO a d H) (hl : a.L.length * 528 ≤ 140737488355328) (hs : Sorted a.L) (hx : x ∈ a.L) (hn : x.slot = n)
    (hK : ∀ s : SlR, s.c = x → EnIn H s.en → K (.tuple #[slV s, .bool true]) (H ++ F)) : callsK Try.prog e 70 #[pv d, .int .i64 n] (H ++ F) K :=
  rat_R e hA hl (fun s h1 h2 h3 => hK s (hs.uniq h1 hx (h2.trans hn.symm)) h3) (fun h => absurd hn (h x hx))
set_option maxHeartbeats 4000000 in
set_option maxRecDepth 100000 in
theorem rat_RN (e : World) {d : Nat} {a : Ac} {n : Int} {H F : Hp} {K : Value → Hp → Prop} (hA : RfO a d H) (hl : a.L.length * 528 ≤ 140737488355328) (hno : ∀ x ∈ a.L, x.slot ≠ n)
    (hK : K (.tuple #[slV ⟨0, ⟨0, 0⟩, zeroE, [], []⟩, .bool false]) (H ++ F)) : callsK Try.prog e 70 #[pv d, .int .i64 n] (H ++ F) K :=
  rat_R e hA hl (fun s h1 h2 _ => absurd h2 (hno _ h1)) (fun _ => hK)
set_option maxHeartbeats 4000000 in
set_option maxRecDepth 100000 in
theorem does_0 (e : World) {d d2 : Nat} {a : Ac} {b : Bal} {n st : Int} {en : EnR} {H R P F : Hp} {K : Value → Hp → Prop} (hA : AcO a d H) (hR : RfO a d2 R) (hz : a.all EnSz) (hl : a.L.length * 528 ≤ 140737488355328)
    (hK : ∀ H' R', AcO (a.prepare b n).2.2 d H' → RfO (a.prepare b n).2.2 d2 R' → K (.bool true) (((H' ++ R') ++ P) ++ F)) :
    callsK Try.prog e 35 #[pv d, pv d2, .agg (OpA.mk 0 b n en st).cells.toArray] (((H ++ R) ++ P) ++ F) K := by
  have hzp : ∀ x ∈ (a.prepare b n).2.1, EnSz x.en := fun x hx => by
    unfold Ac.prepare at hx
    split at hx
    · cases hx
    · split at hx
      · cases hx
      · exact hz x (fromS_mem hx)
  have hlp : (a.prepare b n).2.1.length ≤ a.L.length := by
    unfold Ac.prepare
    split
    · exact Nat.zero_le _
    · split
      · exact Nat.zero_le _
      · exact fromS_len _ _
  refine calls_body (N := 143) (args := [pv d, pv d2, .agg (OpA.mk 0 b n en st).cells.toArray]) Try.func35 rfl rfl rfl (by simp) ?_
  repeat' ((fail_if_success (show wpC _ (.seq (.region 5 _ _) _) _ _ _ _)); first | (show wpO _ _ _ _ _ _ _; first | refine wpO_nil ?_ | (show wpO _ _ _ (⟨_, .binOp _ _ _ _ _, _, _, _, _⟩ :: _) _ _ _; first | refine s_tt ?_ | refine s_ff ?_ | refine s_rdp ?_ | (refine s_cmp (fun _ => ?_) (fun _ => ?_) <;> (first | (exfalso; omega) | contradiction | skip)) | (refine s_cb (fun _ => ?_) (fun _ => ?_) <;> (first | (exfalso; omega) | contradiction | skip)) | refine s_sks ?_ | (refine s_g (fun _ => ?_) (fun _ => ?_) <;> (first | (exfalso; omega) | contradiction | skip))) | (show wpO _ _ _ (⟨_, .pick _ _ _, _, _, _, _⟩ :: _) _ _ _; first | refine s_rdp ?_ | (refine s_p (fun _ => ?_) (fun _ => ?_) <;> (first | (exfalso; omega) | contradiction | skip)) | refine s_sks ?_ | (refine s_g (fun _ => ?_) (fun _ => ?_) <;> (first | (exfalso; omega) | contradiction | skip))) | refine s_rdp ?_ | refine s_rdm ?_ | refine s_exq ?_ | refine s_exm ?_ | refine s_sks ?_ | refine s_skn ?_ | (refine s_g (fun _ => ?_) (fun _ => ?_) <;> (first | (exfalso; omega) | contradiction | skip))) | (show Ex _ _ _ _ _; first | (show Ex _ ⟨_, .call ⟨.value (.func _), _, _⟩, _, _, _, _⟩ _ _ _; refine e_call ?_; first | (apply p_pcs; apply prepare_A _ hA hl; (try case hS => assumption); (case hpcs => (repeat (first | exact Pcs.blk (by infer_instance) | exact Pcs.nil | (apply Pcs.cons; infer_instance) | apply Pcs.app)))) | (apply p_pcs; apply rprepare_R _ hR hl; (try case hS => assumption); (case hpcs => (repeat (first | exact Pcs.blk (by infer_instance) | exact Pcs.nil | (apply Pcs.cons; infer_instance) | apply Pcs.app))))) | (show Ex _ ⟨_, .alloc _, _, _, _, _⟩ _ _ _; first | (refine e_allocA ?_; intro _) | (refine e_alloc1 ?_; intro _)) | (show Ex _ ⟨_, .box _ _, _, _, _, _⟩ _ _ _; first | (refine e_boxA ?_; intro _) | (refine e_box1 ?_; intro _)) | (show Ex _ ⟨_, .store _ _ _, _, _, _, _⟩ _ _ _; first | refine e_store1 ?_ | refine e_storeA ?_ | (refine e_storeO ?_; intro _ _)) | (show Ex _ ⟨_, .buildSlice _ _ _, _, _, _, _⟩ _ _ _; first | (refine e_buildSlice ?_; intro _) | (refine e_buildNil ?_; intro _ _ _))) | (show wpC _ _ _ _ _ _; first | refine wpC_seq ?_ | refine wpC_region ?_ | refine c_true ?_ | refine c_false ?_ | (refine c_b (fun _ => ?_) (fun _ => ?_) <;> (first | (exfalso; omega) | contradiction | skip)) | refine wpC_block ?_ | refine wpC_ret ?_ | refine wpC_skip ?_ | refine wpC_label ?_ | (apply wpC_drawX (id := 8) ([]) [0, 1, 2, 3, 4, 5, 6, 8, 9, 10, 11, 12, 13, 14, 7, 15, 16] rfl (by kernel_rfl); (case hpk => (repeat (first | exact Pcs.blk (by infer_instance) | exact Pcs.nil | (apply Pcs.cons; infer_instance) | apply Pcs.app)))) | (apply wpC_drawX (id := 11) ([]) [0, 1, 2, 4, 5, 6, 3, 7, 8] rfl (by kernel_rfl); (case hpk => (repeat (first | exact Pcs.blk (by infer_instance) | exact Pcs.nil | (apply Pcs.cons; infer_instance) | apply Pcs.app)))) | (apply wpC_drawX (id := 18) ([]) [0, 2, 3, 4, 5, 1, 6, 7, 8, 10, 11, 12, 13, 9, 14, 15, 16, 17, 19, 20, 21, 22, 23, 18, 24, 25, 26] rfl (by kernel_rfl); (case hpk => (repeat (first | exact Pcs.blk (by infer_instance) | exact Pcs.nil | (apply Pcs.cons; infer_instance) | apply Pcs.app))))) | (show Then _ _ _ _ _ _ _; first | refine then_normal ?_ | refine then_ret ?_) | (show InBlock _ _ _ _ _ _; first | refine inBlock_normal ?_ | refine inBlock_ret ?_ | refine inBlock_same ?_ | refine b_other ?_) | (show wpD _ _ _ _ _ _ _ _; first | refine wpD_nil ?_ | refine d_rdp ?_ | refine d_rdm ?_ | refine d_sks ?_ | refine d_tt ?_ | refine d_ff ?_ | (refine d_cmp (fun _ => ?_) (fun _ => ?_) <;> (first | (exfalso; omega) | contradiction | skip)) | (refine d_cb (fun _ => ?_) (fun _ => ?_) <;> (first | (exfalso; omega) | contradiction | skip)) | refine d_exs ?_ | refine d_exn ?_ | (refine d_p (fun _ => ?_) (fun _ => ?_) <;> (first | (exfalso; omega) | contradiction | skip)) | (refine d_g (fun _ => ?_) (fun _ => ?_) <;> (first | (exfalso; omega) | contradiction | skip))) | (show (_ ∨ Subs _ _) ∧ _; first | refine d_sub ?_ | refine d_cov ?_) | (show RetP _ _ _ _ _ _ _ _; first | refine r_1 ?_) | assumption | intro _)
  rename_i bx v1 Hl H1 ho hA1 v2 Bv H2 hr hR1
  have hlp' : (a.prepare b n).2.1.length * 528 ≤ 140737488355328 := by omega
  generalize a.prepare b n = pr at *
  have hq1 : RdL pr.2.1 v1 (Hl ++ (Bv ++ H2)) := ho.rd.more fun x hx => List.mem_append_left _ hx
  have hq2 : RdL pr.2.1 v2 (Hl ++ (Bv ++ H2)) := hr.more fun x hx => List.mem_append_right _ hx
  have hk := hK _ _ hA1 hR1
  clear hK ho hr hA hR
  obtain ⟨v, ls, Bs, Pl, rfl, hls, hS, hP⟩ := hR1
  have hlen := Ac.len_eq hls
  have heq := bal_eqV pr.2.2.prom pr.2.2.prom
  rw [decide_eq_true rfl] at heq
  repeat' (first | (show wpO _ _ _ _ _ _ _; first | refine wpO_nil ?_ | (show wpO _ _ _ (⟨_, .binOp _ _ _ _ _, _, _, _, _⟩ :: _) _ _ _; first | refine s_tt ?_ | refine s_ff ?_ | refine s_rdp ?_ | (refine s_cmp (fun _ => ?_) (fun _ => ?_) <;> (first | (exfalso; omega) | contradiction | skip)) | (refine s_cb (fun _ => ?_) (fun _ => ?_) <;> (first | (exfalso; omega) | contradiction | skip)) | refine s_sks ?_ | (refine s_g (fun _ => ?_) (fun _ => ?_) <;> (first | (exfalso; omega) | contradiction | skip))) | (show wpO _ _ _ (⟨_, .pick _ _ _, _, _, _, _⟩ :: _) _ _ _; first | refine s_rdp ?_ | (refine s_p (fun _ => ?_) (fun _ => ?_) <;> (first | (exfalso; omega) | contradiction | skip)) | refine s_sks ?_ | (refine s_g (fun _ => ?_) (fun _ => ?_) <;> (first | (exfalso; omega) | contradiction | skip))) | refine s_rdp ?_ | refine s_rdm ?_ | refine s_exq ?_ | refine s_exm ?_ | refine s_sks ?_ | refine s_skn ?_ | (refine s_g (fun _ => ?_) (fun _ => ?_) <;> (first | (exfalso; omega) | contradiction | skip))) | (show Ex _ _ _ _ _; first | (show Ex _ ⟨_, .call ⟨.value (.func _), _, _⟩, _, _, _, _⟩ _ _ _; refine e_call ?_; first | (apply p_pcs; apply same_spec _ hq1 hq2 hzp hlp'; (try case hS => assumption); (case hpcs => (repeat (first | exact Pcs.blk (by infer_instance) | exact Pcs.nil | (apply Pcs.cons; infer_instance) | apply Pcs.app)))) | (apply p_pcs; apply prom_A _ hA1; (try case hS => assumption); (case hpcs => (repeat (first | exact Pcs.blk (by infer_instance) | exact Pcs.nil | (apply Pcs.cons; infer_instance) | apply Pcs.app)))) | (apply p_pcs; apply first_A _ hA1; (try case hS => assumption); (case hpcs => (repeat (first | exact Pcs.blk (by infer_instance) | exact Pcs.nil | (apply Pcs.cons; infer_instance) | apply Pcs.app)))) | (apply p_pcs; apply len_A _ hA1; (try case hS => assumption); (case hpcs => (repeat (first | exact Pcs.blk (by infer_instance) | exact Pcs.nil | (apply Pcs.cons; infer_instance) | apply Pcs.app))))) | (show Ex _ ⟨_, .alloc _, _, _, _, _⟩ _ _ _; first | (refine e_allocA ?_; intro _) | (refine e_alloc1 ?_; intro _)) | (show Ex _ ⟨_, .box _ _, _, _, _, _⟩ _ _ _; first | (refine e_boxA ?_; intro _) | (refine e_box1 ?_; intro _)) | (show Ex _ ⟨_, .store _ _ _, _, _, _, _⟩ _ _ _; first | refine e_store1 ?_ | refine e_storeA ?_ | (refine e_storeO ?_; intro _ _)) | (show Ex _ ⟨_, .buildSlice _ _ _, _, _, _, _⟩ _ _ _; first | (refine e_buildSlice ?_; intro _) | (refine e_buildNil ?_; intro _ _ _))) | (show wpC _ _ _ _ _ _; first | refine wpC_seq ?_ | refine wpC_region ?_ | refine c_true ?_ | refine c_false ?_ | (refine c_b (fun _ => ?_) (fun _ => ?_) <;> (first | (exfalso; omega) | contradiction | skip)) | refine wpC_block ?_ | refine wpC_ret ?_ | refine wpC_skip ?_ | refine wpC_label ?_ | (apply wpC_drawX (id := 8) ([]) [0, 1, 2, 3, 4, 5, 6, 8, 9, 10, 11, 12, 13, 14, 7, 15, 16] rfl (by kernel_rfl); (case hpk => (repeat (first | exact Pcs.blk (by infer_instance) | exact Pcs.nil | (apply Pcs.cons; infer_instance) | apply Pcs.app)))) | (apply wpC_drawX (id := 11) ([]) [0, 1, 2, 4, 5, 6, 3, 7, 8] rfl (by kernel_rfl); (case hpk => (repeat (first | exact Pcs.blk (by infer_instance) | exact Pcs.nil | (apply Pcs.cons; infer_instance) | apply Pcs.app)))) | (apply wpC_drawX (id := 18) ([]) [0, 2, 3, 4, 5, 1, 6, 7, 8, 10, 11, 12, 13, 9, 14, 15, 16, 17, 19, 20, 21, 22, 23, 18, 24, 25, 26] rfl (by kernel_rfl); (case hpk => (repeat (first | exact Pcs.blk (by infer_instance) | exact Pcs.nil | (apply Pcs.cons; infer_instance) | apply Pcs.app))))) | (show Then _ _ _ _ _ _ _; first | refine then_normal ?_ | refine then_ret ?_) | (show InBlock _ _ _ _ _ _; first | refine inBlock_normal ?_ | refine inBlock_ret ?_ | refine inBlock_same ?_ | refine b_other ?_) | (show wpD _ _ _ _ _ _ _ _; first | refine wpD_nil ?_ | refine d_rdp ?_ | refine d_rdm ?_ | refine d_sks ?_ | refine d_tt ?_ | refine d_ff ?_ | (refine d_cmp (fun _ => ?_) (fun _ => ?_) <;> (first | (exfalso; omega) | contradiction | skip)) | (refine d_cb (fun _ => ?_) (fun _ => ?_) <;> (first | (exfalso; omega) | contradiction | skip)) | refine d_exs ?_ | refine d_exn ?_ | (refine d_p (fun _ => ?_) (fun _ => ?_) <;> (first | (exfalso; omega) | contradiction | skip)) | (refine d_g (fun _ => ?_) (fun _ => ?_) <;> (first | (exfalso; omega) | contradiction | skip))) | (show (_ ∨ Subs _ _) ∧ _; first | refine d_sub ?_ | refine d_cov ?_) | (show RetP _ _ _ _ _ _ _ _; first | refine r_1 ?_) | assumption | intro _)
  all_goals first | exact q_drop hk | skip
end Go.Vl
