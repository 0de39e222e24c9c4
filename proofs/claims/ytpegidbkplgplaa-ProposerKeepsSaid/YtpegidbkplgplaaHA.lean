/-
  The law's replicas: what one accepts.
-/
import Derived.Test.YtpegidbkplgplaaGP
import Derived.Test.YtpegidbkplgplaaVh
import Derived.Test.YtpegidbkplgplaaPR
namespace Go.Vl
open Go.Proofs Classical
structure Rep where
  prom : Bal
  v : Value
  ls : List SlR
  B : Hp
def repL (R : Nat → Rep) : Nat → List Value
  | 0 => []
  | n + 1 => repL R n ++ [.int .i64 (R n).prom.r, .int .i64 (R n).prom.p, (R n).v]
def updR (R : Nat → Rep) (i : Nat) (x : Rep) : Nat → Rep := fun j => if j = i then x else R j
set_option maxHeartbeats 4000000 in
set_option maxRecDepth 100000 in
theorem updR_same (R : Nat → Rep) (i : Nat) (x : Rep) : updR R i x i = x := if_pos rfl
set_option maxHeartbeats 4000000 in
set_option maxRecDepth 100000 in
theorem updR_ne {R : Nat → Rep} {i j : Nat} {x : Rep} (h : j ≠ i) : updR R i x j = R j := if_neg h
set_option maxHeartbeats 4000000 in
set_option maxRecDepth 100000 in
theorem repL_succ (R : Nat → Rep) (n : Nat) : repL R (n + 1) = repL R n ++ [.int .i64 (R n).prom.r, .int .i64 (R n).prom.p, (R n).v] := rfl
set_option maxHeartbeats 4000000 in
set_option maxRecDepth 100000 in
theorem repL_len (R : Nat → Rep) : ∀ n, (repL R n).length = n * 3
  | 0 => rfl
  | n + 1 => by unfold repL; rw [List.length_append, repL_len R n]; simp; omega
set_option maxHeartbeats 4000000 in
set_option maxRecDepth 100000 in
theorem repL_keep {R : Nat → Rep} {i : Nat} {x : Rep} : ∀ {n : Nat}, n ≤ i → repL (updR R i x) n = repL R n
  | 0, _ => rfl
  | n + 1, h => by
    unfold repL
    rw [repL_keep (by omega), updR_ne (by omega)]
set_option maxHeartbeats 4000000 in
set_option maxRecDepth 100000 in
theorem repL_at {R : Nat → Rep} {i : Nat} : ∀ {n : Nat}, i < n → ∃ A B : List Value, repL R n = A ++ ([.int .i64 (R i).prom.r, .int .i64 (R i).prom.p, (R i).v] ++ B) ∧ A.length = i * 3 ∧ ∀ x, repL (updR R i x) n = A ++ ([.int .i64 x.prom.r, .int .i64 x.prom.p, x.v] ++ B)
  | 0, h => absurd h (Nat.not_lt_zero _)
  | n + 1, h => by
    by_cases hi : i < n
    · obtain ⟨A, B, h1, h2, h3⟩ := repL_at hi
      refine ⟨A, B ++ [.int .i64 (R n).prom.r, .int .i64 (R n).prom.p, (R n).v], by unfold repL; rw [h1]; simp, h2, fun x => ?_⟩
      unfold repL
      rw [h3 x, updR_ne (by omega)]
      simp
    · obtain rfl : i = n := by omega
      refine ⟨repL R i, [], by rw [repL_succ]; simp, repL_len R i, fun x => ?_⟩
      rw [repL_succ, repL_keep (Nat.le_refl _), updR_same]
      simp
set_option maxHeartbeats 4000000 in
set_option maxRecDepth 100000 in
theorem rep_bal {R : Nat → Rep} {i n : Nat} (h : i < n) : RowAt (repL R n).toArray (i * 3 + 0) 2 [.int .i64 (R i).prom.r, .int .i64 (R i).prom.p] := by
  obtain ⟨A, B, h1, h2, _⟩ := repL_at (R := R) h
  refine ⟨rfl, fun j v hj => ?_⟩
  rw [h1]
  rcases (by have := (List.getElem?_eq_some_iff.1 hj).1; simp at this; omega : j = 0 ∨ j = 1) with rfl | rfl
  · simp only [List.getElem?_toArray]
    rw [List.getElem?_append_right (by omega), show i * 3 + 0 + 0 - A.length = 0 by omega]
    exact hj
  · simp only [List.getElem?_toArray]
    rw [List.getElem?_append_right (by omega), show i * 3 + 0 + 1 - A.length = 1 by omega]
    exact hj
set_option maxHeartbeats 4000000 in
set_option maxRecDepth 100000 in
theorem rep_sl {R : Nat → Rep} {i n : Nat} (h : i < n) : (repL R n)[i * 3 + 2]? = some (R i).v := by
  obtain ⟨A, B, h1, h2, _⟩ := repL_at (R := R) h
  rw [h1, List.getElem?_append_right (by omega), show i * 3 + 2 - A.length = 2 by omega]
  rfl
set_option maxHeartbeats 4000000 in
set_option maxRecDepth 100000 in
theorem rep_putb {R : Nat → Rep} {i n : Nat} (h : i < n) (b : Bal) : putL (repL R n) (i * 3 + 0) [.int .i64 b.r, .int .i64 b.p] = repL (updR R i ⟨b, (R i).v, (R i).ls, (R i).B⟩) n := by
  obtain ⟨A, B, h1, h2, h3⟩ := repL_at (R := R) h
  rw [h1, h3]
  unfold putL
  simp only [putL]
  rw [List.set_append_right _ _ (by omega), show i * 3 + 0 - A.length = 0 by omega]
  rw [List.set_append_right _ _ (by omega), show i * 3 + 0 + 1 - A.length = 1 by omega]
  rfl
set_option maxHeartbeats 4000000 in
set_option maxRecDepth 100000 in
theorem rep_puts {R : Nat → Rep} {i n : Nat} (h : i < n) (v : Value) (ls : List SlR) (B : Hp) : (repL R n).set (i * 3 + 2) v = repL (updR R i ⟨(R i).prom, v, ls, B⟩) n := by
  obtain ⟨A, B', h1, h2, h3⟩ := repL_at (R := R) h
  rw [h1, h3, List.set_append_right _ _ (by omega), show i * 3 + 2 - A.length = 2 by omega]
  rfl
attribute [local irreducible] eqW eqV wpC wpO wpD Ex Rd callsK RetP Drop valK
set_option maxHeartbeats 4000000 in
set_option maxRecDepth 100000 in
theorem lless (e : World) {a b : Bal} {F : Hp} {K : Value → Hp → Prop} (h1 : a.lt b → K (.bool true) F) (h0 : ¬ a.lt b → K (.bool false) F) : callsK Try.prog e 50 #[.agg a.cells.toArray, .agg b.cells.toArray] F K := by
  refine calls_body (N := 24) (args := [.agg a.cells.toArray, .agg b.cells.toArray]) Try.func50 rfl rfl rfl (by simp) ?_
  repeat' (first | (show wpO _ _ _ _ _ _ _; first | refine wpO_nil ?_ | (show wpO _ _ _ (⟨_, .binOp _ _ _ _ _, _, _, _, _⟩ :: _) _ _ _; first | refine s_tt ?_ | refine s_ff ?_ | refine s_rdp ?_ | (refine s_cmp (fun _ => ?_) (fun _ => ?_) <;> (first | (exfalso; omega) | contradiction | skip)) | (refine s_cb (fun _ => ?_) (fun _ => ?_) <;> (first | (exfalso; omega) | contradiction | skip)) | refine s_sks ?_ | (refine s_g (fun _ => ?_) (fun _ => ?_) <;> (first | (exfalso; omega) | contradiction | skip))) | (show wpO _ _ _ (⟨_, .pick _ _ _, _, _, _, _⟩ :: _) _ _ _; first | refine s_rdp ?_ | (refine s_p (fun _ => ?_) (fun _ => ?_) <;> (first | (exfalso; omega) | contradiction | skip)) | refine s_sks ?_ | (refine s_g (fun _ => ?_) (fun _ => ?_) <;> (first | (exfalso; omega) | contradiction | skip))) | refine s_rdp ?_ | refine s_rdm ?_ | refine s_exq ?_ | refine s_exm ?_ | refine s_sks ?_ | refine s_skn ?_ | (refine s_g (fun _ => ?_) (fun _ => ?_) <;> (first | (exfalso; omega) | contradiction | skip))) | (show Ex _ _ _ _ _; first | (show Ex _ ⟨_, .box _ _, _, _, _, _⟩ _ _ _; first | (refine e_boxA ?_; intro _) | (refine e_box1 ?_; intro _))) | (show wpC _ _ _ _ _ _; first | refine wpC_seq ?_ | refine wpC_region ?_ | refine wpC_ret ?_ | refine wpC_skip ?_ | refine wpC_label ?_) | (show Then _ _ _ _ _ _ _; first | refine then_normal ?_ | refine then_ret ?_) | (show RetP _ _ _ _ _ _ _ _; first | refine r_1 ?_))
  all_goals first
    | exact q_drop (h1 (by unfold Bal.lt; omega))
    | exact q_drop (h0 (fun h => by unfold Bal.lt at h; omega))
    | trace_state
set_option maxHeartbeats 4000000 in
set_option maxRecDepth 100000 in
theorem rcheck8 (e : World) {x : EnR} {P F : Hp} {K : Value → Hp → Prop} (hx : EnIn P x) (hz : x.c.ops.length ≤ 9223372036854775806) (h1 : mayE x.c → K (.int .i64 0) (P ++ F)) (h0 : ¬ mayE x.c → K (.int .i64 40) (P ++ F)) :
    callsK Try.prog e 20 #[.agg x.cells.toArray] (P ++ F) K := by
  have hE1 : ∀ {F : Hp} {K : Value → Hp → Prop}, K (.int .i64 0) F → callsK Try.prog e 49 #[.bool true] F K := by
    intro F K hK
    refine calls_body (N := 4) (args := [.bool true]) Try.func49 rfl rfl rfl (by simp) ?_
    repeat' (first | (show wpO _ _ _ _ _ _ _; first | refine wpO_nil ?_ | refine s_rdp ?_ | refine s_rdm ?_ | refine s_exq ?_ | refine s_exm ?_) | (show wpC _ _ _ _ _ _; first | refine wpC_seq ?_ | refine wpC_region ?_ | refine c_true ?_ | refine c_false ?_ | (refine c_b (fun _ => ?_) (fun _ => ?_) <;> (first | (exfalso; omega) | contradiction | skip)) | refine wpC_ret ?_ | refine wpC_skip ?_ | refine wpC_label ?_) | (show Then _ _ _ _ _ _ _; first | refine then_normal ?_ | refine then_ret ?_) | (show RetP _ _ _ _ _ _ _ _; first | refine r_1 ?_))
    all_goals exact q_drop hK
  have hE0 : ∀ {F : Hp} {K : Value → Hp → Prop}, K (.int .i64 40) F → callsK Try.prog e 49 #[.bool false] F K := by
    intro F K hK
    refine calls_body (N := 4) (args := [.bool false]) Try.func49 rfl rfl rfl (by simp) ?_
    repeat' (first | (show wpO _ _ _ _ _ _ _; first | refine wpO_nil ?_ | refine s_rdp ?_ | refine s_rdm ?_ | refine s_exq ?_ | refine s_exm ?_) | (show wpC _ _ _ _ _ _; first | refine wpC_seq ?_ | refine wpC_region ?_ | refine c_true ?_ | refine c_false ?_ | (refine c_b (fun _ => ?_) (fun _ => ?_) <;> (first | (exfalso; omega) | contradiction | skip)) | refine wpC_ret ?_ | refine wpC_skip ?_ | refine wpC_label ?_) | (show Then _ _ _ _ _ _ _; first | refine then_normal ?_ | refine then_ret ?_) | (show RetP _ _ _ _ _ _ _ _; first | refine r_1 ?_))
    all_goals exact q_drop hK
  refine calls_body (N := 6) (args := [.agg x.cells.toArray]) Try.func20 rfl rfl rfl (by simp) ?_
  repeat' (first | (show wpO _ _ _ _ _ _ _; first | refine wpO_nil ?_ | refine s_rdp ?_ | refine s_rdm ?_ | refine s_exq ?_ | refine s_exm ?_) | (show Ex _ _ _ _ _; first | (show Ex _ ⟨_, .call ⟨.value (.func _), _, _⟩, _, _, _, _⟩ _ _ _; refine e_call ?_; first | (apply p_pcs; apply rmayEntry _ hx hz; (try case hS => assumption); (case hpcs => (repeat (first | exact Pcs.blk (by infer_instance) | exact Pcs.nil | (apply Pcs.cons; infer_instance) | apply Pcs.app)))) | (apply hE1) | (apply hE0)) | (show Ex _ ⟨_, .box _ _, _, _, _, _⟩ _ _ _; first | (refine e_boxA ?_; intro _) | (refine e_box1 ?_; intro _))) | (show wpC _ _ _ _ _ _; first | refine wpC_seq ?_ | refine wpC_region ?_ | refine wpC_ret ?_ | refine wpC_skip ?_ | refine wpC_label ?_) | (show Then _ _ _ _ _ _ _; first | refine then_normal ?_ | refine then_ret ?_) | (show RetP _ _ _ _ _ _ _ _; first | refine r_1 ?_) | assumption | intro _)
  all_goals first | exact q_drop (h1 (by assumption)) | exact q_drop (h0 (by assumption)) | trace_state
end Go.Vl
