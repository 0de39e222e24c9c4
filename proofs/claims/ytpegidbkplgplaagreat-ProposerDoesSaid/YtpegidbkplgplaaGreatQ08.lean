/-
  Steps of the proof: Vp, GA.
-/
import Derived.Test.YtpegidbkplgplaaGreatQ07
import Derived.Test.YtpegidbkplgplaaGreatQ06
import Derived.Lib.AppendZeros
namespace Go.Vl
open Go.RowKit
section
variable {C : Cx} {ρ : Fr} {H : Hp} {d : Option Nat} {ty : TypeId} {pos : String} {af : Array Edge} {g : Option (Nat × Bool)} {K : Value → Hp → Prop}
end
section
variable {C : Cx} {ops : Array Oper} {Hs : Hp} {Q : Post} {pl : List Nat} {rest : List Oper} {ρ : Fr} {ds : List Nat} {H : Hp}
variable {ty : TypeId} {pos : String} {af : Array Edge} {g : Option (Nat × Bool)} {d : Nat} {v : Value} {x y : Operand} {t el : TypeId} {n k m : Nat} {q : IntKind} {xs : List Value} {Bs : Hp}
end
/-- a list of slices, in one block -/
theorem inSl_vals {α : Type} (b : Nat) (ps : List α) (f : α → Value) (h1 : ∀ p ∈ ps, (f p).oneCell' = true) (T : TypeId) : InSl [(b, cellsO (ps.map f) T)] 1 (ps.map fun p => [f p]) (.slice (some ⟨b, 0, none⟩) ps.length ps.length) := by
  have hfl : (ps.map fun p => [f p]).flatten = ps.map f := by induction ps with
    | nil => rfl
    | cons p ps ih => simp [ih (fun q hq => h1 q (List.mem_cons_of_mem _ hq))]
  refine ⟨_, _, by rw [List.length_map], by rw [List.length_map]; exact Nat.le_refl _, fun r hr => ?_, .inr ⟨b, 0, _, T, (0, 0), rfl, List.mem_cons_self, ?_⟩⟩
  · obtain ⟨p, hp, rfl⟩ := List.mem_map.1 hr
    exact ⟨rfl, by simp [ones, h1 p hp]⟩
  · refine ⟨by rw [hfl]; simp, fun j u hj => ?_⟩
    rw [hfl] at hj
    simpa using hj
end Go.Vl

namespace Go.Vl
open Go.Proofs Go.RowKit
section
variable {P : Program} {e : World} {ρ : Fr} {H : Hp} {d : Option Nat} {ty : TypeId} {pos : String} {af : Array Edge} {g : Option (Nat × Bool)}
set_option maxHeartbeats 4000000 in
set_option maxRecDepth 100000 in
theorem rd_sliceArr {x : Operand} {t el n b o len : Nat} (hx : ev ρ x = .pointer (some ⟨b, o, none⟩)) (ht : P.underlying t = some (.array len el)) (hs : sz P el = some n) : Rd P e ρ H ⟨d, .slice t x none none none, ty, pos, af, g⟩ (.slice (some ⟨b, o, none⟩) len len) := fun w _ => by
  have h0 : (Instr.sliceAt t (ev ρ x) none none none).run P w = .ok (.slice (some ⟨b, o, none⟩) len len) w := by
    rw [hx]
    unfold Instr.sliceAt Instr.sliceBounds
    simp only [Sem.run_bind, underlying_run ht, Result.andThen_ok, Sem.run_pure, Instr.sureAddr, sizeOf_run hs, Nat.sub_zero, Nat.zero_mul]
    congr 1
    split <;> rfl
  simp [execOp, h0]
end
set_option maxHeartbeats 4000000 in
set_option maxRecDepth 100000 in
theorem inSl_part (b o : Nat) (l : List Value) (ns : List Int) (T : TypeId) (h : (l.drop o).take ns.length = ns.map (Value.int .i64)) : InSl [(b, cellsO l T)] 1 (ns.map fun n => [Value.int .i64 n]) (.slice (some ⟨b, o, none⟩) ns.length ns.length) := by
  refine ⟨_, _, by rw [List.length_map], by rw [List.length_map]; exact Nat.le_refl _, fun r hr => by obtain ⟨n, _, rfl⟩ := List.mem_map.1 hr; exact ⟨rfl, rfl⟩, .inr ⟨b, o, _, _, _, rfl, List.mem_singleton.2 rfl, ?_⟩⟩
  have hf : (ns.map fun n => [Value.int .i64 n]).flatten = ns.map (Value.int .i64) := by
    clear h
    induction ns with
    | nil => rfl
    | cons a l ih => simp [ih]
  refine ⟨by rw [hf, List.length_map, List.length_map, Nat.mul_one], fun j v hj => ?_⟩
  rw [hf, ← h] at hj
  rw [List.getElem?_take] at hj
  split at hj
  · rw [List.getElem?_drop] at hj
    simpa using hj
  · cases hj
def cntOK (n : Int) : Prop := 0 ≤ n ∧ n ≤ 1099511627776
def sitOK (n : Int) : Prop := 0 ≤ n ∧ n < 8
def nodOK (n : Int) : Prop := 0 ≤ n ∧ n ≤ 1125899906842624
def txtOK (s : ByteArray) : Prop := s.size ≤ 255
structure OpC.may (o : OpC) : Prop where
  time : cntOK o.time
  site : sitOK o.site
  k1 : 1 ≤ o.kind
  k3 : o.kind ≤ 3
  node : nodOK o.node
  par : nodOK o.parent
  name : txtOK o.name
  key : txtOK o.key
  val : txtOK o.val
attribute [local irreducible] wpC wpO wpD Ex Rd callsK RetP Drop valK
set_option maxHeartbeats 4000000 in
set_option maxRecDepth 100000 in
theorem pcount_in (e : World) {ns : List Int} {v : Value} {P F : Hp} {K : Value → Hp → Prop} (hin : InSl P 1 (ns.map fun n => [Value.int .i64 n]) v) (hl : ns.length ≤ 9223372036854775806) (h1 : (∀ n ∈ ns, cntOK n) → K (.bool true) (P ++ F)) (h0 : ¬ (∀ n ∈ ns, cntOK n) → K (.bool false) (P ++ F)) :
    callsK Tryz.prog e 60 #[v] (P ++ F) K := by
  have hml : (ns.map fun n => [Value.int .i64 n]).length = ns.length := List.length_map _
  refine calls_body (N := 18) (args := [v]) Tryz.func60 rfl rfl rfl (by simp) ?_
  repeat' ((fail_if_success (show wpC _ (.loop _) _ _ _ _)); first | (show wpO _ _ _ _ _ _ _; first | refine wpO_nil ?_ | (show wpO _ _ _ (⟨_, .binOp _ _ _ _ _, _, _, _, _⟩ :: _) _ _ _; first | refine s_tt ?_ | refine s_ff ?_ | refine s_rdp ?_ | ((first | refine s_cmp (fun _ => ?_) (fun _ => ?_) | refine s_cb (fun _ => ?_) (fun _ => ?_)) <;> (first | (exfalso; omega) | contradiction | skip))) | (show wpO _ _ _ (⟨_, .indexAddr _ _ _, _, _, _, _⟩ :: _) _ _ _; first | refine s_rdp ?_ | refine s_idx (fun _ _ _ _ _ _ _ => ?_)) | (show wpO _ _ _ (⟨_, .pick _ _ _, _, _, _, _⟩ :: _) _ _ _; first | refine s_rdp ?_ | (refine s_p (fun _ => ?_) (fun _ => ?_) <;> (first | (exfalso; omega) | contradiction | skip))) | refine s_rdp ?_ | refine s_rdm ?_ | refine s_exq ?_ | refine s_exm ?_ | refine s_sks ?_ | refine s_skn ?_ | (refine s_g (fun _ => ?_) (fun _ => ?_) <;> (first | (exfalso; omega) | contradiction | skip))) | (show wpC _ _ _ _ _ _; first | refine wpC_seq ?_ | refine wpC_region ?_ | refine c_true ?_ | refine c_false ?_ | (refine c_b (fun _ => ?_) (fun _ => ?_) <;> (first | (exfalso; omega) | contradiction | skip)) | refine wpC_block ?_ | refine wpC_ret ?_ | refine wpC_skip ?_ | refine wpC_exit ?_ | refine wpC_label ?_) | (show Then _ _ _ _ _ _ _; first | refine then_normal ?_ | refine then_ret ?_ | refine then_exit ?_) | (show InBlock _ _ _ _ _ _; first | refine inBlock_normal ?_ | refine inBlock_ret ?_ | refine inBlock_same ?_ | refine b_other ?_) | (show LoopPost _ _ _ _ _ _; first | refine loop_ret ?_ | refine loop_exit ?_) | (show RetP _ _ _ _ _ _ _ _; first | refine r_1 ?_))
  refine wpC_loopA (κ := Nat) [2, 4, 7, 8, 9, 10, 11, 12, 13, 14, 15, 16, 17] (fun k => [(7, .int .i64 (k : Int))]) (fun _ => P ++ F) (fun k => k ≤ ns.length ∧ ∀ n ∈ ns.take k, cntOK n) (fun k => ns.length - k) 0 ⟨Nat.zero_le _, by simp⟩ ⟨rfl, trivial⟩ q_drp ?_
  rintro k ρx ⟨hk, hp⟩
  cases hr : ns[k]? with
  | none =>
    have hge : ns.length ≤ k := List.getElem?_eq_none_iff.1 hr
    rw [List.take_of_length_le hge] at hp
    repeat' (first | (show wpO _ _ _ _ _ _ _; first | refine wpO_nil ?_ | (show wpO _ _ _ (⟨_, .binOp _ _ _ _ _, _, _, _, _⟩ :: _) _ _ _; first | refine s_tt ?_ | refine s_ff ?_ | refine s_rdp ?_ | ((first | refine s_cmp (fun _ => ?_) (fun _ => ?_) | refine s_cb (fun _ => ?_) (fun _ => ?_)) <;> (first | (exfalso; omega) | contradiction | skip))) | (show wpO _ _ _ (⟨_, .indexAddr _ _ _, _, _, _, _⟩ :: _) _ _ _; first | refine s_rdp ?_ | refine s_idx (fun _ _ _ _ _ _ _ => ?_)) | (show wpO _ _ _ (⟨_, .pick _ _ _, _, _, _, _⟩ :: _) _ _ _; first | refine s_rdp ?_ | (refine s_p (fun _ => ?_) (fun _ => ?_) <;> (first | (exfalso; omega) | contradiction | skip))) | refine s_rdp ?_ | refine s_rdm ?_ | refine s_exq ?_ | refine s_exm ?_ | refine s_sks ?_ | refine s_skn ?_ | (refine s_g (fun _ => ?_) (fun _ => ?_) <;> (first | (exfalso; omega) | contradiction | skip))) | (show wpC _ _ _ _ _ _; first | refine wpC_seq ?_ | refine wpC_region ?_ | refine c_true ?_ | refine c_false ?_ | (refine c_b (fun _ => ?_) (fun _ => ?_) <;> (first | (exfalso; omega) | contradiction | skip)) | refine wpC_block ?_ | refine wpC_ret ?_ | refine wpC_skip ?_ | refine wpC_exit ?_ | refine wpC_label ?_) | (show Then _ _ _ _ _ _ _; first | refine then_normal ?_ | refine then_ret ?_ | refine then_exit ?_) | (show InBlock _ _ _ _ _ _; first | refine inBlock_normal ?_ | refine inBlock_ret ?_ | refine inBlock_same ?_ | refine b_other ?_) | (show LoopPost _ _ _ _ _ _; first | refine loop_ret ?_ | refine loop_exit ?_) | (show RetP _ _ _ _ _ _ _ _; first | refine r_1 ?_))
    all_goals first | (exfalso; omega) | exact q_drop (h1 hp) | trace_state
  | some n =>
    have hlt := (List.getElem?_eq_some_iff.1 hr).1
    have hr2 : (ns.map fun n => [Value.int .i64 n])[k]? = some [Value.int .i64 n] := by rw [List.getElem?_map, hr]; rfl
    have hmem := List.mem_of_getElem? hr
    have htk : ∀ m ∈ ns.take (k + 1), m ∈ ns.take k ∨ m = n := fun m hm => by rw [List.take_add_one, hr] at hm; simpa using hm
    repeat' (first | (show wpO _ _ _ _ _ _ _; first | refine wpO_nil ?_ | (show wpO _ _ _ (⟨_, .binOp _ _ _ _ _, _, _, _, _⟩ :: _) _ _ _; first | refine s_tt ?_ | refine s_ff ?_ | refine s_rdp ?_ | ((first | refine s_cmp (fun _ => ?_) (fun _ => ?_) | refine s_cb (fun _ => ?_) (fun _ => ?_)) <;> (first | (exfalso; omega) | contradiction | skip))) | (show wpO _ _ _ (⟨_, .indexAddr _ _ _, _, _, _, _⟩ :: _) _ _ _; first | refine s_rdp ?_ | refine s_idx (fun _ _ _ _ _ _ _ => ?_)) | (show wpO _ _ _ (⟨_, .pick _ _ _, _, _, _, _⟩ :: _) _ _ _; first | refine s_rdp ?_ | (refine s_p (fun _ => ?_) (fun _ => ?_) <;> (first | (exfalso; omega) | contradiction | skip))) | refine s_rdp ?_ | refine s_rdm ?_ | refine s_exq ?_ | refine s_exm ?_ | refine s_sks ?_ | refine s_skn ?_ | (refine s_g (fun _ => ?_) (fun _ => ?_) <;> (first | (exfalso; omega) | contradiction | skip))) | (show wpC _ _ _ _ _ _; first | refine wpC_seq ?_ | refine wpC_region ?_ | refine c_true ?_ | refine c_false ?_ | (refine c_b (fun _ => ?_) (fun _ => ?_) <;> (first | (exfalso; omega) | contradiction | skip)) | refine wpC_block ?_ | refine wpC_ret ?_ | refine wpC_skip ?_ | refine wpC_exit ?_ | refine wpC_label ?_) | (show Then _ _ _ _ _ _ _; first | refine then_normal ?_ | refine then_ret ?_ | refine then_exit ?_) | (show InBlock _ _ _ _ _ _; first | refine inBlock_normal ?_ | refine inBlock_ret ?_ | refine inBlock_same ?_ | refine b_other ?_) | (show LoopPost _ _ _ _ _ _; first | refine loop_ret ?_ | refine loop_exit ?_) | (show RetP _ _ _ _ _ _ _ _; first | refine r_1 ?_))
    all_goals first
      | (exfalso; omega)
      | (refine q_drop (h0 fun h => ?_); have := h n hmem; unfold cntOK at this; omega)
      | (refine lp_end (k + 1) (by show ns.length - (k + 1) < ns.length - k; omega) ⟨hlt, fun m hm => ?_⟩
         rcases htk m hm with h | rfl
         · exact hp m h
         · unfold cntOK; omega)
      | trace_state
set_option maxHeartbeats 4000000 in
set_option maxRecDepth 100000 in
theorem psite_in (e : World) {ns : List Int} {v : Value} {P F : Hp} {K : Value → Hp → Prop} (hin : InSl P 1 (ns.map fun n => [Value.int .i64 n]) v) (hl : ns.length ≤ 9223372036854775806) (h1 : (∀ n ∈ ns, sitOK n) → K (.bool true) (P ++ F)) (h0 : ¬ (∀ n ∈ ns, sitOK n) → K (.bool false) (P ++ F)) :
    callsK Tryz.prog e 62 #[v] (P ++ F) K := by
  have hml : (ns.map fun n => [Value.int .i64 n]).length = ns.length := List.length_map _
  refine calls_body (N := 18) (args := [v]) Tryz.func62 rfl rfl rfl (by simp) ?_
  repeat' ((fail_if_success (show wpC _ (.loop _) _ _ _ _)); first | (show wpO _ _ _ _ _ _ _; first | refine wpO_nil ?_ | (show wpO _ _ _ (⟨_, .binOp _ _ _ _ _, _, _, _, _⟩ :: _) _ _ _; first | refine s_tt ?_ | refine s_ff ?_ | refine s_rdp ?_ | ((first | refine s_cmp (fun _ => ?_) (fun _ => ?_) | refine s_cb (fun _ => ?_) (fun _ => ?_)) <;> (first | (exfalso; omega) | contradiction | skip))) | (show wpO _ _ _ (⟨_, .indexAddr _ _ _, _, _, _, _⟩ :: _) _ _ _; first | refine s_rdp ?_ | refine s_idx (fun _ _ _ _ _ _ _ => ?_)) | (show wpO _ _ _ (⟨_, .pick _ _ _, _, _, _, _⟩ :: _) _ _ _; first | refine s_rdp ?_ | (refine s_p (fun _ => ?_) (fun _ => ?_) <;> (first | (exfalso; omega) | contradiction | skip))) | refine s_rdp ?_ | refine s_rdm ?_ | refine s_exq ?_ | refine s_exm ?_ | refine s_sks ?_ | refine s_skn ?_ | (refine s_g (fun _ => ?_) (fun _ => ?_) <;> (first | (exfalso; omega) | contradiction | skip))) | (show wpC _ _ _ _ _ _; first | refine wpC_seq ?_ | refine wpC_region ?_ | refine c_true ?_ | refine c_false ?_ | (refine c_b (fun _ => ?_) (fun _ => ?_) <;> (first | (exfalso; omega) | contradiction | skip)) | refine wpC_block ?_ | refine wpC_ret ?_ | refine wpC_skip ?_ | refine wpC_exit ?_ | refine wpC_label ?_) | (show Then _ _ _ _ _ _ _; first | refine then_normal ?_ | refine then_ret ?_ | refine then_exit ?_) | (show InBlock _ _ _ _ _ _; first | refine inBlock_normal ?_ | refine inBlock_ret ?_ | refine inBlock_same ?_ | refine b_other ?_) | (show LoopPost _ _ _ _ _ _; first | refine loop_ret ?_ | refine loop_exit ?_) | (show RetP _ _ _ _ _ _ _ _; first | refine r_1 ?_))
  refine wpC_loopA (κ := Nat) [2, 4, 7, 8, 9, 10, 11, 12, 13, 14, 15, 16, 17] (fun k => [(7, .int .i64 (k : Int))]) (fun _ => P ++ F) (fun k => k ≤ ns.length ∧ ∀ n ∈ ns.take k, sitOK n) (fun k => ns.length - k) 0 ⟨Nat.zero_le _, by simp⟩ ⟨rfl, trivial⟩ q_drp ?_
  rintro k ρx ⟨hk, hp⟩
  cases hr : ns[k]? with
  | none =>
    have hge : ns.length ≤ k := List.getElem?_eq_none_iff.1 hr
    rw [List.take_of_length_le hge] at hp
    repeat' (first | (show wpO _ _ _ _ _ _ _; first | refine wpO_nil ?_ | (show wpO _ _ _ (⟨_, .binOp _ _ _ _ _, _, _, _, _⟩ :: _) _ _ _; first | refine s_tt ?_ | refine s_ff ?_ | refine s_rdp ?_ | ((first | refine s_cmp (fun _ => ?_) (fun _ => ?_) | refine s_cb (fun _ => ?_) (fun _ => ?_)) <;> (first | (exfalso; omega) | contradiction | skip))) | (show wpO _ _ _ (⟨_, .indexAddr _ _ _, _, _, _, _⟩ :: _) _ _ _; first | refine s_rdp ?_ | refine s_idx (fun _ _ _ _ _ _ _ => ?_)) | (show wpO _ _ _ (⟨_, .pick _ _ _, _, _, _, _⟩ :: _) _ _ _; first | refine s_rdp ?_ | (refine s_p (fun _ => ?_) (fun _ => ?_) <;> (first | (exfalso; omega) | contradiction | skip))) | refine s_rdp ?_ | refine s_rdm ?_ | refine s_exq ?_ | refine s_exm ?_ | refine s_sks ?_ | refine s_skn ?_ | (refine s_g (fun _ => ?_) (fun _ => ?_) <;> (first | (exfalso; omega) | contradiction | skip))) | (show wpC _ _ _ _ _ _; first | refine wpC_seq ?_ | refine wpC_region ?_ | refine c_true ?_ | refine c_false ?_ | (refine c_b (fun _ => ?_) (fun _ => ?_) <;> (first | (exfalso; omega) | contradiction | skip)) | refine wpC_block ?_ | refine wpC_ret ?_ | refine wpC_skip ?_ | refine wpC_exit ?_ | refine wpC_label ?_) | (show Then _ _ _ _ _ _ _; first | refine then_normal ?_ | refine then_ret ?_ | refine then_exit ?_) | (show InBlock _ _ _ _ _ _; first | refine inBlock_normal ?_ | refine inBlock_ret ?_ | refine inBlock_same ?_ | refine b_other ?_) | (show LoopPost _ _ _ _ _ _; first | refine loop_ret ?_ | refine loop_exit ?_) | (show RetP _ _ _ _ _ _ _ _; first | refine r_1 ?_))
    all_goals first | (exfalso; omega) | exact q_drop (h1 hp) | trace_state
  | some n =>
    have hlt := (List.getElem?_eq_some_iff.1 hr).1
    have hr2 : (ns.map fun n => [Value.int .i64 n])[k]? = some [Value.int .i64 n] := by rw [List.getElem?_map, hr]; rfl
    have hmem := List.mem_of_getElem? hr
    have htk : ∀ m ∈ ns.take (k + 1), m ∈ ns.take k ∨ m = n := fun m hm => by rw [List.take_add_one, hr] at hm; simpa using hm
    repeat' (first | (show wpO _ _ _ _ _ _ _; first | refine wpO_nil ?_ | (show wpO _ _ _ (⟨_, .binOp _ _ _ _ _, _, _, _, _⟩ :: _) _ _ _; first | refine s_tt ?_ | refine s_ff ?_ | refine s_rdp ?_ | ((first | refine s_cmp (fun _ => ?_) (fun _ => ?_) | refine s_cb (fun _ => ?_) (fun _ => ?_)) <;> (first | (exfalso; omega) | contradiction | skip))) | (show wpO _ _ _ (⟨_, .indexAddr _ _ _, _, _, _, _⟩ :: _) _ _ _; first | refine s_rdp ?_ | refine s_idx (fun _ _ _ _ _ _ _ => ?_)) | (show wpO _ _ _ (⟨_, .pick _ _ _, _, _, _, _⟩ :: _) _ _ _; first | refine s_rdp ?_ | (refine s_p (fun _ => ?_) (fun _ => ?_) <;> (first | (exfalso; omega) | contradiction | skip))) | refine s_rdp ?_ | refine s_rdm ?_ | refine s_exq ?_ | refine s_exm ?_ | refine s_sks ?_ | refine s_skn ?_ | (refine s_g (fun _ => ?_) (fun _ => ?_) <;> (first | (exfalso; omega) | contradiction | skip))) | (show wpC _ _ _ _ _ _; first | refine wpC_seq ?_ | refine wpC_region ?_ | refine c_true ?_ | refine c_false ?_ | (refine c_b (fun _ => ?_) (fun _ => ?_) <;> (first | (exfalso; omega) | contradiction | skip)) | refine wpC_block ?_ | refine wpC_ret ?_ | refine wpC_skip ?_ | refine wpC_exit ?_ | refine wpC_label ?_) | (show Then _ _ _ _ _ _ _; first | refine then_normal ?_ | refine then_ret ?_ | refine then_exit ?_) | (show InBlock _ _ _ _ _ _; first | refine inBlock_normal ?_ | refine inBlock_ret ?_ | refine inBlock_same ?_ | refine b_other ?_) | (show LoopPost _ _ _ _ _ _; first | refine loop_ret ?_ | refine loop_exit ?_) | (show RetP _ _ _ _ _ _ _ _; first | refine r_1 ?_))
    all_goals first
      | (exfalso; omega)
      | (refine q_drop (h0 fun h => ?_); have := h n hmem; unfold sitOK at this; omega)
      | (refine lp_end (k + 1) (by show ns.length - (k + 1) < ns.length - k; omega) ⟨hlt, fun m hm => ?_⟩
         rcases htk m hm with h | rfl
         · exact hp m h
         · unfold sitOK; omega)
      | trace_state
set_option maxHeartbeats 4000000 in
set_option maxRecDepth 100000 in
theorem pnode_in (e : World) {ns : List Int} {v : Value} {P F : Hp} {K : Value → Hp → Prop} (hin : InSl P 1 (ns.map fun n => [Value.int .i64 n]) v) (hl : ns.length ≤ 9223372036854775806) (h1 : (∀ n ∈ ns, nodOK n) → K (.bool true) (P ++ F)) (h0 : ¬ (∀ n ∈ ns, nodOK n) → K (.bool false) (P ++ F)) :
    callsK Tryz.prog e 79 #[v] (P ++ F) K := by
  have hml : (ns.map fun n => [Value.int .i64 n]).length = ns.length := List.length_map _
  refine calls_body (N := 18) (args := [v]) Tryz.func79 rfl rfl rfl (by simp) ?_
  repeat' ((fail_if_success (show wpC _ (.loop _) _ _ _ _)); first | (show wpO _ _ _ _ _ _ _; first | refine wpO_nil ?_ | (show wpO _ _ _ (⟨_, .binOp _ _ _ _ _, _, _, _, _⟩ :: _) _ _ _; first | refine s_tt ?_ | refine s_ff ?_ | refine s_rdp ?_ | ((first | refine s_cmp (fun _ => ?_) (fun _ => ?_) | refine s_cb (fun _ => ?_) (fun _ => ?_)) <;> (first | (exfalso; omega) | contradiction | skip))) | (show wpO _ _ _ (⟨_, .indexAddr _ _ _, _, _, _, _⟩ :: _) _ _ _; first | refine s_rdp ?_ | refine s_idx (fun _ _ _ _ _ _ _ => ?_)) | (show wpO _ _ _ (⟨_, .pick _ _ _, _, _, _, _⟩ :: _) _ _ _; first | refine s_rdp ?_ | (refine s_p (fun _ => ?_) (fun _ => ?_) <;> (first | (exfalso; omega) | contradiction | skip))) | refine s_rdp ?_ | refine s_rdm ?_ | refine s_exq ?_ | refine s_exm ?_ | refine s_sks ?_ | refine s_skn ?_ | (refine s_g (fun _ => ?_) (fun _ => ?_) <;> (first | (exfalso; omega) | contradiction | skip))) | (show wpC _ _ _ _ _ _; first | refine wpC_seq ?_ | refine wpC_region ?_ | refine c_true ?_ | refine c_false ?_ | (refine c_b (fun _ => ?_) (fun _ => ?_) <;> (first | (exfalso; omega) | contradiction | skip)) | refine wpC_block ?_ | refine wpC_ret ?_ | refine wpC_skip ?_ | refine wpC_exit ?_ | refine wpC_label ?_) | (show Then _ _ _ _ _ _ _; first | refine then_normal ?_ | refine then_ret ?_ | refine then_exit ?_) | (show InBlock _ _ _ _ _ _; first | refine inBlock_normal ?_ | refine inBlock_ret ?_ | refine inBlock_same ?_ | refine b_other ?_) | (show LoopPost _ _ _ _ _ _; first | refine loop_ret ?_ | refine loop_exit ?_) | (show RetP _ _ _ _ _ _ _ _; first | refine r_1 ?_))
  refine wpC_loopA (κ := Nat) [2, 4, 7, 8, 9, 10, 11, 12, 13, 14, 15, 16, 17] (fun k => [(7, .int .i64 (k : Int))]) (fun _ => P ++ F) (fun k => k ≤ ns.length ∧ ∀ n ∈ ns.take k, nodOK n) (fun k => ns.length - k) 0 ⟨Nat.zero_le _, by simp⟩ ⟨rfl, trivial⟩ q_drp ?_
  rintro k ρx ⟨hk, hp⟩
  cases hr : ns[k]? with
  | none =>
    have hge : ns.length ≤ k := List.getElem?_eq_none_iff.1 hr
    rw [List.take_of_length_le hge] at hp
    repeat' (first | (show wpO _ _ _ _ _ _ _; first | refine wpO_nil ?_ | (show wpO _ _ _ (⟨_, .binOp _ _ _ _ _, _, _, _, _⟩ :: _) _ _ _; first | refine s_tt ?_ | refine s_ff ?_ | refine s_rdp ?_ | ((first | refine s_cmp (fun _ => ?_) (fun _ => ?_) | refine s_cb (fun _ => ?_) (fun _ => ?_)) <;> (first | (exfalso; omega) | contradiction | skip))) | (show wpO _ _ _ (⟨_, .indexAddr _ _ _, _, _, _, _⟩ :: _) _ _ _; first | refine s_rdp ?_ | refine s_idx (fun _ _ _ _ _ _ _ => ?_)) | (show wpO _ _ _ (⟨_, .pick _ _ _, _, _, _, _⟩ :: _) _ _ _; first | refine s_rdp ?_ | (refine s_p (fun _ => ?_) (fun _ => ?_) <;> (first | (exfalso; omega) | contradiction | skip))) | refine s_rdp ?_ | refine s_rdm ?_ | refine s_exq ?_ | refine s_exm ?_ | refine s_sks ?_ | refine s_skn ?_ | (refine s_g (fun _ => ?_) (fun _ => ?_) <;> (first | (exfalso; omega) | contradiction | skip))) | (show wpC _ _ _ _ _ _; first | refine wpC_seq ?_ | refine wpC_region ?_ | refine c_true ?_ | refine c_false ?_ | (refine c_b (fun _ => ?_) (fun _ => ?_) <;> (first | (exfalso; omega) | contradiction | skip)) | refine wpC_block ?_ | refine wpC_ret ?_ | refine wpC_skip ?_ | refine wpC_exit ?_ | refine wpC_label ?_) | (show Then _ _ _ _ _ _ _; first | refine then_normal ?_ | refine then_ret ?_ | refine then_exit ?_) | (show InBlock _ _ _ _ _ _; first | refine inBlock_normal ?_ | refine inBlock_ret ?_ | refine inBlock_same ?_ | refine b_other ?_) | (show LoopPost _ _ _ _ _ _; first | refine loop_ret ?_ | refine loop_exit ?_) | (show RetP _ _ _ _ _ _ _ _; first | refine r_1 ?_))
    all_goals first | (exfalso; omega) | exact q_drop (h1 hp) | trace_state
  | some n =>
    have hlt := (List.getElem?_eq_some_iff.1 hr).1
    have hr2 : (ns.map fun n => [Value.int .i64 n])[k]? = some [Value.int .i64 n] := by rw [List.getElem?_map, hr]; rfl
    have hmem := List.mem_of_getElem? hr
    have htk : ∀ m ∈ ns.take (k + 1), m ∈ ns.take k ∨ m = n := fun m hm => by rw [List.take_add_one, hr] at hm; simpa using hm
    repeat' (first | (show wpO _ _ _ _ _ _ _; first | refine wpO_nil ?_ | (show wpO _ _ _ (⟨_, .binOp _ _ _ _ _, _, _, _, _⟩ :: _) _ _ _; first | refine s_tt ?_ | refine s_ff ?_ | refine s_rdp ?_ | ((first | refine s_cmp (fun _ => ?_) (fun _ => ?_) | refine s_cb (fun _ => ?_) (fun _ => ?_)) <;> (first | (exfalso; omega) | contradiction | skip))) | (show wpO _ _ _ (⟨_, .indexAddr _ _ _, _, _, _, _⟩ :: _) _ _ _; first | refine s_rdp ?_ | refine s_idx (fun _ _ _ _ _ _ _ => ?_)) | (show wpO _ _ _ (⟨_, .pick _ _ _, _, _, _, _⟩ :: _) _ _ _; first | refine s_rdp ?_ | (refine s_p (fun _ => ?_) (fun _ => ?_) <;> (first | (exfalso; omega) | contradiction | skip))) | refine s_rdp ?_ | refine s_rdm ?_ | refine s_exq ?_ | refine s_exm ?_ | refine s_sks ?_ | refine s_skn ?_ | (refine s_g (fun _ => ?_) (fun _ => ?_) <;> (first | (exfalso; omega) | contradiction | skip))) | (show wpC _ _ _ _ _ _; first | refine wpC_seq ?_ | refine wpC_region ?_ | refine c_true ?_ | refine c_false ?_ | (refine c_b (fun _ => ?_) (fun _ => ?_) <;> (first | (exfalso; omega) | contradiction | skip)) | refine wpC_block ?_ | refine wpC_ret ?_ | refine wpC_skip ?_ | refine wpC_exit ?_ | refine wpC_label ?_) | (show Then _ _ _ _ _ _ _; first | refine then_normal ?_ | refine then_ret ?_ | refine then_exit ?_) | (show InBlock _ _ _ _ _ _; first | refine inBlock_normal ?_ | refine inBlock_ret ?_ | refine inBlock_same ?_ | refine b_other ?_) | (show LoopPost _ _ _ _ _ _; first | refine loop_ret ?_ | refine loop_exit ?_) | (show RetP _ _ _ _ _ _ _ _; first | refine r_1 ?_))
    all_goals first
      | (exfalso; omega)
      | (refine q_drop (h0 fun h => ?_); have := h n hmem; unfold nodOK at this; omega)
      | (refine lp_end (k + 1) (by show ns.length - (k + 1) < ns.length - k; omega) ⟨hlt, fun m hm => ?_⟩
         rcases htk m hm with h | rfl
         · exact hp m h
         · unfold nodOK; omega)
      | trace_state
set_option maxHeartbeats 4000000 in
set_option maxRecDepth 100000 in
theorem ptext_in (e : World) {ns : List ByteArray} {v : Value} {P F : Hp} {K : Value → Hp → Prop} (hin : InSl P 1 (ns.map fun n => [Value.string n]) v) (hl : ns.length ≤ 9223372036854775806) (h1 : (∀ n ∈ ns, txtOK n) → K (.bool true) (P ++ F)) (h0 : ¬ (∀ n ∈ ns, txtOK n) → K (.bool false) (P ++ F)) :
    callsK Tryz.prog e 80 #[v] (P ++ F) K := by
  have hml : (ns.map fun n => [Value.string n]).length = ns.length := List.length_map _
  refine calls_body (N := 15) (args := [v]) Tryz.func80 rfl rfl rfl (by simp) ?_
  repeat' ((fail_if_success (show wpC _ (.loop _) _ _ _ _)); first | (show wpO _ _ _ _ _ _ _; first | refine wpO_nil ?_ | (show wpO _ _ _ (⟨_, .binOp _ _ _ _ _, _, _, _, _⟩ :: _) _ _ _; first | refine s_tt ?_ | refine s_ff ?_ | refine s_rdp ?_ | ((first | refine s_cmp (fun _ => ?_) (fun _ => ?_) | refine s_cb (fun _ => ?_) (fun _ => ?_)) <;> (first | (exfalso; omega) | contradiction | skip))) | (show wpO _ _ _ (⟨_, .indexAddr _ _ _, _, _, _, _⟩ :: _) _ _ _; first | refine s_rdp ?_ | refine s_idx (fun _ _ _ _ _ _ _ => ?_)) | refine s_rdp ?_ | refine s_rdm ?_ | refine s_exq ?_ | refine s_exm ?_) | (show wpC _ _ _ _ _ _; first | refine wpC_seq ?_ | refine wpC_region ?_ | refine c_true ?_ | refine c_false ?_ | (refine c_b (fun _ => ?_) (fun _ => ?_) <;> (first | (exfalso; omega) | contradiction | skip)) | refine wpC_block ?_ | refine wpC_ret ?_ | refine wpC_skip ?_ | refine wpC_exit ?_ | refine wpC_label ?_) | (show Then _ _ _ _ _ _ _; first | refine then_normal ?_ | refine then_ret ?_ | refine then_exit ?_) | (show InBlock _ _ _ _ _ _; first | refine inBlock_normal ?_ | refine inBlock_ret ?_ | refine inBlock_same ?_ | refine b_other ?_) | (show LoopPost _ _ _ _ _ _; first | refine loop_ret ?_ | refine loop_exit ?_) | (show RetP _ _ _ _ _ _ _ _; first | refine r_1 ?_))
  refine wpC_loopA (κ := Nat) [2, 4, 7, 8, 9, 10, 11, 12, 13, 14] (fun k => [(7, .int .i64 (k : Int))]) (fun _ => P ++ F) (fun k => k ≤ ns.length ∧ ∀ n ∈ ns.take k, txtOK n) (fun k => ns.length - k) 0 ⟨Nat.zero_le _, by simp⟩ ⟨rfl, trivial⟩ q_drp ?_
  rintro k ρx ⟨hk, hp⟩
  cases hr : ns[k]? with
  | none =>
    have hge : ns.length ≤ k := List.getElem?_eq_none_iff.1 hr
    rw [List.take_of_length_le hge] at hp
    repeat' (first | (show wpO _ _ _ _ _ _ _; first | refine wpO_nil ?_ | (show wpO _ _ _ (⟨_, .binOp _ _ _ _ _, _, _, _, _⟩ :: _) _ _ _; first | refine s_tt ?_ | refine s_ff ?_ | refine s_rdp ?_ | ((first | refine s_cmp (fun _ => ?_) (fun _ => ?_) | refine s_cb (fun _ => ?_) (fun _ => ?_)) <;> (first | (exfalso; omega) | contradiction | skip))) | (show wpO _ _ _ (⟨_, .indexAddr _ _ _, _, _, _, _⟩ :: _) _ _ _; first | refine s_rdp ?_ | refine s_idx (fun _ _ _ _ _ _ _ => ?_)) | refine s_rdp ?_ | refine s_rdm ?_ | refine s_exq ?_ | refine s_exm ?_) | (show wpC _ _ _ _ _ _; first | refine wpC_seq ?_ | refine wpC_region ?_ | refine c_true ?_ | refine c_false ?_ | (refine c_b (fun _ => ?_) (fun _ => ?_) <;> (first | (exfalso; omega) | contradiction | skip)) | refine wpC_block ?_ | refine wpC_ret ?_ | refine wpC_skip ?_ | refine wpC_exit ?_ | refine wpC_label ?_) | (show Then _ _ _ _ _ _ _; first | refine then_normal ?_ | refine then_ret ?_ | refine then_exit ?_) | (show InBlock _ _ _ _ _ _; first | refine inBlock_normal ?_ | refine inBlock_ret ?_ | refine inBlock_same ?_ | refine b_other ?_) | (show LoopPost _ _ _ _ _ _; first | refine loop_ret ?_ | refine loop_exit ?_) | (show RetP _ _ _ _ _ _ _ _; first | refine r_1 ?_))
    all_goals first | (exfalso; omega) | exact q_drop (h1 hp) | trace_state
  | some n =>
    have hlt := (List.getElem?_eq_some_iff.1 hr).1
    have hr2 : (ns.map fun n => [Value.string n])[k]? = some [Value.string n] := by rw [List.getElem?_map, hr]; rfl
    have hmem := List.mem_of_getElem? hr
    have htk : ∀ m ∈ ns.take (k + 1), m ∈ ns.take k ∨ m = n := fun m hm => by rw [List.take_add_one, hr] at hm; simpa using hm
    repeat' (first | (show wpO _ _ _ _ _ _ _; first | refine wpO_nil ?_ | (show wpO _ _ _ (⟨_, .binOp _ _ _ _ _, _, _, _, _⟩ :: _) _ _ _; first | refine s_tt ?_ | refine s_ff ?_ | refine s_rdp ?_ | ((first | refine s_cmp (fun _ => ?_) (fun _ => ?_) | refine s_cb (fun _ => ?_) (fun _ => ?_)) <;> (first | (exfalso; omega) | contradiction | skip))) | (show wpO _ _ _ (⟨_, .indexAddr _ _ _, _, _, _, _⟩ :: _) _ _ _; first | refine s_rdp ?_ | refine s_idx (fun _ _ _ _ _ _ _ => ?_)) | refine s_rdp ?_ | refine s_rdm ?_ | refine s_exq ?_ | refine s_exm ?_) | (show wpC _ _ _ _ _ _; first | refine wpC_seq ?_ | refine wpC_region ?_ | refine c_true ?_ | refine c_false ?_ | (refine c_b (fun _ => ?_) (fun _ => ?_) <;> (first | (exfalso; omega) | contradiction | skip)) | refine wpC_block ?_ | refine wpC_ret ?_ | refine wpC_skip ?_ | refine wpC_exit ?_ | refine wpC_label ?_) | (show Then _ _ _ _ _ _ _; first | refine then_normal ?_ | refine then_ret ?_ | refine then_exit ?_) | (show InBlock _ _ _ _ _ _; first | refine inBlock_normal ?_ | refine inBlock_ret ?_ | refine inBlock_same ?_ | refine b_other ?_) | (show LoopPost _ _ _ _ _ _; first | refine loop_ret ?_ | refine loop_exit ?_) | (show RetP _ _ _ _ _ _ _ _; first | refine r_1 ?_))
    all_goals first
      | (exfalso; omega)
      | (refine q_drop (h0 fun h => ?_); have := h n hmem; unfold txtOK at this; omega)
      | (refine lp_end (k + 1) (by show ns.length - (k + 1) < ns.length - k; omega) ⟨hlt, fun m hm => ?_⟩
         rcases htk m hm with h | rfl
         · exact hp m h
         · unfold txtOK; omega)
      | trace_state
set_option maxHeartbeats 4000000 in
set_option maxRecDepth 100000 in
theorem pcount1 (e : World) {b : Nat} {x : Int} {F : Hp} {K : Value → Hp → Prop} (h1 : cntOK x → K (.bool true) ([(b, cellsO [.int .i64 x] 2)] ++ F)) (h0 : ¬ cntOK x → K (.bool false) ([(b, cellsO [.int .i64 x] 2)] ++ F)) :
    callsK Tryz.prog e 60 #[.slice (some ⟨b, 0, none⟩) 1 1] ([(b, cellsO [.int .i64 x] 2)] ++ F) K :=
  pcount_in e (inSl_part b 0 [.int .i64 x] [x] 2 rfl) (by simp) (fun h => h1 (h x (by simp))) (fun h => h0 fun hx => h (by simpa using hx))
set_option maxHeartbeats 4000000 in
set_option maxRecDepth 100000 in
theorem pcount2 (e : World) {b : Nat} {x y : Int} {F : Hp} {K : Value → Hp → Prop} (h1 : cntOK x → cntOK y → K (.bool true) ([(b, cellsO [.int .i64 x, .int .i64 y] 2)] ++ F)) (h0 : ¬ (cntOK x ∧ cntOK y) → K (.bool false) ([(b, cellsO [.int .i64 x, .int .i64 y] 2)] ++ F)) :
    callsK Tryz.prog e 60 #[.slice (some ⟨b, 0, none⟩) 2 2] ([(b, cellsO [.int .i64 x, .int .i64 y] 2)] ++ F) K :=
  pcount_in e (inSl_part b 0 [.int .i64 x, .int .i64 y] [x, y] 2 rfl) (by simp) (fun h => h1 (h x (by simp)) (h y (by simp))) (fun h => h0 fun hx => h (by simpa using hx))
set_option maxHeartbeats 4000000 in
set_option maxRecDepth 100000 in
theorem psite1 (e : World) {b : Nat} {x : Int} {F : Hp} {K : Value → Hp → Prop} (h1 : sitOK x → K (.bool true) ([(b, cellsO [.int .i64 x] 3)] ++ F)) (h0 : ¬ sitOK x → K (.bool false) ([(b, cellsO [.int .i64 x] 3)] ++ F)) :
    callsK Tryz.prog e 62 #[.slice (some ⟨b, 0, none⟩) 1 1] ([(b, cellsO [.int .i64 x] 3)] ++ F) K :=
  psite_in e (inSl_part b 0 [.int .i64 x] [x] 3 rfl) (by simp) (fun h => h1 (h x (by simp))) (fun h => h0 fun hx => h (by simpa using hx))
set_option maxHeartbeats 4000000 in
set_option maxRecDepth 100000 in
theorem psite2 (e : World) {b : Nat} {x y : Int} {F : Hp} {K : Value → Hp → Prop} (h1 : sitOK x → sitOK y → K (.bool true) ([(b, cellsO [.int .i64 x, .int .i64 y] 3)] ++ F)) (h0 : ¬ (sitOK x ∧ sitOK y) → K (.bool false) ([(b, cellsO [.int .i64 x, .int .i64 y] 3)] ++ F)) :
    callsK Tryz.prog e 62 #[.slice (some ⟨b, 0, none⟩) 2 2] ([(b, cellsO [.int .i64 x, .int .i64 y] 3)] ++ F) K :=
  psite_in e (inSl_part b 0 [.int .i64 x, .int .i64 y] [x, y] 3 rfl) (by simp) (fun h => h1 (h x (by simp)) (h y (by simp))) (fun h => h0 fun hx => h (by simpa using hx))
set_option maxHeartbeats 4000000 in
set_option maxRecDepth 100000 in
theorem pnode2 (e : World) {b : Nat} {x y : Int} {F : Hp} {K : Value → Hp → Prop} (h1 : nodOK x → nodOK y → K (.bool true) ([(b, cellsO [.int .i64 x, .int .i64 y] 2)] ++ F)) (h0 : ¬ (nodOK x ∧ nodOK y) → K (.bool false) ([(b, cellsO [.int .i64 x, .int .i64 y] 2)] ++ F)) :
    callsK Tryz.prog e 79 #[.slice (some ⟨b, 0, none⟩) 2 2] ([(b, cellsO [.int .i64 x, .int .i64 y] 2)] ++ F) K :=
  pnode_in e (inSl_part b 0 [.int .i64 x, .int .i64 y] [x, y] 2 rfl) (by simp) (fun h => h1 (h x (by simp)) (h y (by simp))) (fun h => h0 fun hx => h (by simpa using hx))
set_option maxHeartbeats 4000000 in
set_option maxRecDepth 100000 in
theorem ptext3 (e : World) {b : Nat} {x y z : ByteArray} {F : Hp} {K : Value → Hp → Prop} (h1 : txtOK x → txtOK y → txtOK z → K (.bool true) ([(b, cellsO [.string x, .string y, .string z] 9)] ++ F)) (h0 : ¬ (txtOK x ∧ txtOK y ∧ txtOK z) → K (.bool false) ([(b, cellsO [.string x, .string y, .string z] 9)] ++ F)) :
    callsK Tryz.prog e 80 #[.slice (some ⟨b, 0, none⟩) 3 3] ([(b, cellsO [.string x, .string y, .string z] 9)] ++ F) K :=
  ptext_in e (inSl_vals b [x, y, z] Value.string (fun _ _ => rfl) 9) (by simp) (fun h => h1 (h x (by simp)) (h y (by simp)) (h z (by simp))) (fun h => h0 fun hx => h (by simpa using hx))
end Go.Vl
