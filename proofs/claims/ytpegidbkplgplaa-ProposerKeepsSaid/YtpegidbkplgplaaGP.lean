/-
  The leader's other methods: Ready, Next, Ballot, Put, Chosen, Accepted.
-/
import Derived.Test.YtpegidbkplgplaaGO
namespace Go.Vl
open Go.Proofs Classical
set_option maxHeartbeats 4000000 in
set_option maxRecDepth 100000 in
theorem opAt (x : Opn) {k : Nat} (hk : k < 5) : x.cells[0 + 56 + k * 1]? = some (.bool (x.v k)) := by
  rcases (by omega : k = 0 ∨ k = 1 ∨ k = 2 ∨ k = 3 ∨ k = 4) with rfl | rfl | rfl | rfl | rfl <;> rfl
set_option maxHeartbeats 4000000 in
set_option maxRecDepth 100000 in
theorem opSet (xs : Int) (xo : Nat) (xe : EnR) (xv : Nat → Bool) (xc : Bool) {k : Nat} (hk : k < 5) : (Opn.mk xs xo xe xv xc).cells.set (0 + 56 + k * 1) (.bool true) = (Opn.mk xs xo xe (setv xv k) xc).cells := by
  rcases (by omega : k = 0 ∨ k = 1 ∨ k = 2 ∨ k = 3 ∨ k = 4) with rfl | rfl | rfl | rfl | rfl <;> rfl
attribute [local irreducible] eqW eqV wpC wpO wpD Ex Rd callsK RetP Drop valK
set_option maxHeartbeats 4000000 in
set_option maxRecDepth 100000 in
theorem pnext (e : World) {a : Ld} {d : Nat} {r : LdR} {F : Hp} {K : Value → Hp → Prop} (hK : K (.int .i64 a.next) (r.hp a d ++ F)) : callsK Try.prog e 22 #[pv d] (r.hp a d ++ F) K := by
  refine calls_body (N := 9) (args := [pv d]) Try.func22 rfl rfl rfl (by simp) ?_
  repeat' (first | (show wpO _ _ _ _ _ _ _; first | refine wpO_nil ?_ | refine s_rdp ?_ | refine s_rdm ?_ | refine s_exq ?_ | refine s_exm ?_) | (show Ex _ _ _ _ _; first | (show Ex _ ⟨_, .call ⟨.value (.func _), _, _⟩, _, _, _, _⟩ _ _ _; refine e_call ?_; first | (apply p_pcs; apply pnone _; (try case hS => assumption); (case hpcs => (repeat (first | exact Pcs.blk (by infer_instance) | exact Pcs.nil | (apply Pcs.cons; infer_instance) | apply Pcs.app)))))) | (show wpC _ _ _ _ _ _; first | refine wpC_seq ?_ | refine wpC_region ?_ | refine c_true ?_ | refine c_false ?_ | (refine c_b (fun _ => ?_) (fun _ => ?_) <;> (first | (exfalso; omega) | contradiction | skip)) | refine wpC_ret ?_ | refine wpC_skip ?_ | refine wpC_label ?_) | (show Then _ _ _ _ _ _ _; first | refine then_normal ?_ | refine then_ret ?_) | (show RetP _ _ _ _ _ _ _ _; first | refine r_1 ?_) | assumption | intro _)
  all_goals first | exact q_drop hK | trace_state
set_option maxHeartbeats 4000000 in
set_option maxRecDepth 100000 in
theorem pready (e : World) {a : Ld} {d : Nat} {r : LdR} {F : Hp} {K : Value → Hp → Prop} (hK : K (.bool a.ready) (r.hp a d ++ F)) : callsK Try.prog e 29 #[pv d] (r.hp a d ++ F) K := by
  refine calls_body (N := 12) (args := [pv d]) Try.func29 rfl rfl rfl (by simp) ?_
  repeat' (first | (show wpO _ _ _ _ _ _ _; first | refine wpO_nil ?_ | (show wpO _ _ _ (⟨_, .pick _ _ _, _, _, _, _⟩ :: _) _ _ _; first | refine s_rdp ?_ | (refine s_p (fun _ => ?_) (fun _ => ?_) <;> (first | (exfalso; omega) | contradiction | skip)) | refine s_sks ?_ | (refine s_g (fun _ => ?_) (fun _ => ?_) <;> (first | (exfalso; omega) | contradiction | skip))) | refine s_rdp ?_ | refine s_rdm ?_ | refine s_exq ?_ | refine s_exm ?_ | refine s_sks ?_ | refine s_skn ?_ | (refine s_g (fun _ => ?_) (fun _ => ?_) <;> (first | (exfalso; omega) | contradiction | skip))) | (show Ex _ _ _ _ _; first | (show Ex _ ⟨_, .call ⟨.value (.func _), _, _⟩, _, _, _, _⟩ _ _ _; refine e_call ?_; first | (apply p_pcs; apply pnone _; (try case hS => assumption); (case hpcs => (repeat (first | exact Pcs.blk (by infer_instance) | exact Pcs.nil | (apply Pcs.cons; infer_instance) | apply Pcs.app)))))) | (show wpC _ _ _ _ _ _; first | refine wpC_seq ?_ | refine wpC_region ?_ | refine wpC_ret ?_ | refine wpC_skip ?_ | refine wpC_label ?_) | (show Then _ _ _ _ _ _ _; first | refine then_normal ?_ | refine then_ret ?_) | (show RetP _ _ _ _ _ _ _ _; first | refine r_1 ?_) | assumption | intro _)
  all_goals first | exact q_drop hK | trace_state
set_option maxHeartbeats 4000000 in
set_option maxRecDepth 100000 in
theorem pballot (e : World) {a : Ld} {d : Nat} {r : LdR} {F : Hp} {K : Value → Hp → Prop} (hK : K (.agg a.b.cells.toArray) (r.hp a d ++ F)) : callsK Try.prog e 31 #[pv d] (r.hp a d ++ F) K := by
  refine calls_body (N := 10) (args := [pv d]) Try.func31 rfl rfl rfl (by simp) ?_
  repeat' (first | refine r_CA ?_ | (show wpO _ _ _ _ _ _ _; first | refine wpO_nil ?_ | refine s_rdp ?_ | refine s_rdm ?_ | refine s_exq ?_ | refine s_exm ?_) | (show Ex _ _ _ _ _; first | (show Ex _ ⟨_, .call ⟨.value (.func _), _, _⟩, _, _, _, _⟩ _ _ _; refine e_call ?_; first | (apply p_pcs; apply pnone _; (try case hS => assumption); (case hpcs => (repeat (first | exact Pcs.blk (by infer_instance) | exact Pcs.nil | (apply Pcs.cons; infer_instance) | apply Pcs.app))))) | (show Ex _ ⟨_, .alloc _, _, _, _, _⟩ _ _ _; first | (refine e_allocA ?_; intro _) | (refine e_alloc1 ?_; intro _)) | (show Ex _ ⟨_, .store _ _ _, _, _, _, _⟩ _ _ _; first | refine e_store1 ?_ | refine e_storeA ?_ | (refine e_storeO ?_; intro _ _))) | (show wpC _ _ _ _ _ _; first | refine wpC_seq ?_ | refine wpC_region ?_ | refine c_true ?_ | refine c_false ?_ | (refine c_b (fun _ => ?_) (fun _ => ?_) <;> (first | (exfalso; omega) | contradiction | skip)) | refine wpC_ret ?_ | refine wpC_skip ?_ | refine wpC_label ?_) | (show Then _ _ _ _ _ _ _; first | refine then_normal ?_ | refine then_ret ?_) | (show RetP _ _ _ _ _ _ _ _; first | refine r_C1 ?_ | refine r_DC ?_) | assumption | intro _)
  all_goals first | exact q_drop hK | trace_state
set_option maxHeartbeats 4000000 in
set_option maxRecDepth 100000 in
theorem ok_put {a : Ld} (h : a.ok) (hr : a.ready = true) (hn : a.next ≤ 1099511627776) (e : EnC) : Ld.ok { a with L := a.L ++ [⟨a.next, e, noV⟩], next := a.next + 1 } := by
  refine ⟨h.n1, h.n5, h.f0, h.f1, ?_, ?_, h.key, h.nod, ?_, ?_, fun g => ?_⟩
  · have := h.x0; show a.fr ≤ a.next + 1; omega
  · show a.next + 1 ≤ _; omega
  · refine List.pairwise_append.2 ⟨h.srt, List.pairwise_singleton _ _, fun x hx y hy => ?_⟩
    rw [List.mem_singleton.1 hy]
    exact (h.sl x hx).2
  · intro x hx
    show a.fr ≤ x.slot ∧ x.slot < a.next + 1
    have := h.x0
    rcases List.mem_append.1 hx with hx | hx
    · have := h.sl x hx; omega
    · rw [List.mem_singleton.1 hx]; simp only; omega
  · have g : a.ready = false := g
    rw [hr] at g; cases g
set_option maxHeartbeats 4000000 in
set_option maxRecDepth 100000 in
theorem r_put {r : LdR} {a : Ld} (h : r.ok a) (hr : a.ready = true) (hn : a.next ≤ 1099511627776) {y : EnR} {e : EnC} (hy : y.c = e) (hz : EnSz e) {o : Nat} {es : Array MapEntry} {clk : Nat} {Bo Bd M' : Hp} (hO : EnO y Bo Bd) (hM' : ∀ z ∈ Bo ++ Bd, z ∈ M') (hM2 : ∀ z ∈ r.M, z ∈ M')
    (hM : MapK (Value.int .i64) pv es clk (aput (r.lo.map fun x => (x.slot, x.o)) a.next o)) :
    LdR.ok ⟨r.m1, r.m2, r.bes, r.bclk, es, clk, r.lb, r.lo ++ [⟨a.next, o, y, noV, false⟩], M'⟩ { a with L := a.L ++ [⟨a.next, e, noV⟩], next := a.next + 1 } := by
  have hn0 : aget (r.lo.map fun x => (x.slot, x.o)) a.next = none := by
    rw [aget_none]
    intro p hp
    obtain ⟨x, hx, rfl⟩ := List.mem_map.1 hp
    have := h.a.sl x.c (by rw [← h.L]; exact List.mem_map.2 ⟨x, hx, rfl⟩)
    simp only at this ⊢; omega
  rw [aput_new hn0] at hM
  refine ⟨h.best, by simpa using hM, h.came, ?_, ?_, fun p hp => ⟨(h.bi p hp).1.more hM2, (h.bi p hp).2⟩, ?_, ok_put h.a hr hn e⟩
  · show (r.lo ++ [_]).map Opn.c = a.L ++ [_]
    rw [List.map_append, h.L, ← hy]; rfl
  · intro x hx
    rcases List.mem_append.1 hx with hx | hx
    · exact h.ch x hx
    · rw [List.mem_singleton.1 hx]
      show false = decide (maj a.n ≤ cnt5 noV)
      rw [cnt_noV]; unfold maj; simp
  · intro x hx
    rcases List.mem_append.1 hx with hx | hx
    · exact ⟨(h.li x hx).1.more hM2, (h.li x hx).2⟩
    · rw [List.mem_singleton.1 hx]
      exact ⟨(EnO.inn hO).more hM', by rw [show y.c = e from hy]; exact hz⟩
end Go.Vl
