/-
  The acceptor as an opaque piece of memory: Prepare, Accept, Promised, First, Len, At, All.
-/
import Derived.Test.YtagdhnbodddipaaA6
import Derived.Test.YtagdhnbodddipaaVg
namespace Go.Vl
open Go.Proofs
/-- the acceptor in memory -/
def AcO (a : Ac) (d : Nat) (H : Hp) : Prop := ∃ m es clk l, H = accO d m es clk a.prom a.first ++ acH l ∧ MapS es clk l ∧ AcR l a.L
/-- a list of its own -/
def OwnL (L : List Sl) (v : Value) (H : Hp) : Prop := ∃ ls Bs, H = Bs ++ acH ls ∧ ls.map SlR.c = L ∧ (∀ s ∈ ls, s.ok) ∧ SlO 52 59 v ls.length (ls.map SlR.cells).flatten Bs
/-- a list that can be read -/
def RdL (L : List Sl) (v : Value) (H : Hp) : Prop := ∃ ls : List SlR, ls.map SlR.c = L ∧ InSl H 59 (ls.map SlR.cells) v ∧ ∀ s ∈ ls, EnIn H s.en
set_option maxHeartbeats 4000000 in
set_option maxRecDepth 100000 in
theorem OwnL.nil : OwnL [] (.slice none 0 0) [] := ⟨[], [], rfl, rfl, (fun _ h => by cases h), SlO.nil 52 59⟩
set_option maxHeartbeats 4000000 in
set_option maxRecDepth 100000 in
theorem slsIn {v : Value} {ls : List SlR} {B : Hp} (h : SlO 52 59 v ls.length (ls.map SlR.cells).flatten B) : InSl B 59 (ls.map SlR.cells) v :=
  SlO.inB (by rw [List.length_map]; exact h) (fun r hr => by obtain ⟨u, _, rfl⟩ := List.mem_map.1 hr; exact ⟨rfl, rfl⟩)
set_option maxHeartbeats 4000000 in
set_option maxRecDepth 100000 in
theorem OwnL.rd {L : List Sl} {v : Value} {H : Hp} (h : OwnL L v H) : RdL L v H := by
  obtain ⟨ls, Bs, rfl, h1, h2, h3⟩ := h
  exact ⟨ls, h1, (slsIn h3).more fun x hx => List.mem_append_left _ hx, fun s hs => (acH_in hs (h2 s hs)).more fun x hx => List.mem_append_right _ hx⟩
set_option maxHeartbeats 4000000 in
set_option maxRecDepth 100000 in
theorem RdL.more {L : List Sl} {v : Value} {P Q : Hp} (h : RdL L v P) (hs : ∀ x ∈ P, x ∈ Q) : RdL L v Q := let ⟨ls, h1, h2, h3⟩ := h; ⟨ls, h1, h2.more hs, fun s hx => (h3 s hx).more hs⟩
set_option maxHeartbeats 4000000 in
set_option maxRecDepth 100000 in
theorem AcO.sorted {a : Ac} {d : Nat} {H : Hp} (h : AcO a d H) : Sorted a.L := let ⟨_, _, _, _, _, _, h⟩ := h; h.srt
def zeroS (n : Int) : Sl := ⟨n, ⟨0, 0⟩, zeroE.c⟩
set_option maxHeartbeats 4000000 in
set_option maxRecDepth 100000 in
theorem AcR.none {l : List SlR} {L : List Sl} (h : AcR l L) {n : Int} (hg : aget (l.map fun s => (s.slot, s)) n = none) : ∀ x ∈ L, x.slot ≠ n := fun x hx he => by
  obtain ⟨s, _, _, h2⟩ := h.find hx
  rw [he, hg] at h2
  cases h2
set_option maxHeartbeats 4000000 in
set_option maxRecDepth 100000 in
theorem AcR.some {l : List SlR} {L : List Sl} (h : AcR l L) {n : Int} {s : SlR} (hg : aget (l.map fun s => (s.slot, s)) n = some s) : s ∈ l ∧ s.c ∈ L ∧ s.slot = n := by
  have hm := aget_some_mem hg
  obtain ⟨t, ht, he⟩ := List.mem_map.1 hm
  simp only [Prod.mk.injEq] at he
  obtain ⟨h1, rfl⟩ := he
  exact ⟨ht, h.p.mem_iff.1 (List.mem_map.2 ⟨_, ht, rfl⟩), h1⟩
attribute [local irreducible] wpC wpO wpD Ex Rd callsK RetP Drop valK
set_option maxHeartbeats 4000000 in
set_option maxRecDepth 100000 in
theorem anew_A (e : World) {F : Hp} {K : Value → Hp → Prop} (hK : ∀ d H, AcO ⟨⟨0, 0⟩, 0, []⟩ d H → K (pv d) (H ++ F)) : callsK Try.prog e 19 #[] F K :=
  anew2 e fun d m => hK d _ ⟨m, #[], 0, [], rfl, MapK.nil _ _, AcR.nil⟩
set_option maxHeartbeats 4000000 in
set_option maxRecDepth 100000 in
theorem prepare_A (e : World) {d : Nat} {a : Ac} {b : Bal} {n : Int} {H F : Hp} {K : Value → Hp → Prop} (hA : AcO a d H) (hl : a.L.length * 528 ≤ 140737488355328)
    (hK : ∀ v Hl H', OwnL (a.prepare b n).2.1 v Hl → AcO (a.prepare b n).2.2 d H' → K (.tuple #[v, .int .i64 (a.prepare b n).1]) ((Hl ++ H') ++ F)) :
    callsK Try.prog e 20 #[pv d, .agg b.cells.toArray, .int .i64 n] (H ++ F) K := by
  obtain ⟨m, es, clk, l, rfl, hM, hR⟩ := hA
  refine prepare_spec e hM hR hl (fun h => ?_) (fun h1 h2 h3 => ?_) (fun h1 h2 h3 v Bs ls h4 h5 h6 => ?_)
  · have := hK (.slice none 0 0) [] _ (by unfold Ac.prepare; rw [if_pos h]; exact OwnL.nil) ⟨m, es, clk, l, rfl, hM, by unfold Ac.prepare; rw [if_pos h]; exact hR⟩
    unfold Ac.prepare at this
    rw [if_pos h] at this
    exact this
  · have h0 : ¬ (¬ b.ok ∨ ¬ slotOK n) := fun h => h.elim (fun h => h h1) (fun h => h h2)
    have := hK (.slice none 0 0) [] _ (by unfold Ac.prepare; rw [if_neg h0, if_pos h3]; exact OwnL.nil) ⟨m, es, clk, l, rfl, hM, by unfold Ac.prepare; rw [if_neg h0, if_pos h3]; exact hR⟩
    unfold Ac.prepare at this
    rw [if_neg h0, if_pos h3] at this
    exact this
  · have h0 : ¬ (¬ b.ok ∨ ¬ slotOK n) := fun h => h.elim (fun h => h h1) (fun h => h h2)
    have := hK v (Bs ++ acH ls) _ (by unfold Ac.prepare; rw [if_neg h0, if_neg h3]; exact ⟨ls, Bs, rfl, h4, h5, h6⟩) ⟨m, es, clk, l, rfl, hM, by unfold Ac.prepare; rw [if_neg h0, if_neg h3]; exact hR⟩
    unfold Ac.prepare at this
    rw [if_neg h0, if_neg h3] at this
    rw [List.append_assoc] at this
    exact this
set_option maxHeartbeats 4000000 in
set_option maxRecDepth 100000 in
theorem accept_A (e : World) {d : Nat} {a : Ac} {b : Bal} {n : Int} {x : EnR} {H P F : Hp} {K : Value → Hp → Prop} (hA : AcO a d H) (hx : EnIn P x) (hz : EnSz x.c)
    (hK : ∀ H', AcO (a.accept b n x.c).2 d H' → K (.int .i64 (a.accept b n x.c).1) ((H' ++ P) ++ F)) :
    callsK Try.prog e 22 #[pv d, .agg b.cells.toArray, .int .i64 n, .agg x.cells.toArray] ((H ++ P) ++ F) K := by
  obtain ⟨m, es, clk, l, rfl, hM, hR⟩ := hA
  refine accept_spec e hM hR hx hz (fun h => ?_) (fun h1 h2 h3 => ?_) (fun h1 h2 h3 h4 => ?_) (fun h1 h2 h3 h4 es' clk' l' hM' hR' => ?_)
  · have := hK _ ⟨m, es, clk, l, rfl, hM, by unfold Ac.accept; rw [if_pos h]; exact hR⟩
    unfold Ac.accept at this
    rw [if_pos h] at this
    exact this
  · have h0 : ¬ (¬ b.ok ∨ ¬ slotOK n) := fun h => h.elim (fun h => h h1) (fun h => h h2)
    have := hK _ ⟨m, es, clk, l, rfl, hM, by unfold Ac.accept; rw [if_neg h0, if_pos h3]; exact hR⟩
    unfold Ac.accept at this
    rw [if_neg h0, if_pos h3] at this
    exact this
  · have h0 : ¬ (¬ b.ok ∨ ¬ slotOK n) := fun h => h.elim (fun h => h h1) (fun h => h h2)
    have := hK _ ⟨m, es, clk, l, rfl, hM, by unfold Ac.accept; rw [if_neg h0, if_neg h3, if_pos h4]; exact hR⟩
    unfold Ac.accept at this
    rw [if_neg h0, if_neg h3, if_pos h4] at this
    exact this
  · have h0 : ¬ (¬ b.ok ∨ ¬ slotOK n) := fun h => h.elim (fun h => h h1) (fun h => h h2)
    have h5 : ¬ n < a.first := by omega
    have := hK _ ⟨m, es', clk', l', rfl, hM', by unfold Ac.accept; rw [if_neg h0, if_neg h3, if_neg h5]; exact hR'⟩
    unfold Ac.accept at this
    rw [if_neg h0, if_neg h3, if_neg h5] at this
    exact this
set_option maxHeartbeats 4000000 in
set_option maxRecDepth 100000 in
theorem none_A (e : World) {d : Nat} {a : Ac} {H F : Hp} {K : Value → Hp → Prop} (hA : AcO a d H) (hK : K (.bool false) (H ++ F)) : callsK Try.prog e 60 #[pv d] (H ++ F) K := by
  obtain ⟨m, es, clk, l, rfl, hM, hR⟩ := hA
  rw [List.append_assoc] at hK ⊢
  exact none_a e hK
set_option maxHeartbeats 4000000 in
set_option maxRecDepth 100000 in
theorem prom_A (e : World) {d : Nat} {a : Ac} {H F : Hp} {K : Value → Hp → Prop} (hA : AcO a d H) (hK : K (.agg a.prom.cells.toArray) (H ++ F)) : callsK Try.prog e 33 #[pv d] (H ++ F) K := by
  obtain ⟨m, es, clk, l, rfl, hM, hR⟩ := hA
  rw [List.append_assoc] at hK ⊢
  exact prom_a e hK
set_option maxHeartbeats 4000000 in
set_option maxRecDepth 100000 in
theorem first_A (e : World) {d : Nat} {a : Ac} {H F : Hp} {K : Value → Hp → Prop} (hA : AcO a d H) (hK : K (.int .i64 a.first) (H ++ F)) : callsK Try.prog e 34 #[pv d] (H ++ F) K := by
  obtain ⟨m, es, clk, l, rfl, hM, hR⟩ := hA
  rw [List.append_assoc] at hK ⊢
  exact first_a e hK
set_option maxHeartbeats 4000000 in
set_option maxRecDepth 100000 in
theorem len_A (e : World) {d : Nat} {a : Ac} {H F : Hp} {K : Value → Hp → Prop} (hA : AcO a d H) (hK : K (.int .i64 (a.L.length : Int)) (H ++ F)) : callsK Try.prog e 39 #[pv d] (H ++ F) K := by
  obtain ⟨m, es, clk, l, rfl, hM, hR⟩ := hA
  rw [List.append_assoc] at hK ⊢
  rw [← hR.len] at hK
  exact len_a e hM hK
set_option maxHeartbeats 4000000 in
set_option maxRecDepth 100000 in
theorem at_A (e : World) {d : Nat} {a : Ac} {n : Int} {H F : Hp} {K : Value → Hp → Prop} (hA : AcO a d H)
    (h1 : ∀ y : SlR, y.ok → y.c ∈ a.L → y.slot = n → K (.tuple #[slV y, .bool true]) ((y.hp ++ H) ++ F)) (h0 : (∀ x ∈ a.L, x.slot ≠ n) → ∀ y : SlR, y.ok → y.c = zeroS 0 → K (.tuple #[slV y, .bool false]) ((y.hp ++ H) ++ F)) :
    callsK Try.prog e 27 #[pv d, .int .i64 n] (H ++ F) K := by
  obtain ⟨m, es, clk, l, rfl, hM, hR⟩ := hA
  cases hg : aget (l.map fun s => (s.slot, s)) n with
  | none =>
    have hno := hR.none hg
    have h0' := h0 hno
    refine calls_body (N := 23) (args := [pv d, .int .i64 n]) Try.func27 rfl rfl rfl (by simp) ?_
    repeat' (first | refine r_C1 ?_ | (show wpO _ _ _ _ _ _ _; first | refine wpO_nil ?_ | (show wpO _ _ _ (⟨_, .lookup _ _ _ _, _, _, _, _⟩ :: _) _ _ _; first | refine s_rdm ?_ | refine s_look (fun _ _ => ?_) (fun _ => ?_)) | refine s_rdp ?_ | refine s_rdm ?_ | refine s_exq ?_ | refine s_exm ?_) | (show Ex _ _ _ _ _; first | (show Ex _ ⟨_, .call ⟨.value (.func _), _, _⟩, _, _, _, _⟩ _ _ _; refine e_call ?_; first | (apply p_pcs; apply none_a _; (try case hS => assumption); (case hpcs => (repeat (first | exact Pcs.blk (by infer_instance) | exact Pcs.nil | (apply Pcs.cons; infer_instance) | apply Pcs.app)))) | (apply p_pcs; apply twin_spec _ (s := ⟨0, ⟨0, 0⟩, zeroE, [], []⟩) (P := []) zeroE_in zeroE_sz; (try case hS => assumption); (case hpcs => (repeat (first | exact Pcs.blk (by infer_instance) | exact Pcs.nil | (apply Pcs.cons; infer_instance) | apply Pcs.app))))) | (show Ex _ ⟨_, .alloc _, _, _, _, _⟩ _ _ _; first | (refine e_allocA ?_; intro _) | (refine e_alloc1 ?_; intro _)) | (show Ex _ ⟨_, .store _ _ _, _, _, _, _⟩ _ _ _; first | refine e_store1 ?_ | refine e_storeA ?_ | (refine e_storeO ?_; intro _ _))) | (show wpC _ _ _ _ _ _; first | refine wpC_seq ?_ | refine wpC_region ?_ | refine c_true ?_ | refine c_false ?_ | (refine c_b (fun _ => ?_) (fun _ => ?_) <;> (first | (exfalso; omega) | contradiction | skip)) | refine wpC_ret ?_ | refine wpC_skip ?_ | refine wpC_label ?_) | (show Then _ _ _ _ _ _ _; first | refine then_normal ?_ | refine then_ret ?_) | (show RetP _ _ _ _ _ _ _ _; first | refine r_C1 ?_ | refine r_DC ?_) | assumption | intro _)
    rename_i y hyc hyok
    exact q_drop (h0' y hyok hyc)
  | some s =>
    obtain ⟨hsl, hsL, hsn⟩ := hR.some hg
    have hsi := acH_in hsl (hR.ok s hsl)
    have hsz := hR.sz s hsl
    refine calls_body (N := 23) (args := [pv d, .int .i64 n]) Try.func27 rfl rfl rfl (by simp) ?_
    repeat' (first | refine r_C1 ?_ | (show wpO _ _ _ _ _ _ _; first | refine wpO_nil ?_ | (show wpO _ _ _ (⟨_, .lookup _ _ _ _, _, _, _, _⟩ :: _) _ _ _; first | refine s_rdm ?_ | refine s_look (fun _ _ => ?_) (fun _ => ?_)) | refine s_rdp ?_ | refine s_rdm ?_ | refine s_exq ?_ | refine s_exm ?_) | (show Ex _ _ _ _ _; first | (show Ex _ ⟨_, .call ⟨.value (.func _), _, _⟩, _, _, _, _⟩ _ _ _; refine e_call ?_; first | (apply p_pcs; apply none_a _; (try case hS => assumption); (case hpcs => (repeat (first | exact Pcs.blk (by infer_instance) | exact Pcs.nil | (apply Pcs.cons; infer_instance) | apply Pcs.app)))) | (apply p_pcs; apply twin_spec _ hsi hsz; (try case hS => assumption); (case hpcs => (repeat (first | exact Pcs.blk (by infer_instance) | exact Pcs.nil | (apply Pcs.cons; infer_instance) | apply Pcs.app))))) | (show Ex _ ⟨_, .alloc _, _, _, _, _⟩ _ _ _; first | (refine e_allocA ?_; intro _) | (refine e_alloc1 ?_; intro _)) | (show Ex _ ⟨_, .store _ _ _, _, _, _, _⟩ _ _ _; first | refine e_store1 ?_ | refine e_storeA ?_ | (refine e_storeO ?_; intro _ _))) | (show wpC _ _ _ _ _ _; first | refine wpC_seq ?_ | refine wpC_region ?_ | refine c_true ?_ | refine c_false ?_ | (refine c_b (fun _ => ?_) (fun _ => ?_) <;> (first | (exfalso; omega) | contradiction | skip)) | refine wpC_ret ?_ | refine wpC_skip ?_ | refine wpC_label ?_) | (show Then _ _ _ _ _ _ _; first | refine then_normal ?_ | refine then_ret ?_) | (show RetP _ _ _ _ _ _ _ _; first | refine r_C1 ?_ | refine r_DC ?_) | assumption | intro _)
    rename_i y hyc hyok
    exact q_drop (h1 y hyok (hyc ▸ hsL) ((congrArg Sl.slot hyc).trans hsn))
set_option maxHeartbeats 4000000 in
set_option maxRecDepth 100000 in
theorem all_A (e : World) {d : Nat} {a : Ac} {n : Int} {H F : Hp} {K : Value → Hp → Prop} (hA : AcO a d H) (hl : a.L.length * 528 ≤ 140737488355328)
    (hK : ∀ b v Hl, OwnL (fromS a.L n) v Hl → K (.func (.func 68) #[] #[.pointer (some ⟨b, 0, none⟩)]) (([(b, cellsO [v] 53)] ++ Hl) ++ (H ++ F))) :
    callsK Try.prog e 28 #[pv d, .int .i64 n] (H ++ F) K := by
  obtain ⟨m, es, clk, l, rfl, hM, hR⟩ := hA
  refine calls_body (N := 13) (args := [pv d, .int .i64 n]) Try.func28 rfl rfl rfl (by simp) ?_
  repeat' (first | (show wpO _ _ _ _ _ _ _; first | refine wpO_nil ?_ | refine s_rdp ?_ | refine s_rdm ?_ | refine s_exq ?_ | refine s_exm ?_) | (show Ex _ _ _ _ _; first | (show Ex _ ⟨_, .call ⟨.value (.func _), _, _⟩, _, _, _, _⟩ _ _ _; refine e_call ?_; first | (apply p_pcs; apply none_a _; (try case hS => assumption); (case hpcs => (repeat (first | exact Pcs.blk (by infer_instance) | exact Pcs.nil | (apply Pcs.cons; infer_instance) | apply Pcs.app)))) | (apply p_pcs; apply list_spec _ hM hR hl; (try case hS => assumption); (case hpcs => (repeat (first | exact Pcs.blk (by infer_instance) | exact Pcs.nil | (apply Pcs.cons; infer_instance) | apply Pcs.app))))) | (show Ex _ ⟨_, .alloc _, _, _, _, _⟩ _ _ _; first | (refine e_allocA ?_; intro _) | (refine e_alloc1 ?_; intro _)) | (show Ex _ ⟨_, .store _ _ _, _, _, _, _⟩ _ _ _; first | refine e_store1 ?_ | refine e_storeA ?_ | (refine e_storeO ?_; intro _ _))) | (show wpC _ _ _ _ _ _; first | refine wpC_seq ?_ | refine wpC_region ?_ | refine c_true ?_ | refine c_false ?_ | (refine c_b (fun _ => ?_) (fun _ => ?_) <;> (first | (exfalso; omega) | contradiction | skip)) | refine wpC_ret ?_ | refine wpC_skip ?_ | refine wpC_label ?_) | (show Then _ _ _ _ _ _ _; first | refine then_normal ?_ | refine then_ret ?_) | (show RetP _ _ _ _ _ _ _ _; first | refine r_1 ?_) | assumption | intro _)
  rename_i b v Bs ls h2 h3 h4
  have := hK b v (Bs ++ acH ls) ⟨ls, Bs, rfl, h2, h3, h4⟩
  exact q_drop this
structure AlS where
  i : Nat
  ys : List SlR
  T : Hp
set_option maxHeartbeats 4000000 in
set_option maxRecDepth 100000 in
theorem all_iter (e : World) {b : Nat} {L : List Sl} {v : Value} {Hl : Hp} (hO : OwnL L v Hl) (hz : ∀ x ∈ L, EnSz x.en) (hl : L.length ≤ 4611686018427387904) :
    Itero (fun y : SlR => [slV y]) SlR.hp Try.prog e 68 #[] #[.pointer (some ⟨b, 0, none⟩)] ([(b, cellsO [v] 53)] ++ Hl) (fun ys => ys.map SlR.c = L ∧ ∀ y ∈ ys, y.ok) := by
  obtain ⟨ls, Bs, rfl, hls, hok, hS⟩ := hO
  have hin := slsIn hS
  have hll : ls.length = L.length := by rw [← hls, List.length_map]
  intro yv inv stop K T hY h0 hall hstop
  refine calls_body (N := 17) (args := [yv, .pointer (some ⟨b, 0, none⟩)]) Try.func68 rfl rfl rfl (by simp) ?_
  repeat' (first | (show wpO _ _ _ _ _ _ _; first | refine wpO_nil ?_ | (show wpO _ _ _ (⟨_, .binOp _ _ _ _ _, _, _, _, _⟩ :: _) _ _ _; first | refine s_tt ?_ | refine s_ff ?_ | refine s_rdp ?_ | (refine s_cmp (fun _ => ?_) (fun _ => ?_) <;> (first | (exfalso; omega) | contradiction | skip)) | (refine s_cb (fun _ => ?_) (fun _ => ?_) <;> (first | (exfalso; omega) | contradiction | skip))) | (show wpO _ _ _ (⟨_, .indexAddr _ _ _, _, _, _, _⟩ :: _) _ _ _; first | refine s_rdp ?_ | refine s_idx (fun _ _ _ _ _ _ _ => ?_)) | refine s_rdp ?_ | refine s_rdm ?_ | refine s_exq ?_ | refine s_exm ?_) | (show Ex _ _ _ _ _; first | (show Ex _ ⟨_, .alloc _, _, _, _, _⟩ _ _ _; first | (refine e_allocA ?_; intro _) | (refine e_alloc1 ?_; intro _)) | (show Ex _ ⟨_, .store _ _ _, _, _, _, _⟩ _ _ _; first | refine e_store1 ?_ | refine e_storeA ?_ | (refine e_storeO ?_; intro _ _))) | (show wpC _ _ _ _ _ _; first | refine wpC_seq ?_ | refine wpC_region ?_ | refine c_true ?_ | refine c_false ?_ | (refine c_b (fun _ => ?_) (fun _ => ?_) <;> (first | (exfalso; omega) | contradiction | skip)) | refine wpC_block ?_ | refine wpC_ret ?_ | refine wpC_skip ?_ | refine wpC_exit ?_ | refine wpC_label ?_) | (show Then _ _ _ _ _ _ _; first | refine then_normal ?_ | refine then_ret ?_ | refine then_exit ?_) | (show InBlock _ _ _ _ _ _; first | refine inBlock_normal ?_ | refine inBlock_ret ?_ | refine inBlock_same ?_ | refine b_other ?_) | (show LoopPost _ _ _ _ _ _; first | refine loop_ret ?_ | refine loop_exit ?_) | (show RetP _ _ _ _ _ _ _ _; first | refine r_0 ?_))
  refine wpC_loopA (κ := AlS) [4, 7, 8, 9, 10, 11, 12, 13, 14, 15, 16] (fun s => [(7, .int .i64 (s.i : Int))]) (fun s => ([(b, cellsO [v] 53)] ++ Bs) ++ (acH ls ++ s.T))
    (fun s => s.i ≤ ls.length ∧ s.ys.map SlR.c = (ls.take s.i).map SlR.c ∧ (∀ y ∈ s.ys, y.ok) ∧ inv s.ys s.T) (fun s => ls.length - s.i) ⟨0, [], T⟩ ⟨Nat.zero_le _, rfl, (fun y h => by cases h), h0⟩ ⟨rfl, trivial⟩ q_drp ?_
  rintro ⟨i, ys, T⟩ ρx ⟨hi, hys, hyok, hinv⟩
  simp only at hi hys hyok hinv ⊢
  by_cases hlt : i < ls.length
  · have hr : ls[i]? = some ls[i] := List.getElem?_eq_getElem hlt
    have hsl : ls[i] ∈ ls := List.getElem_mem hlt
    have hsi := acH_in hsl (hok _ hsl)
    have hsz : EnSz ls[i].en.c := hz ls[i].c (by rw [← hls]; exact List.mem_map.2 ⟨_, hsl, rfl⟩)
    have htk : (ls.take (i + 1)).map SlR.c = (ls.take i).map SlR.c ++ [ls[i].c] := by
      rw [List.take_add_one, hr, List.map_append]; rfl
    have hdr : ls.map SlR.c = (ls.take i).map SlR.c ++ ls[i].c :: (ls.drop (i + 1)).map SlR.c := by
      conv => lhs; rw [← List.take_append_drop i ls, List.map_append, List.drop_eq_getElem_cons hlt]
      rfl
    have hdk : ∀ y ∈ ls.drop (i + 1), y.ok := fun y hy => hok y (List.mem_of_mem_drop hy)
    generalize ls.drop (i + 1) = rst at *
    generalize ls[i] = s at *
    repeat' ((fail_if_success (show wpO _ _ _ (⟨_, .call ⟨.value (.tmp _), _, _⟩, _, _, _, _⟩ :: _) _ _ _)); first | (show wpO _ _ _ _ _ _ _; first | refine wpO_nil ?_ | (show wpO _ _ _ (⟨_, .binOp _ _ _ _ _, _, _, _, _⟩ :: _) _ _ _; first | refine s_tt ?_ | refine s_ff ?_ | refine s_rdp ?_ | (refine s_cmp (fun _ => ?_) (fun _ => ?_) <;> (first | (exfalso; omega) | contradiction | skip)) | (refine s_cb (fun _ => ?_) (fun _ => ?_) <;> (first | (exfalso; omega) | contradiction | skip))) | (show wpO _ _ _ (⟨_, .indexAddr _ _ _, _, _, _, _⟩ :: _) _ _ _; first | refine s_rdp ?_ | refine s_idx (fun _ _ _ _ _ _ _ => ?_)) | refine s_rdp ?_ | refine s_rdm ?_ | refine s_exq ?_ | refine s_exm ?_) | (show Ex _ _ _ _ _; first | (show Ex _ ⟨_, .call ⟨.value (.func _), _, _⟩, _, _, _, _⟩ _ _ _; refine e_call ?_; first | (apply p_pcs; apply twin_spec _ hsi hsz; (try case hS => assumption); (case hpcs => (repeat (first | exact Pcs.blk (by infer_instance) | exact Pcs.nil | (apply Pcs.cons; infer_instance) | apply Pcs.app))))) | (show Ex _ ⟨_, .alloc _, _, _, _, _⟩ _ _ _; first | (refine e_allocA ?_; intro _) | (refine e_alloc1 ?_; intro _)) | (show Ex _ ⟨_, .store _ _ _, _, _, _, _⟩ _ _ _; first | refine e_store1 ?_ | refine e_storeA ?_ | (refine e_storeO ?_; intro _ _))) | (show wpC _ _ _ _ _ _; first | refine wpC_seq ?_ | refine wpC_region ?_ | refine c_true ?_ | refine c_false ?_ | (refine c_b (fun _ => ?_) (fun _ => ?_) <;> (first | (exfalso; omega) | contradiction | skip)) | refine wpC_block ?_ | refine wpC_ret ?_ | refine wpC_skip ?_ | refine wpC_exit ?_ | refine wpC_label ?_) | (show Then _ _ _ _ _ _ _; first | refine then_normal ?_ | refine then_ret ?_ | refine then_exit ?_) | (show InBlock _ _ _ _ _ _; first | refine inBlock_normal ?_ | refine inBlock_ret ?_ | refine inBlock_same ?_ | refine b_other ?_) | (show LoopPost _ _ _ _ _ _; first | refine loop_ret ?_ | refine loop_exit ?_) | (show RetP _ _ _ _ _ _ _ _; first | refine r_0 ?_) | assumption | intro _)
    rename_i bx y hyc hyk
    have hx : ∃ rest, (fun ys => List.map SlR.c ys = L ∧ ∀ y ∈ ys, y.ok) (ys ++ y :: rest) := by
      refine ⟨rst, ?_, fun z hz => ?_⟩
      · rw [List.map_append, List.map_cons, hys, hyc, ← hls, hdr]
      · rcases List.mem_append.1 hz with hz | hz
        · exact hyok z hz
        · rcases List.mem_cons.1 hz with rfl | hz
          · exact hyk
          · exact hdk z hz
    refine s_yieldo (A := (([(b, cellsO [v] 53)] ++ Bs) ++ acH ls) ++ [(bx, cellsO s.cells 52)]) hY hx hinv (fun T' hi' => ?_) (fun T' hs' => ?_) (perm_pcs (by (repeat (first | exact Pcs.blk (by infer_instance) | exact Pcs.nil | (apply Pcs.cons; infer_instance) | apply Pcs.app))))
    · repeat' (first | (show wpO _ _ _ _ _ _ _; first | refine wpO_nil ?_ | (show wpO _ _ _ (⟨_, .binOp _ _ _ _ _, _, _, _, _⟩ :: _) _ _ _; first | refine s_tt ?_ | refine s_ff ?_ | refine s_rdp ?_ | (refine s_cmp (fun _ => ?_) (fun _ => ?_) <;> (first | (exfalso; omega) | contradiction | skip)) | (refine s_cb (fun _ => ?_) (fun _ => ?_) <;> (first | (exfalso; omega) | contradiction | skip))) | (show wpO _ _ _ (⟨_, .indexAddr _ _ _, _, _, _, _⟩ :: _) _ _ _; first | refine s_rdp ?_ | refine s_idx (fun _ _ _ _ _ _ _ => ?_)) | refine s_rdp ?_ | refine s_rdm ?_ | refine s_exq ?_ | refine s_exm ?_) | (show Ex _ _ _ _ _; first | (show Ex _ ⟨_, .alloc _, _, _, _, _⟩ _ _ _; first | (refine e_allocA ?_; intro _) | (refine e_alloc1 ?_; intro _)) | (show Ex _ ⟨_, .store _ _ _, _, _, _, _⟩ _ _ _; first | refine e_store1 ?_ | refine e_storeA ?_ | (refine e_storeO ?_; intro _ _))) | (show wpC _ _ _ _ _ _; first | refine wpC_seq ?_ | refine wpC_region ?_ | refine c_true ?_ | refine c_false ?_ | (refine c_b (fun _ => ?_) (fun _ => ?_) <;> (first | (exfalso; omega) | contradiction | skip)) | refine wpC_block ?_ | refine wpC_ret ?_ | refine wpC_skip ?_ | refine wpC_exit ?_ | refine wpC_label ?_) | (show Then _ _ _ _ _ _ _; first | refine then_normal ?_ | refine then_ret ?_ | refine then_exit ?_) | (show InBlock _ _ _ _ _ _; first | refine inBlock_normal ?_ | refine inBlock_ret ?_ | refine inBlock_same ?_ | refine b_other ?_) | (show LoopPost _ _ _ _ _ _; first | refine loop_ret ?_ | refine loop_exit ?_) | (show RetP _ _ _ _ _ _ _ _; first | refine r_0 ?_))
      refine lp_end ⟨i + 1, ys ++ [y], T'⟩ (by simp; omega) ⟨by simp; omega, by simp only; rw [htk, List.map_append, hys]; simp [hyc], ?_, hi'⟩
      intro z hz
      rcases List.mem_append.1 hz with hz | hz
      · exact hyok z hz
      · obtain rfl := List.mem_singleton.1 hz
        exact hyk
    · repeat' (first | (show wpO _ _ _ _ _ _ _; first | refine wpO_nil ?_ | (show wpO _ _ _ (⟨_, .binOp _ _ _ _ _, _, _, _, _⟩ :: _) _ _ _; first | refine s_tt ?_ | refine s_ff ?_ | refine s_rdp ?_ | (refine s_cmp (fun _ => ?_) (fun _ => ?_) <;> (first | (exfalso; omega) | contradiction | skip)) | (refine s_cb (fun _ => ?_) (fun _ => ?_) <;> (first | (exfalso; omega) | contradiction | skip))) | (show wpO _ _ _ (⟨_, .indexAddr _ _ _, _, _, _, _⟩ :: _) _ _ _; first | refine s_rdp ?_ | refine s_idx (fun _ _ _ _ _ _ _ => ?_)) | refine s_rdp ?_ | refine s_rdm ?_ | refine s_exq ?_ | refine s_exm ?_) | (show Ex _ _ _ _ _; first | (show Ex _ ⟨_, .alloc _, _, _, _, _⟩ _ _ _; first | (refine e_allocA ?_; intro _) | (refine e_alloc1 ?_; intro _)) | (show Ex _ ⟨_, .store _ _ _, _, _, _, _⟩ _ _ _; first | refine e_store1 ?_ | refine e_storeA ?_ | (refine e_storeO ?_; intro _ _))) | (show wpC _ _ _ _ _ _; first | refine wpC_seq ?_ | refine wpC_region ?_ | refine c_true ?_ | refine c_false ?_ | (refine c_b (fun _ => ?_) (fun _ => ?_) <;> (first | (exfalso; omega) | contradiction | skip)) | refine wpC_block ?_ | refine wpC_ret ?_ | refine wpC_skip ?_ | refine wpC_exit ?_ | refine wpC_label ?_) | (show Then _ _ _ _ _ _ _; first | refine then_normal ?_ | refine then_ret ?_ | refine then_exit ?_) | (show InBlock _ _ _ _ _ _; first | refine inBlock_normal ?_ | refine inBlock_ret ?_ | refine inBlock_same ?_ | refine b_other ?_) | (show LoopPost _ _ _ _ _ _; first | refine loop_ret ?_ | refine loop_exit ?_) | (show RetP _ _ _ _ _ _ _ _; first | refine r_0 ?_))
      exact q_drop (hstop _ hs')
  · have hge : i = ls.length := by omega
    repeat' (first | (show wpO _ _ _ _ _ _ _; first | refine wpO_nil ?_ | (show wpO _ _ _ (⟨_, .binOp _ _ _ _ _, _, _, _, _⟩ :: _) _ _ _; first | refine s_tt ?_ | refine s_ff ?_ | refine s_rdp ?_ | (refine s_cmp (fun _ => ?_) (fun _ => ?_) <;> (first | (exfalso; omega) | contradiction | skip)) | (refine s_cb (fun _ => ?_) (fun _ => ?_) <;> (first | (exfalso; omega) | contradiction | skip))) | (show wpO _ _ _ (⟨_, .indexAddr _ _ _, _, _, _, _⟩ :: _) _ _ _; first | refine s_rdp ?_ | refine s_idx (fun _ _ _ _ _ _ _ => ?_)) | refine s_rdp ?_ | refine s_rdm ?_ | refine s_exq ?_ | refine s_exm ?_) | (show Ex _ _ _ _ _; first | (show Ex _ ⟨_, .alloc _, _, _, _, _⟩ _ _ _; first | (refine e_allocA ?_; intro _) | (refine e_alloc1 ?_; intro _)) | (show Ex _ ⟨_, .store _ _ _, _, _, _, _⟩ _ _ _; first | refine e_store1 ?_ | refine e_storeA ?_ | (refine e_storeO ?_; intro _ _))) | (show wpC _ _ _ _ _ _; first | refine wpC_seq ?_ | refine wpC_region ?_ | refine c_true ?_ | refine c_false ?_ | (refine c_b (fun _ => ?_) (fun _ => ?_) <;> (first | (exfalso; omega) | contradiction | skip)) | refine wpC_block ?_ | refine wpC_ret ?_ | refine wpC_skip ?_ | refine wpC_exit ?_ | refine wpC_label ?_) | (show Then _ _ _ _ _ _ _; first | refine then_normal ?_ | refine then_ret ?_ | refine then_exit ?_) | (show InBlock _ _ _ _ _ _; first | refine inBlock_normal ?_ | refine inBlock_ret ?_ | refine inBlock_same ?_ | refine b_other ?_) | (show LoopPost _ _ _ _ _ _; first | refine loop_ret ?_ | refine loop_exit ?_) | (show RetP _ _ _ _ _ _ _ _; first | refine r_0 ?_))
    refine q_drop (hall ys T ⟨by rw [hys, hge, List.take_length, hls], hyok⟩ hinv)
end Go.Vl
