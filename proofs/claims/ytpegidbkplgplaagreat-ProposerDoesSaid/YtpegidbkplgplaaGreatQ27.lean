/-
  Steps of the proof: Y5, Y6.
-/
import Derived.Test.YtpegidbkplgplaaGreatQ26
namespace Go.Vl
open Go.Proofs Classical
set_option maxHeartbeats 4000000 in
set_option maxRecDepth 100000 in
theorem opH_filter (p : Opn → Bool) : ∀ l : List Opn, ∃ R, (opH l).Perm (opH (l.filter p) ++ R)
  | [] => ⟨[], by simp [opH]⟩
  | x :: l => by
    obtain ⟨R, hR⟩ := opH_filter p l
    rw [opH_cons]
    by_cases h : p x = true
    · exact ⟨R, by rw [List.filter_cons_of_pos h, opH_cons, List.cons_append]; exact hR.cons _⟩
    · refine ⟨R ++ [(x.o, cellsO x.cells 93)], ?_⟩
      rw [List.filter_cons_of_neg (by simpa using h), ← List.append_assoc]
      exact (hR.cons _).trans (List.perm_append_comm (l₁ := [(x.o, cellsO x.cells 93)]))
set_option maxHeartbeats 4000000 in
set_option maxRecDepth 100000 in
theorem lo_filter {r : LdR} {a : Ld} (hr : r.ok a) (hrd : a.ready = true) (s : Int) {es : Array MapEntry} {clk : Nat} (hM : MapK (Value.int .i64) pv es clk ((r.lo.map fun x => (x.slot, x.o)).filter fun p => decide (s ≤ p.1))) :
    LdR.ok ⟨r.m1, r.m2, r.bes, r.bclk, es, clk, r.lb, r.lo.filter fun x => decide (s ≤ x.slot), r.M⟩ { a with L := a.L.filter fun x => decide (s ≤ x.slot) } := by
  refine ⟨hr.best, ?_, hr.came, ?_, fun y hy => hr.ch y (List.mem_filter.1 hy).1, hr.bi, fun y hy => hr.li y (List.mem_filter.1 hy).1, ok_filter hr.a hrd _⟩
  · rw [List.filter_map] at hM
    exact hM
  · show (r.lo.filter _).map Opn.c = a.L.filter _
    rw [← hr.L, List.filter_map]
    rfl
structure DfS where
  es : Array MapEntry
  last : Option (Int × Nat)
  left : List (Int × Nat)
  o : Obj
  cur : List (Int × Nat)
structure FiS where
  done : List (Int × Nat)
  last : Option (Int × Nat)
  left : List (Int × Nat)
  o : Obj
attribute [local irreducible] eqW eqV wpC wpO wpD Ex Rd callsK RetP Drop valK
set_option maxHeartbeats 4000000 in
set_option maxRecDepth 100000 in
theorem forget1 (e : World) {n k : Int} {o b : Nat} {c : Bool} {F : Hp} {K : Value → Hp → Prop} (hc : decide (k < n) = c) (hK : K (.bool c) ([(b, cellsO [.int .i64 n] 2)] ++ F)) :
    callsK Tryz.prog e 54 #[.int .i64 k, pv o, .pointer (some ⟨b, 0, none⟩)] ([(b, cellsO [.int .i64 n] 2)] ++ F) K := by
  subst hc
  refine calls_body (N := 9) (args := [.int .i64 k, pv o, .pointer (some ⟨b, 0, none⟩)]) Tryz.func54 rfl rfl rfl (by simp) ?_
  repeat' (first | (show wpO _ _ _ _ _ _ _; first | refine wpO_nil ?_ | (show wpO _ _ _ (⟨_, .binOp _ _ _ _ _, _, _, _, _⟩ :: _) _ _ _; first | refine s_tt ?_ | refine s_ff ?_ | refine s_rdp ?_ | ((first | refine s_cmp (fun _ => ?_) (fun _ => ?_) | refine s_cb (fun _ => ?_) (fun _ => ?_)) <;> (first | (exfalso; omega) | contradiction | skip))) | refine s_rdp ?_ | refine s_rdm ?_ | refine s_exq ?_ | refine s_exm ?_) | (show wpC _ _ _ _ _ _; first | refine wpC_seq ?_ | refine wpC_region ?_ | refine wpC_ret ?_ | refine wpC_skip ?_ | refine wpC_label ?_) | (show Then _ _ _ _ _ _ _; first | refine then_normal ?_ | refine then_ret ?_) | (show RetP _ _ _ _ _ _ _ _; first | refine r_1 ?_))
  · rename_i h
    rw [decide_eq_true h] at hK
    exact q_drop hK
  · rename_i h
    rw [decide_eq_false h] at hK
    exact q_drop hK
set_option maxHeartbeats 4000000 in
set_option maxRecDepth 100000 in
theorem delFunc (e : World) {n : Int} {m b clk : Nat} {es : Array MapEntry} {l : List (Int × Nat)} {F : Hp} {K : Value → Hp → Prop} (hM : MapK (Value.int .i64) pv es clk l)
    (hK : ∀ es', MapK (Value.int .i64) pv es' clk (l.filter fun p => decide (n ≤ p.1)) → K (.tuple #[]) (([(m, .map es' clk)] ++ [(b, cellsO [.int .i64 n] 2)]) ++ F)) :
    callsK Tryz.prog e 53 #[.map (some m), .func (.func 54) #[] #[.pointer (some ⟨b, 0, none⟩)]] (([(m, .map es clk)] ++ [(b, cellsO [.int .i64 n] 2)]) ++ F) K := by
  refine calls_body (N := 19) (args := [.map (some m), .func (.func 54) #[] #[.pointer (some ⟨b, 0, none⟩)]]) Tryz.func53 rfl rfl rfl (by simp) ?_
  repeat' (first | (show wpO _ _ _ _ _ _ _; first | refine wpO_nil ?_ | refine s_rdp ?_ | refine s_rdm ?_ | refine s_exq ?_ | refine s_exm ?_) | (show Ex _ _ _ _ _; first | (show Ex _ ⟨_, .range _ _, _, _, _, _⟩ _ _ _; refine e_range ?_; intro _ _ _) | (show Ex _ ⟨_, .next _ _, _, _, _, _⟩ _ _ _; refine e_next (fun _ => ?_) (fun _ _ _ _ => ?_)) | (show Ex _ ⟨_, .call ⟨.builtin .delete, _, _⟩, _, _, _, _⟩ _ _ _; refine e_delete ?_; intro _ _ _)) | (show wpC _ _ _ _ _ _; first | refine wpC_seq ?_ | refine wpC_region ?_ | refine c_true ?_ | refine c_false ?_ | (refine c_b (fun _ => ?_) (fun _ => ?_) <;> (first | (exfalso; omega) | contradiction | skip)) | refine wpC_block ?_ | refine wpC_ret ?_ | refine wpC_skip ?_ | refine wpC_exit ?_ | refine wpC_label ?_) | (show Then _ _ _ _ _ _ _; first | refine then_normal ?_ | refine then_ret ?_ | refine then_exit ?_) | (show InBlock _ _ _ _ _ _; first | refine inBlock_normal ?_ | refine inBlock_ret ?_ | refine inBlock_same ?_ | refine b_other ?_) | (show LoopPost _ _ _ _ _ _; first | refine loop_ret ?_ | refine loop_exit ?_) | (show RetP _ _ _ _ _ _ _ _; first | refine r_0 ?_))
  rename_i bi oi hI0
  refine wpC_loopA (κ := DfS) [4, 5, 8, 9, 10, 11, 12, 13, 14, 15, 16, 17, 18] (fun _ => []) (fun k => [(bi, k.o)] ++ ([(m, .map k.es clk)] ++ ([(b, cellsO [.int .i64 n] 2)] ++ F)))
    (fun k => IterK (Value.int .i64) pv m k.es clk k.last k.left k.o ∧ MapK (Value.int .i64) pv k.es clk k.cur ∧ k.cur = (l.filter fun p => decide (n ≤ p.1 ∨ p.1 ∈ k.left.map Prod.fst))) (fun k => k.left.length)
    ⟨es, none, l, oi, l⟩ ⟨hI0, hM, by rw [List.filter_eq_self.2]; intro p hp; simp only [decide_eq_true_eq]; exact .inr (List.mem_map.2 ⟨p, hp, rfl⟩)⟩ trivial q_drp ?_
  clear hM hI0
  rintro ⟨es, la, left, oi, cur⟩ ρx ⟨hI, hM, hcur⟩
  simp only at hI hM hcur ⊢
  repeat' ((fail_if_success (show wpO _ _ _ (⟨_, .call ⟨.value (.tmp _), _, _⟩, _, _, _, _⟩ :: _) _ _ _)); first | (show wpO _ _ _ _ _ _ _; first | refine wpO_nil ?_ | refine s_rdp ?_ | refine s_rdm ?_ | refine s_exq ?_ | refine s_exm ?_) | (show Ex _ _ _ _ _; first | (show Ex _ ⟨_, .range _ _, _, _, _, _⟩ _ _ _; refine e_range ?_; intro _ _ _) | (show Ex _ ⟨_, .next _ _, _, _, _, _⟩ _ _ _; refine e_next (fun _ => ?_) (fun _ _ _ _ => ?_)) | (show Ex _ ⟨_, .call ⟨.builtin .delete, _, _⟩, _, _, _, _⟩ _ _ _; refine e_delete ?_; intro _ _ _)) | (show wpC _ _ _ _ _ _; first | refine wpC_seq ?_ | refine wpC_region ?_ | refine c_true ?_ | refine c_false ?_ | (refine c_b (fun _ => ?_) (fun _ => ?_) <;> (first | (exfalso; omega) | contradiction | skip)) | refine wpC_block ?_ | refine wpC_ret ?_ | refine wpC_skip ?_ | refine wpC_exit ?_ | refine wpC_label ?_) | (show Then _ _ _ _ _ _ _; first | refine then_normal ?_ | refine then_ret ?_ | refine then_exit ?_) | (show InBlock _ _ _ _ _ _; first | refine inBlock_normal ?_ | refine inBlock_ret ?_ | refine inBlock_same ?_ | refine b_other ?_) | (show LoopPost _ _ _ _ _ _; first | refine loop_ret ?_ | refine loop_exit ?_) | (show RetP _ _ _ _ _ _ _ _; first | refine r_0 ?_))
  · rename_i hl
    subst hl
    have := hK es (by have := hM; rw [hcur] at this; simpa using this)
    exact q_drop this
  · rename_i pr hpl o' hI'
    have hin : ∀ k : Int, k ∈ (adel left pr.1).map Prod.fst ↔ k ≠ pr.1 ∧ k ∈ left.map Prod.fst := fun k => adel_keys
    by_cases hn : pr.1 < n
    · have hnd := decide_eq_true hn
      refine s_exs ?_
      refine e_callV ?_
      refine val_func rfl (by kernel_rfl) rfl ?_
      apply p_pcs
      apply (forget1 _ hnd)
      (case hpcs => (repeat (first | exact Pcs.blk (by infer_instance) | exact Pcs.nil | (apply Pcs.cons; infer_instance) | apply Pcs.app)))
      repeat' (first | (show wpO _ _ _ _ _ _ _; first | refine wpO_nil ?_ | refine s_rdp ?_ | refine s_rdm ?_ | refine s_exq ?_ | refine s_exm ?_) | (show Ex _ _ _ _ _; first | (show Ex _ ⟨_, .range _ _, _, _, _, _⟩ _ _ _; refine e_range ?_; intro _ _ _) | (show Ex _ ⟨_, .next _ _, _, _, _, _⟩ _ _ _; refine e_next (fun _ => ?_) (fun _ _ _ _ => ?_)) | (show Ex _ ⟨_, .call ⟨.builtin .delete, _, _⟩, _, _, _, _⟩ _ _ _; refine e_delete ?_; intro _ _ _)) | (show wpC _ _ _ _ _ _; first | refine wpC_seq ?_ | refine wpC_region ?_ | refine c_true ?_ | refine c_false ?_ | (refine c_b (fun _ => ?_) (fun _ => ?_) <;> (first | (exfalso; omega) | contradiction | skip)) | refine wpC_block ?_ | refine wpC_ret ?_ | refine wpC_skip ?_ | refine wpC_exit ?_ | refine wpC_label ?_) | (show Then _ _ _ _ _ _ _; first | refine then_normal ?_ | refine then_ret ?_ | refine then_exit ?_) | (show InBlock _ _ _ _ _ _; first | refine inBlock_normal ?_ | refine inBlock_ret ?_ | refine inBlock_same ?_ | refine b_other ?_) | (show LoopPost _ _ _ _ _ _; first | refine loop_ret ?_ | refine loop_exit ?_) | (show RetP _ _ _ _ _ _ _ _; first | refine r_0 ?_))
      rename_i es' hM' hT
      have hI'' := hT _ _ _ _ hI'
      have hdd : adel (adel left pr.1) pr.1 = adel left pr.1 := by unfold adel; rw [List.filter_filter]; simp
      rw [hdd] at hI''
      refine lp_end ⟨es', none, adel left pr.1, o', adel cur pr.1⟩ (adel_less hpl) ⟨hI'', hM', ?_⟩
      simp only
      rw [hcur]
      unfold adel
      rw [List.filter_filter]
      refine List.filter_congr fun p hp => ?_
      rw [← Bool.decide_and, decide_eq_decide]
      have h9 := hin p.1
      unfold adel at h9
      rw [h9]
      constructor
      · rintro ⟨h1, h2 | h2⟩
        · exact .inl h2
        · exact .inr ⟨h1, h2⟩
      · rintro (h | ⟨h1, h2⟩)
        · exact ⟨by omega, .inl h⟩
        · exact ⟨h1, .inr h2⟩
    · have hnd := decide_eq_false hn
      refine s_exs ?_
      refine e_callV ?_
      refine val_func rfl (by kernel_rfl) rfl ?_
      apply p_pcs
      apply (forget1 _ hnd)
      (case hpcs => (repeat (first | exact Pcs.blk (by infer_instance) | exact Pcs.nil | (apply Pcs.cons; infer_instance) | apply Pcs.app)))
      repeat' (first | (show wpO _ _ _ _ _ _ _; first | refine wpO_nil ?_ | refine s_rdp ?_ | refine s_rdm ?_ | refine s_exq ?_ | refine s_exm ?_) | (show Ex _ _ _ _ _; first | (show Ex _ ⟨_, .range _ _, _, _, _, _⟩ _ _ _; refine e_range ?_; intro _ _ _) | (show Ex _ ⟨_, .next _ _, _, _, _, _⟩ _ _ _; refine e_next (fun _ => ?_) (fun _ _ _ _ => ?_)) | (show Ex _ ⟨_, .call ⟨.builtin .delete, _, _⟩, _, _, _, _⟩ _ _ _; refine e_delete ?_; intro _ _ _)) | (show wpC _ _ _ _ _ _; first | refine wpC_seq ?_ | refine wpC_region ?_ | refine c_true ?_ | refine c_false ?_ | (refine c_b (fun _ => ?_) (fun _ => ?_) <;> (first | (exfalso; omega) | contradiction | skip)) | refine wpC_block ?_ | refine wpC_ret ?_ | refine wpC_skip ?_ | refine wpC_exit ?_ | refine wpC_label ?_) | (show Then _ _ _ _ _ _ _; first | refine then_normal ?_ | refine then_ret ?_ | refine then_exit ?_) | (show InBlock _ _ _ _ _ _; first | refine inBlock_normal ?_ | refine inBlock_ret ?_ | refine inBlock_same ?_ | refine b_other ?_) | (show LoopPost _ _ _ _ _ _; first | refine loop_ret ?_ | refine loop_exit ?_) | (show RetP _ _ _ _ _ _ _ _; first | refine r_0 ?_))
      refine lp_end ⟨es, some pr, adel left pr.1, o', cur⟩ (adel_less hpl) ⟨hI', hM, ?_⟩
      simp only
      rw [hcur]
      refine List.filter_congr fun p hp => ?_
      rw [decide_eq_decide, hin]
      constructor
      · rintro (h | h)
        · exact .inl h
        · by_cases he : p.1 = pr.1
          · exact .inl (by omega)
          · exact .inr ⟨he, h⟩
      · rintro (h | ⟨h1, h2⟩)
        · exact .inl h
        · exact .inr h2
end Go.Vl

namespace Go.Vl
open Go.Proofs Classical
attribute [local irreducible] eqW eqV wpC wpO wpD Ex Rd callsK RetP Drop valK
set_option maxHeartbeats 4000000 in
set_option maxRecDepth 100000 in
theorem pforget (e : World) {a : Ld} {d : Nat} {r : LdR} {s : Int} {F : Hp} {K : Value → Hp → Prop} (hr : r.ok a)
    (hK : ∀ r' : LdR, r'.ok (a.forget s).2 → K (.int .i64 (a.forget s).1) (r'.hp (a.forget s).2 d ++ F)) :
    callsK Tryz.prog e 32 #[pv d, .int .i64 s] (r.hp a d ++ F) K := by
  have hM := hr.open_
  have hLe := hr.L
  have hch := hr.ch
  have hsrt := hr.a.srt
  have hfl := fun es clk g => lo_filter hr g s (es := es) (clk := clk)
  unfold Ld.forget at hK
  obtain ⟨b, fr, n, p, ready, came, L, next⟩ := a
  simp only at hLe hch hsrt
  refine calls_body (N := 46) (args := [pv d, .int .i64 s]) Tryz.func32 rfl rfl rfl (by simp) ?_
  cases ready with
  | false =>
    rw [if_pos rfl] at hK
    have h := hK r hr
    clear hK hfl
    repeat' ((fail_if_success (show wpC _ (.seq (.seq (.region 5 _ _) _) _) _ _ _ _)); first | (show wpO _ _ _ _ _ _ _; first | refine wpO_nil ?_ | (show wpO _ _ _ (⟨_, .binOp _ _ _ _ _, _, _, _, _⟩ :: _) _ _ _; first | refine s_tt ?_ | refine s_ff ?_ | refine s_rdp ?_ | ((first | refine s_cmp (fun _ => ?_) (fun _ => ?_) | refine s_cb (fun _ => ?_) (fun _ => ?_)) <;> (first | (exfalso; omega) | contradiction | skip))) | (show wpO _ _ _ (⟨_, .pick _ _ _, _, _, _, _⟩ :: _) _ _ _; first | refine s_rdp ?_ | (refine s_p (fun _ => ?_) (fun _ => ?_) <;> (first | (exfalso; omega) | contradiction | skip))) | refine s_rdp ?_ | refine s_rdm ?_ | refine s_exq ?_ | refine s_exm ?_ | refine s_sks ?_ | refine s_skn ?_ | (refine s_g (fun _ => ?_) (fun _ => ?_) <;> (first | (exfalso; omega) | contradiction | skip))) | (show Ex _ _ _ _ _; first | (show Ex _ ⟨_, .call ⟨.value (.func _), _, _⟩, _, _, _, _⟩ _ _ _; refine e_call ?_; first | (apply p_pcs; apply pnone _; (try case hS => assumption); (case hpcs => (repeat (first | exact Pcs.blk (by infer_instance) | exact Pcs.nil | (apply Pcs.cons; infer_instance) | apply Pcs.app))))) | (show Ex _ ⟨_, .box _ _, _, _, _, _⟩ _ _ _; first | (refine e_boxA ?_; intro _) | (refine e_box1 ?_; intro _)) | (show Ex _ ⟨_, .range _ _, _, _, _, _⟩ _ _ _; refine e_range ?_; intro _ _ _) | (show Ex _ ⟨_, .next _ _, _, _, _, _⟩ _ _ _; refine e_next (fun _ => ?_) (fun _ _ _ _ => ?_))) | (show wpC _ _ _ _ _ _; first | refine wpC_seq ?_ | refine wpC_region ?_ | refine c_true ?_ | refine c_false ?_ | (refine c_b (fun _ => ?_) (fun _ => ?_) <;> (first | (exfalso; omega) | contradiction | skip)) | refine wpC_block ?_ | refine wpC_ret ?_ | refine wpC_skip ?_ | refine wpC_exit ?_ | refine wpC_label ?_ | (apply wpC_drawX (id := 5) ([]) [0, 1, 2, 3, 4, 5] rfl (by kernel_rfl); (case hpk => (repeat (first | exact Pcs.blk (by infer_instance) | exact Pcs.nil | (apply Pcs.cons; infer_instance) | apply Pcs.app))))) | (show Then _ _ _ _ _ _ _; first | refine then_normal ?_ | refine then_ret ?_ | refine then_exit ?_) | (show InBlock _ _ _ _ _ _; first | refine inBlock_normal ?_ | refine inBlock_ret ?_ | refine inBlock_same ?_ | refine b_other ?_) | (show LoopPost _ _ _ _ _ _; first | refine loop_ret ?_ | refine loop_exit ?_) | (show wpD _ _ _ _ _ _ _ _; first | refine wpD_nil ?_ | refine d_rdp ?_ | refine d_rdm ?_ | refine d_sks ?_ | refine d_tt ?_ | refine d_ff ?_ | ((first | refine d_cmp (fun _ => ?_) (fun _ => ?_) | refine d_cb (fun _ => ?_) (fun _ => ?_)) <;> (first | (exfalso; omega) | contradiction | skip)) | refine d_exs ?_ | refine d_exn ?_ | ((first | refine d_p (fun _ => ?_) (fun _ => ?_) | refine d_g (fun _ => ?_) (fun _ => ?_)) <;> (first | (exfalso; omega) | contradiction | skip))) | (show (_ ∨ Subs _ _) ∧ _; first | refine d_sub ?_ | refine d_cov ?_) | (show RetP _ _ _ _ _ _ _ _; first | refine r_1 ?_) | assumption | intro _)
    all_goals first | (exfalso; omega) | exact q_drop h | trace_state
  | true =>
    rw [if_neg (by simp)] at hK
    simp only at hK
    by_cases hn : next < s
    · rw [if_pos hn] at hK
      have h := hK r hr
      clear hK hfl
      repeat' ((fail_if_success (show wpC _ (.seq (.seq (.region 7 _ _) _) _) _ _ _ _)); first | (show wpO _ _ _ _ _ _ _; first | refine wpO_nil ?_ | (show wpO _ _ _ (⟨_, .binOp _ _ _ _ _, _, _, _, _⟩ :: _) _ _ _; first | refine s_tt ?_ | refine s_ff ?_ | refine s_rdp ?_ | ((first | refine s_cmp (fun _ => ?_) (fun _ => ?_) | refine s_cb (fun _ => ?_) (fun _ => ?_)) <;> (first | (exfalso; omega) | contradiction | skip))) | (show wpO _ _ _ (⟨_, .pick _ _ _, _, _, _, _⟩ :: _) _ _ _; first | refine s_rdp ?_ | (refine s_p (fun _ => ?_) (fun _ => ?_) <;> (first | (exfalso; omega) | contradiction | skip))) | refine s_rdp ?_ | refine s_rdm ?_ | refine s_exq ?_ | refine s_exm ?_ | refine s_sks ?_ | refine s_skn ?_ | (refine s_g (fun _ => ?_) (fun _ => ?_) <;> (first | (exfalso; omega) | contradiction | skip))) | (show Ex _ _ _ _ _; first | (show Ex _ ⟨_, .call ⟨.value (.func _), _, _⟩, _, _, _, _⟩ _ _ _; refine e_call ?_; first | (apply p_pcs; apply pnone _; (try case hS => assumption); (case hpcs => (repeat (first | exact Pcs.blk (by infer_instance) | exact Pcs.nil | (apply Pcs.cons; infer_instance) | apply Pcs.app))))) | (show Ex _ ⟨_, .box _ _, _, _, _, _⟩ _ _ _; first | (refine e_boxA ?_; intro _) | (refine e_box1 ?_; intro _)) | (show Ex _ ⟨_, .range _ _, _, _, _, _⟩ _ _ _; refine e_range ?_; intro _ _ _) | (show Ex _ ⟨_, .next _ _, _, _, _, _⟩ _ _ _; refine e_next (fun _ => ?_) (fun _ _ _ _ => ?_))) | (show wpC _ _ _ _ _ _; first | refine wpC_seq ?_ | refine wpC_region ?_ | refine c_true ?_ | refine c_false ?_ | (refine c_b (fun _ => ?_) (fun _ => ?_) <;> (first | (exfalso; omega) | contradiction | skip)) | refine wpC_block ?_ | refine wpC_ret ?_ | refine wpC_skip ?_ | refine wpC_exit ?_ | refine wpC_label ?_ | (apply wpC_drawX (id := 5) ([]) [0, 1, 2, 3, 4, 5] rfl (by kernel_rfl); (case hpk => (repeat (first | exact Pcs.blk (by infer_instance) | exact Pcs.nil | (apply Pcs.cons; infer_instance) | apply Pcs.app))))) | (show Then _ _ _ _ _ _ _; first | refine then_normal ?_ | refine then_ret ?_ | refine then_exit ?_) | (show InBlock _ _ _ _ _ _; first | refine inBlock_normal ?_ | refine inBlock_ret ?_ | refine inBlock_same ?_ | refine b_other ?_) | (show LoopPost _ _ _ _ _ _; first | refine loop_ret ?_ | refine loop_exit ?_) | (show wpD _ _ _ _ _ _ _ _; first | refine wpD_nil ?_ | refine d_rdp ?_ | refine d_rdm ?_ | refine d_sks ?_ | refine d_tt ?_ | refine d_ff ?_ | ((first | refine d_cmp (fun _ => ?_) (fun _ => ?_) | refine d_cb (fun _ => ?_) (fun _ => ?_)) <;> (first | (exfalso; omega) | contradiction | skip)) | refine d_exs ?_ | refine d_exn ?_ | ((first | refine d_p (fun _ => ?_) (fun _ => ?_) | refine d_g (fun _ => ?_) (fun _ => ?_)) <;> (first | (exfalso; omega) | contradiction | skip))) | (show (_ ∨ Subs _ _) ∧ _; first | refine d_sub ?_ | refine d_cov ?_) | (show RetP _ _ _ _ _ _ _ _; first | refine r_1 ?_) | assumption | intro _)
      all_goals first | (exfalso; omega) | exact q_drop h | trace_state
    · rw [if_neg hn] at hK
      obtain ⟨m1, m2, bes, bclk, ses, sclk, lb, lo, M⟩ := r
      simp only at hM hLe hch hfl
      repeat' ((fail_if_success (show wpC _ (.loop _) _ _ _ _)); first | (show wpO _ _ _ _ _ _ _; first | refine wpO_nil ?_ | (show wpO _ _ _ (⟨_, .binOp _ _ _ _ _, _, _, _, _⟩ :: _) _ _ _; first | refine s_tt ?_ | refine s_ff ?_ | refine s_rdp ?_ | ((first | refine s_cmp (fun _ => ?_) (fun _ => ?_) | refine s_cb (fun _ => ?_) (fun _ => ?_)) <;> (first | (exfalso; omega) | contradiction | skip))) | (show wpO _ _ _ (⟨_, .pick _ _ _, _, _, _, _⟩ :: _) _ _ _; first | refine s_rdp ?_ | (refine s_p (fun _ => ?_) (fun _ => ?_) <;> (first | (exfalso; omega) | contradiction | skip))) | refine s_rdp ?_ | refine s_rdm ?_ | refine s_exq ?_ | refine s_exm ?_ | refine s_sks ?_ | refine s_skn ?_ | (refine s_g (fun _ => ?_) (fun _ => ?_) <;> (first | (exfalso; omega) | contradiction | skip))) | (show Ex _ _ _ _ _; first | (show Ex _ ⟨_, .call ⟨.value (.func _), _, _⟩, _, _, _, _⟩ _ _ _; refine e_call ?_; first | (apply p_pcs; apply pnone _; (try case hS => assumption); (case hpcs => (repeat (first | exact Pcs.blk (by infer_instance) | exact Pcs.nil | (apply Pcs.cons; infer_instance) | apply Pcs.app))))) | (show Ex _ ⟨_, .box _ _, _, _, _, _⟩ _ _ _; first | (refine e_boxA ?_; intro _) | (refine e_box1 ?_; intro _)) | (show Ex _ ⟨_, .range _ _, _, _, _, _⟩ _ _ _; refine e_range ?_; intro _ _ _) | (show Ex _ ⟨_, .next _ _, _, _, _, _⟩ _ _ _; refine e_next (fun _ => ?_) (fun _ _ _ _ => ?_))) | (show wpC _ _ _ _ _ _; first | refine wpC_seq ?_ | refine wpC_region ?_ | refine c_true ?_ | refine c_false ?_ | (refine c_b (fun _ => ?_) (fun _ => ?_) <;> (first | (exfalso; omega) | contradiction | skip)) | refine wpC_block ?_ | refine wpC_ret ?_ | refine wpC_skip ?_ | refine wpC_exit ?_ | refine wpC_label ?_ | (apply wpC_drawX (id := 5) ([]) [0, 1, 2, 3, 4, 5] rfl (by kernel_rfl); (case hpk => (repeat (first | exact Pcs.blk (by infer_instance) | exact Pcs.nil | (apply Pcs.cons; infer_instance) | apply Pcs.app))))) | (show Then _ _ _ _ _ _ _; first | refine then_normal ?_ | refine then_ret ?_ | refine then_exit ?_) | (show InBlock _ _ _ _ _ _; first | refine inBlock_normal ?_ | refine inBlock_ret ?_ | refine inBlock_same ?_ | refine b_other ?_) | (show LoopPost _ _ _ _ _ _; first | refine loop_ret ?_ | refine loop_exit ?_) | (show wpD _ _ _ _ _ _ _ _; first | refine wpD_nil ?_ | refine d_rdp ?_ | refine d_rdm ?_ | refine d_sks ?_ | refine d_tt ?_ | refine d_ff ?_ | ((first | refine d_cmp (fun _ => ?_) (fun _ => ?_) | refine d_cb (fun _ => ?_) (fun _ => ?_)) <;> (first | (exfalso; omega) | contradiction | skip)) | refine d_exs ?_ | refine d_exn ?_ | ((first | refine d_p (fun _ => ?_) (fun _ => ?_) | refine d_g (fun _ => ?_) (fun _ => ?_)) <;> (first | (exfalso; omega) | contradiction | skip))) | (show (_ ∨ Subs _ _) ∧ _; first | refine d_sub ?_ | refine d_cov ?_) | (show RetP _ _ _ _ _ _ _ _; first | refine r_1 ?_) | assumption | intro _)
      all_goals first | (exfalso; omega) | skip
      rename_i b3 _ bi oi hI0
      refine wpC_loopA (κ := FiS) [4, 5, 6, 25, 26, 27, 28, 29, 30, 31, 32, 33, 34, 35, 36, 37, 38, 39] (fun _ => []) (fun t => ([(bi, t.o)] ++ [(b3, cellsO [.int .i64 s] 2)]) ++ (([(d, cellsO (ldV b fr n p true m1 m2 next) 65), (m1, .map bes bclk), (m2, .map ses sclk)] ++ ([] ++ (opH lo ++ M))) ++ F))
        (fun t => IterK (Value.int .i64) pv m2 ses sclk t.last t.left t.o ∧ (t.done ++ t.left).Perm (lo.map fun x => (x.slot, x.o)) ∧ ∀ q ∈ t.done, q.1 < s → ∃ x ∈ lo, x.slot = q.1 ∧ x.ch = true) (fun t => t.left.length) ⟨[], none, lo.map fun x => (x.slot, x.o), oi⟩ ⟨hI0, .refl _, fun q h => (by cases h)⟩ trivial q_drp ?_
      clear hI0
      rintro ⟨done, la, left, o⟩ ρx ⟨hI, hp, hdn⟩
      simp only at hI hp hdn ⊢
      repeat' ((fail_if_success (show wpC _ (.seq (.region 12 _ _) _) _ _ _ _)); (fail_if_success (show wpC _ (.seq (.seq (.region 10 _ _) _) _) _ _ _ _)); (fail_if_success (show wpC _ (.seq (.region 10 _ _) _) _ _ _ _)); first | (show wpO _ _ _ _ _ _ _; first | refine wpO_nil ?_ | (show wpO _ _ _ (⟨_, .binOp _ _ _ _ _, _, _, _, _⟩ :: _) _ _ _; first | refine s_tt ?_ | refine s_ff ?_ | refine s_rdp ?_ | ((first | refine s_cmp (fun _ => ?_) (fun _ => ?_) | refine s_cb (fun _ => ?_) (fun _ => ?_)) <;> (first | (exfalso; omega) | contradiction | skip))) | (show wpO _ _ _ (⟨_, .pick _ _ _, _, _, _, _⟩ :: _) _ _ _; first | refine s_rdp ?_ | (refine s_p (fun _ => ?_) (fun _ => ?_) <;> (first | (exfalso; omega) | contradiction | skip))) | refine s_rdp ?_ | refine s_rdm ?_ | refine s_exq ?_ | refine s_exm ?_ | refine s_sks ?_ | refine s_skn ?_ | (refine s_g (fun _ => ?_) (fun _ => ?_) <;> (first | (exfalso; omega) | contradiction | skip))) | (show Ex _ _ _ _ _; first | (show Ex _ ⟨_, .box _ _, _, _, _, _⟩ _ _ _; first | (refine e_boxA ?_; intro _) | (refine e_box1 ?_; intro _)) | (show Ex _ ⟨_, .range _ _, _, _, _, _⟩ _ _ _; refine e_range ?_; intro _ _ _) | (show Ex _ ⟨_, .next _ _, _, _, _, _⟩ _ _ _; refine e_next (fun _ => ?_) (fun _ _ _ _ => ?_))) | (show wpC _ _ _ _ _ _; first | refine wpC_seq ?_ | refine wpC_region ?_ | refine c_true ?_ | refine c_false ?_ | (refine c_b (fun _ => ?_) (fun _ => ?_) <;> (first | (exfalso; omega) | contradiction | skip)) | refine wpC_block ?_ | refine wpC_ret ?_ | refine wpC_skip ?_ | refine wpC_exit ?_ | refine wpC_label ?_ | (apply wpC_drawX (id := 5) ([]) [0, 1, 2, 3, 4, 5] rfl (by kernel_rfl); (case hpk => (repeat (first | exact Pcs.blk (by infer_instance) | exact Pcs.nil | (apply Pcs.cons; infer_instance) | apply Pcs.app))))) | (show Then _ _ _ _ _ _ _; first | refine then_normal ?_ | refine then_ret ?_ | refine then_exit ?_) | (show InBlock _ _ _ _ _ _; first | refine inBlock_normal ?_ | refine inBlock_ret ?_ | refine inBlock_same ?_ | refine b_other ?_) | (show LoopPost _ _ _ _ _ _; first | refine loop_ret ?_ | refine loop_exit ?_) | (show wpD _ _ _ _ _ _ _ _; first | refine wpD_nil ?_ | refine d_rdp ?_ | refine d_rdm ?_ | refine d_sks ?_ | refine d_tt ?_ | refine d_ff ?_ | ((first | refine d_cmp (fun _ => ?_) (fun _ => ?_) | refine d_cb (fun _ => ?_) (fun _ => ?_)) <;> (first | (exfalso; omega) | contradiction | skip)) | refine d_exs ?_ | refine d_exn ?_ | ((first | refine d_p (fun _ => ?_) (fun _ => ?_) | refine d_g (fun _ => ?_) (fun _ => ?_)) <;> (first | (exfalso; omega) | contradiction | skip))) | (show (_ ∨ Subs _ _) ∧ _; first | refine d_sub ?_ | refine d_cov ?_) | (show RetP _ _ _ _ _ _ _ _; first | refine r_1 ?_))
      · rename_i hle
        subst hle
        rw [List.append_nil] at hp
        have hno : ¬ ∃ y ∈ L, y.slot < s ∧ y.ch n = false := fun ⟨y, hy, h1, h2⟩ => by
          have hyL := hy
          rw [← hLe] at hy
          obtain ⟨z, hz, rfl⟩ := List.mem_map.1 hy
          obtain ⟨x, hx, g1, g2⟩ := hdn (z.slot, z.o) (hp.mem_iff.2 (List.mem_map.2 ⟨z, hz, rfl⟩)) h1
          have hxc := hch x hx
          have he : x.c = z.c := srt_uniq hsrt (by rw [← hLe]; exact List.mem_map.2 ⟨x, hx, rfl⟩) hyL g1
          rw [g2] at hxc
          have h3 : Ol.ch n x.c = true := hxc.symm
          rw [he, h2] at h3
          cases h3
        rw [if_neg hno] at hK
        obtain ⟨R, hR⟩ := opH_filter (fun x => decide (s ≤ x.slot)) lo
        repeat' ((fail_if_success (show wpO _ _ _ (⟨some 40, _, _, _, _, _⟩ :: _) _ _ _)); first | (show wpO _ _ _ _ _ _ _; first | refine wpO_nil ?_ | (show wpO _ _ _ (⟨_, .binOp _ _ _ _ _, _, _, _, _⟩ :: _) _ _ _; first | refine s_tt ?_ | refine s_ff ?_ | refine s_rdp ?_ | ((first | refine s_cmp (fun _ => ?_) (fun _ => ?_) | refine s_cb (fun _ => ?_) (fun _ => ?_)) <;> (first | (exfalso; omega) | contradiction | skip))) | (show wpO _ _ _ (⟨_, .pick _ _ _, _, _, _, _⟩ :: _) _ _ _; first | refine s_rdp ?_ | (refine s_p (fun _ => ?_) (fun _ => ?_) <;> (first | (exfalso; omega) | contradiction | skip))) | refine s_rdp ?_ | refine s_rdm ?_ | refine s_exq ?_ | refine s_exm ?_ | refine s_sks ?_ | refine s_skn ?_ | (refine s_g (fun _ => ?_) (fun _ => ?_) <;> (first | (exfalso; omega) | contradiction | skip))) | (show Ex _ _ _ _ _; first | (show Ex _ ⟨_, .box _ _, _, _, _, _⟩ _ _ _; first | (refine e_boxA ?_; intro _) | (refine e_box1 ?_; intro _)) | (show Ex _ ⟨_, .range _ _, _, _, _, _⟩ _ _ _; refine e_range ?_; intro _ _ _) | (show Ex _ ⟨_, .next _ _, _, _, _, _⟩ _ _ _; refine e_next (fun _ => ?_) (fun _ _ _ _ => ?_))) | (show wpC _ _ _ _ _ _; first | refine wpC_seq ?_ | refine wpC_region ?_ | refine c_true ?_ | refine c_false ?_ | (refine c_b (fun _ => ?_) (fun _ => ?_) <;> (first | (exfalso; omega) | contradiction | skip)) | refine wpC_block ?_ | refine wpC_ret ?_ | refine wpC_skip ?_ | refine wpC_exit ?_ | refine wpC_label ?_ | (apply wpC_drawX (id := 5) ([]) [0, 1, 2, 3, 4, 5] rfl (by kernel_rfl); (case hpk => (repeat (first | exact Pcs.blk (by infer_instance) | exact Pcs.nil | (apply Pcs.cons; infer_instance) | apply Pcs.app))))) | (show Then _ _ _ _ _ _ _; first | refine then_normal ?_ | refine then_ret ?_ | refine then_exit ?_) | (show InBlock _ _ _ _ _ _; first | refine inBlock_normal ?_ | refine inBlock_ret ?_ | refine inBlock_same ?_ | refine b_other ?_) | (show LoopPost _ _ _ _ _ _; first | refine loop_ret ?_ | refine loop_exit ?_) | (show wpD _ _ _ _ _ _ _ _; first | refine wpD_nil ?_ | refine d_rdp ?_ | refine d_rdm ?_ | refine d_sks ?_ | refine d_tt ?_ | refine d_ff ?_ | ((first | refine d_cmp (fun _ => ?_) (fun _ => ?_) | refine d_cb (fun _ => ?_) (fun _ => ?_)) <;> (first | (exfalso; omega) | contradiction | skip)) | refine d_exs ?_ | refine d_exn ?_ | ((first | refine d_p (fun _ => ?_) (fun _ => ?_) | refine d_g (fun _ => ?_) (fun _ => ?_)) <;> (first | (exfalso; omega) | contradiction | skip))) | (show (_ ∨ Subs _ _) ∧ _; first | refine d_sub ?_ | refine d_cov ?_) | (show RetP _ _ _ _ _ _ _ _; first | refine r_1 ?_))
        refine wpO_drp (H2 := ([(bi, o)] ++ [(b3, cellsO [.int .i64 s] 2)]) ++ (([(d, cellsO (ldV b fr n p true m1 m2 next) 65), (m1, .map bes bclk), (m2, .map ses sclk)] ++ ([] ++ (opH (lo.filter fun x => decide (s ≤ x.slot)) ++ M))) ++ F)) ⟨R, perm_in hR⟩ ?_
        have h := fun es' hM' => hK _ (hfl es' sclk trivial hM')
        have h : ∀ es', MapK (Value.int .i64) pv es' sclk ((lo.map fun x => (x.slot, x.o)).filter fun p => decide (s ≤ p.1)) → K (.int .i64 0) (([(d, cellsO (ldV b fr n p true m1 m2 next) 65), (m1, .map bes bclk), (m2, .map es' sclk)] ++ (opH (lo.filter fun x => decide (s ≤ x.slot)) ++ M)) ++ F) := h
        clear hK hfl hr hI hdn
        repeat' (first | (show wpO _ _ _ _ _ _ _; first | refine wpO_nil ?_ | (show wpO _ _ _ (⟨_, .binOp _ _ _ _ _, _, _, _, _⟩ :: _) _ _ _; first | refine s_tt ?_ | refine s_ff ?_ | refine s_rdp ?_ | ((first | refine s_cmp (fun _ => ?_) (fun _ => ?_) | refine s_cb (fun _ => ?_) (fun _ => ?_)) <;> (first | (exfalso; omega) | contradiction | skip))) | (show wpO _ _ _ (⟨_, .pick _ _ _, _, _, _, _⟩ :: _) _ _ _; first | refine s_rdp ?_ | (refine s_p (fun _ => ?_) (fun _ => ?_) <;> (first | (exfalso; omega) | contradiction | skip))) | refine s_rdp ?_ | refine s_rdm ?_ | refine s_exq ?_ | refine s_exm ?_ | refine s_sks ?_ | refine s_skn ?_ | (refine s_g (fun _ => ?_) (fun _ => ?_) <;> (first | (exfalso; omega) | contradiction | skip))) | (show Ex _ _ _ _ _; first | (show Ex _ ⟨_, .call ⟨.value (.func _), _, _⟩, _, _, _, _⟩ _ _ _; refine e_call ?_; first | (apply p_pcs; apply delFunc _ hM; (try case hS => assumption); (case hpcs => (repeat (first | exact Pcs.blk (by infer_instance) | exact Pcs.nil | (apply Pcs.cons; infer_instance) | apply Pcs.app))))) | (show Ex _ ⟨_, .box _ _, _, _, _, _⟩ _ _ _; first | (refine e_boxA ?_; intro _) | (refine e_box1 ?_; intro _)) | (show Ex _ ⟨_, .range _ _, _, _, _, _⟩ _ _ _; refine e_range ?_; intro _ _ _) | (show Ex _ ⟨_, .next _ _, _, _, _, _⟩ _ _ _; refine e_next (fun _ => ?_) (fun _ _ _ _ => ?_))) | (show wpC _ _ _ _ _ _; first | refine wpC_seq ?_ | refine wpC_region ?_ | refine c_true ?_ | refine c_false ?_ | (refine c_b (fun _ => ?_) (fun _ => ?_) <;> (first | (exfalso; omega) | contradiction | skip)) | refine wpC_block ?_ | refine wpC_ret ?_ | refine wpC_skip ?_ | refine wpC_exit ?_ | refine wpC_label ?_ | (apply wpC_drawX (id := 5) ([]) [0, 1, 2, 3, 4, 5] rfl (by kernel_rfl); (case hpk => (repeat (first | exact Pcs.blk (by infer_instance) | exact Pcs.nil | (apply Pcs.cons; infer_instance) | apply Pcs.app))))) | (show Then _ _ _ _ _ _ _; first | refine then_normal ?_ | refine then_ret ?_ | refine then_exit ?_) | (show InBlock _ _ _ _ _ _; first | refine inBlock_normal ?_ | refine inBlock_ret ?_ | refine inBlock_same ?_ | refine b_other ?_) | (show LoopPost _ _ _ _ _ _; first | refine loop_ret ?_ | refine loop_exit ?_) | (show wpD _ _ _ _ _ _ _ _; first | refine wpD_nil ?_ | refine d_rdp ?_ | refine d_rdm ?_ | refine d_sks ?_ | refine d_tt ?_ | refine d_ff ?_ | ((first | refine d_cmp (fun _ => ?_) (fun _ => ?_) | refine d_cb (fun _ => ?_) (fun _ => ?_)) <;> (first | (exfalso; omega) | contradiction | skip)) | refine d_exs ?_ | refine d_exn ?_ | ((first | refine d_p (fun _ => ?_) (fun _ => ?_) | refine d_g (fun _ => ?_) (fun _ => ?_)) <;> (first | (exfalso; omega) | contradiction | skip))) | (show (_ ∨ Subs _ _) ∧ _; first | refine d_sub ?_ | refine d_cov ?_) | (show RetP _ _ _ _ _ _ _ _; first | refine r_1 ?_) | assumption | intro _)
        all_goals first | (exfalso; omega) | skip
        rename_i es' hM'
        exact q_drop (h es' hM')
      · rename_i pr hpl o' hI'
        have hnd : (left.map Prod.fst).Nodup := by
          have h1 := (hp.map Prod.fst).nodup_iff.2 hM.keys
          rw [List.map_append] at h1
          exact (List.nodup_append.1 h1).2.1
        obtain ⟨x, hx, he⟩ := List.mem_map.1 (hp.mem_iff.1 (List.mem_append_right _ hpl))
        have hpm : ((done ++ [pr]) ++ adel left pr.1).Perm (lo.map fun x => (x.slot, x.o)) := by
          rw [List.append_assoc]
          exact ((perm_take hnd hpl).symm.append_left done).trans hp
        have hmem : x.c ∈ L := by rw [← hLe]; exact List.mem_map.2 ⟨x, hx, rfl⟩
        have hxc := hch x hx
        have hkeep : (pr.1 < s → x.ch = true) → ∀ q ∈ done ++ [pr], q.1 < s → ∃ x ∈ lo, x.slot = q.1 ∧ x.ch = true := fun g q hq hlt => by
          rcases List.mem_append.1 hq with hq | hq
          · exact hdn q hq hlt
          · obtain rfl := List.mem_singleton.1 hq
            exact ⟨x, hx, congrArg Prod.fst he, g hlt⟩
        obtain ⟨l1, l2, hls⟩ := List.append_of_mem hx
        clear hI hp hdn hnd hfl
        subst hls
        rw [opMid]
        obtain ⟨xs, xo, xe, xv, xc⟩ := x
        simp only at he hxc hkeep hmem
        subst he
        simp only at hkeep
        have hk0 := hK ⟨m1, m2, bes, bclk, ses, sclk, lb, l1 ++ ⟨xs, xo, xe, xv, xc⟩ :: l2, M⟩
        by_cases hlt : xs < s
        · cases xc with
          | true =>
            have hkeep := hkeep fun _ => rfl
            clear hK hk0 hr
            repeat' (first | (show wpO _ _ _ _ _ _ _; first | refine wpO_nil ?_ | (show wpO _ _ _ (⟨_, .binOp _ _ _ _ _, _, _, _, _⟩ :: _) _ _ _; first | refine s_tt ?_ | refine s_ff ?_ | refine s_rdp ?_ | ((first | refine s_cmp (fun _ => ?_) (fun _ => ?_) | refine s_cb (fun _ => ?_) (fun _ => ?_)) <;> (first | (exfalso; omega) | contradiction | skip))) | (show wpO _ _ _ (⟨_, .pick _ _ _, _, _, _, _⟩ :: _) _ _ _; first | refine s_rdp ?_ | (refine s_p (fun _ => ?_) (fun _ => ?_) <;> (first | (exfalso; omega) | contradiction | skip))) | refine s_rdp ?_ | refine s_rdm ?_ | refine s_exq ?_ | refine s_exm ?_ | refine s_sks ?_ | refine s_skn ?_ | (refine s_g (fun _ => ?_) (fun _ => ?_) <;> (first | (exfalso; omega) | contradiction | skip))) | (show Ex _ _ _ _ _; first | (show Ex _ ⟨_, .box _ _, _, _, _, _⟩ _ _ _; first | (refine e_boxA ?_; intro _) | (refine e_box1 ?_; intro _)) | (show Ex _ ⟨_, .range _ _, _, _, _, _⟩ _ _ _; refine e_range ?_; intro _ _ _) | (show Ex _ ⟨_, .next _ _, _, _, _, _⟩ _ _ _; refine e_next (fun _ => ?_) (fun _ _ _ _ => ?_))) | (show wpC _ _ _ _ _ _; first | refine wpC_seq ?_ | refine wpC_region ?_ | refine c_true ?_ | refine c_false ?_ | (refine c_b (fun _ => ?_) (fun _ => ?_) <;> (first | (exfalso; omega) | contradiction | skip)) | refine wpC_block ?_ | refine wpC_ret ?_ | refine wpC_skip ?_ | refine wpC_exit ?_ | refine wpC_label ?_ | (apply wpC_drawX (id := 5) ([]) [0, 1, 2, 3, 4, 5] rfl (by kernel_rfl); (case hpk => (repeat (first | exact Pcs.blk (by infer_instance) | exact Pcs.nil | (apply Pcs.cons; infer_instance) | apply Pcs.app))))) | (show Then _ _ _ _ _ _ _; first | refine then_normal ?_ | refine then_ret ?_ | refine then_exit ?_) | (show InBlock _ _ _ _ _ _; first | refine inBlock_normal ?_ | refine inBlock_ret ?_ | refine inBlock_same ?_ | refine b_other ?_) | (show LoopPost _ _ _ _ _ _; first | refine loop_ret ?_ | refine loop_exit ?_) | (show wpD _ _ _ _ _ _ _ _; first | refine wpD_nil ?_ | refine d_rdp ?_ | refine d_rdm ?_ | refine d_sks ?_ | refine d_tt ?_ | refine d_ff ?_ | ((first | refine d_cmp (fun _ => ?_) (fun _ => ?_) | refine d_cb (fun _ => ?_) (fun _ => ?_)) <;> (first | (exfalso; omega) | contradiction | skip)) | refine d_exs ?_ | refine d_exn ?_ | ((first | refine d_p (fun _ => ?_) (fun _ => ?_) | refine d_g (fun _ => ?_) (fun _ => ?_)) <;> (first | (exfalso; omega) | contradiction | skip))) | (show (_ ∨ Subs _ _) ∧ _; first | refine d_sub ?_ | refine d_cov ?_) | (show RetP _ _ _ _ _ _ _ _; first | refine r_1 ?_))
            all_goals first
              | (exfalso; omega)
              | exact lp_end ⟨done ++ [(xs, xo)], some (xs, xo), adel left xs, o'⟩ (adel_less hpl) ⟨hI', hpm, hkeep⟩
              | trace_state
          | false =>
            have hex : ∃ y ∈ L, y.slot < s ∧ y.ch n = false := ⟨⟨xs, xe.c, xv⟩, hmem, hlt, hxc.symm⟩
            rw [if_pos hex] at hk0
            have h := hk0 hr
            have h : K (.int .i64 1) (([(d, cellsO (ldV b fr n p true m1 m2 next) 65), (m1, .map bes bclk), (m2, .map ses sclk)] ++ (opH (l1 ++ ⟨xs, xo, xe, xv, false⟩ :: l2) ++ M)) ++ F) := h
            rw [opMid] at h
            clear hK hk0 hr
            repeat' (first | (show wpO _ _ _ _ _ _ _; first | refine wpO_nil ?_ | (show wpO _ _ _ (⟨_, .binOp _ _ _ _ _, _, _, _, _⟩ :: _) _ _ _; first | refine s_tt ?_ | refine s_ff ?_ | refine s_rdp ?_ | ((first | refine s_cmp (fun _ => ?_) (fun _ => ?_) | refine s_cb (fun _ => ?_) (fun _ => ?_)) <;> (first | (exfalso; omega) | contradiction | skip))) | (show wpO _ _ _ (⟨_, .pick _ _ _, _, _, _, _⟩ :: _) _ _ _; first | refine s_rdp ?_ | (refine s_p (fun _ => ?_) (fun _ => ?_) <;> (first | (exfalso; omega) | contradiction | skip))) | refine s_rdp ?_ | refine s_rdm ?_ | refine s_exq ?_ | refine s_exm ?_ | refine s_sks ?_ | refine s_skn ?_ | (refine s_g (fun _ => ?_) (fun _ => ?_) <;> (first | (exfalso; omega) | contradiction | skip))) | (show Ex _ _ _ _ _; first | (show Ex _ ⟨_, .box _ _, _, _, _, _⟩ _ _ _; first | (refine e_boxA ?_; intro _) | (refine e_box1 ?_; intro _)) | (show Ex _ ⟨_, .range _ _, _, _, _, _⟩ _ _ _; refine e_range ?_; intro _ _ _) | (show Ex _ ⟨_, .next _ _, _, _, _, _⟩ _ _ _; refine e_next (fun _ => ?_) (fun _ _ _ _ => ?_))) | (show wpC _ _ _ _ _ _; first | refine wpC_seq ?_ | refine wpC_region ?_ | refine c_true ?_ | refine c_false ?_ | (refine c_b (fun _ => ?_) (fun _ => ?_) <;> (first | (exfalso; omega) | contradiction | skip)) | refine wpC_block ?_ | refine wpC_ret ?_ | refine wpC_skip ?_ | refine wpC_exit ?_ | refine wpC_label ?_ | (apply wpC_drawX (id := 5) ([]) [0, 1, 2, 3, 4, 5] rfl (by kernel_rfl); (case hpk => (repeat (first | exact Pcs.blk (by infer_instance) | exact Pcs.nil | (apply Pcs.cons; infer_instance) | apply Pcs.app))))) | (show Then _ _ _ _ _ _ _; first | refine then_normal ?_ | refine then_ret ?_ | refine then_exit ?_) | (show InBlock _ _ _ _ _ _; first | refine inBlock_normal ?_ | refine inBlock_ret ?_ | refine inBlock_same ?_ | refine b_other ?_) | (show LoopPost _ _ _ _ _ _; first | refine loop_ret ?_ | refine loop_exit ?_) | (show wpD _ _ _ _ _ _ _ _; first | refine wpD_nil ?_ | refine d_rdp ?_ | refine d_rdm ?_ | refine d_sks ?_ | refine d_tt ?_ | refine d_ff ?_ | ((first | refine d_cmp (fun _ => ?_) (fun _ => ?_) | refine d_cb (fun _ => ?_) (fun _ => ?_)) <;> (first | (exfalso; omega) | contradiction | skip)) | refine d_exs ?_ | refine d_exn ?_ | ((first | refine d_p (fun _ => ?_) (fun _ => ?_) | refine d_g (fun _ => ?_) (fun _ => ?_)) <;> (first | (exfalso; omega) | contradiction | skip))) | (show (_ ∨ Subs _ _) ∧ _; first | refine d_sub ?_ | refine d_cov ?_) | (show RetP _ _ _ _ _ _ _ _; first | refine r_1 ?_))
            all_goals first | (exfalso; omega) | exact q_drop h | trace_state
        · have hkeep := hkeep fun g => absurd g hlt
          clear hK hk0 hr
          repeat' (first | (show wpO _ _ _ _ _ _ _; first | refine wpO_nil ?_ | (show wpO _ _ _ (⟨_, .binOp _ _ _ _ _, _, _, _, _⟩ :: _) _ _ _; first | refine s_tt ?_ | refine s_ff ?_ | refine s_rdp ?_ | ((first | refine s_cmp (fun _ => ?_) (fun _ => ?_) | refine s_cb (fun _ => ?_) (fun _ => ?_)) <;> (first | (exfalso; omega) | contradiction | skip))) | (show wpO _ _ _ (⟨_, .pick _ _ _, _, _, _, _⟩ :: _) _ _ _; first | refine s_rdp ?_ | (refine s_p (fun _ => ?_) (fun _ => ?_) <;> (first | (exfalso; omega) | contradiction | skip))) | refine s_rdp ?_ | refine s_rdm ?_ | refine s_exq ?_ | refine s_exm ?_ | refine s_sks ?_ | refine s_skn ?_ | (refine s_g (fun _ => ?_) (fun _ => ?_) <;> (first | (exfalso; omega) | contradiction | skip))) | (show Ex _ _ _ _ _; first | (show Ex _ ⟨_, .box _ _, _, _, _, _⟩ _ _ _; first | (refine e_boxA ?_; intro _) | (refine e_box1 ?_; intro _)) | (show Ex _ ⟨_, .range _ _, _, _, _, _⟩ _ _ _; refine e_range ?_; intro _ _ _) | (show Ex _ ⟨_, .next _ _, _, _, _, _⟩ _ _ _; refine e_next (fun _ => ?_) (fun _ _ _ _ => ?_))) | (show wpC _ _ _ _ _ _; first | refine wpC_seq ?_ | refine wpC_region ?_ | refine c_true ?_ | refine c_false ?_ | (refine c_b (fun _ => ?_) (fun _ => ?_) <;> (first | (exfalso; omega) | contradiction | skip)) | refine wpC_block ?_ | refine wpC_ret ?_ | refine wpC_skip ?_ | refine wpC_exit ?_ | refine wpC_label ?_ | (apply wpC_drawX (id := 5) ([]) [0, 1, 2, 3, 4, 5] rfl (by kernel_rfl); (case hpk => (repeat (first | exact Pcs.blk (by infer_instance) | exact Pcs.nil | (apply Pcs.cons; infer_instance) | apply Pcs.app))))) | (show Then _ _ _ _ _ _ _; first | refine then_normal ?_ | refine then_ret ?_ | refine then_exit ?_) | (show InBlock _ _ _ _ _ _; first | refine inBlock_normal ?_ | refine inBlock_ret ?_ | refine inBlock_same ?_ | refine b_other ?_) | (show LoopPost _ _ _ _ _ _; first | refine loop_ret ?_ | refine loop_exit ?_) | (show wpD _ _ _ _ _ _ _ _; first | refine wpD_nil ?_ | refine d_rdp ?_ | refine d_rdm ?_ | refine d_sks ?_ | refine d_tt ?_ | refine d_ff ?_ | ((first | refine d_cmp (fun _ => ?_) (fun _ => ?_) | refine d_cb (fun _ => ?_) (fun _ => ?_)) <;> (first | (exfalso; omega) | contradiction | skip)) | refine d_exs ?_ | refine d_exn ?_ | ((first | refine d_p (fun _ => ?_) (fun _ => ?_) | refine d_g (fun _ => ?_) (fun _ => ?_)) <;> (first | (exfalso; omega) | contradiction | skip))) | (show (_ ∨ Subs _ _) ∧ _; first | refine d_sub ?_ | refine d_cov ?_) | (show RetP _ _ _ _ _ _ _ _; first | refine r_1 ?_))
          all_goals first
            | (exfalso; omega)
            | exact lp_end ⟨done ++ [(xs, xo)], some (xs, xo), adel left xs, o'⟩ (adel_less hpl) ⟨hI', hpm, hkeep⟩
            | trace_state
end Go.Vl
