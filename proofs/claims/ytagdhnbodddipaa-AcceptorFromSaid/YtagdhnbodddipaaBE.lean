/-
  The acceptor: Forget, Clone.
-/
import Derived.Test.YtagdhnbodddipaaA7
import Derived.Test.YtagdhnbodddipaaAQ
namespace Go.Vl
open Go.Proofs
attribute [local irreducible] wpC wpO wpD Ex Rd callsK RetP Drop valK
set_option maxHeartbeats 4000000 in
set_option maxRecDepth 100000 in
theorem forget1 (e : World) {n k : Int} {s : SlR} {b : Nat} {c : Bool} {F : Hp} {K : Value → Hp → Prop} (hc : decide (k < n) = c) (hK : K (.bool c) ([(b, cellsO [.int .i64 n] 2)] ++ F)) :
    callsK Try.prog e 74 #[.int .i64 k, slV s, .pointer (some ⟨b, 0, none⟩)] ([(b, cellsO [.int .i64 n] 2)] ++ F) K := by
  subst hc
  refine calls_body (N := 9) (args := [.int .i64 k, slV s, .pointer (some ⟨b, 0, none⟩)]) Try.func74 rfl rfl rfl (by simp) ?_
  repeat' (first | (show wpO _ _ _ _ _ _ _; first | refine wpO_nil ?_ | (show wpO _ _ _ (⟨_, .binOp _ _ _ _ _, _, _, _, _⟩ :: _) _ _ _; first | refine s_tt ?_ | refine s_ff ?_ | refine s_rdp ?_ | (refine s_cmp (fun _ => ?_) (fun _ => ?_) <;> (first | (exfalso; omega) | contradiction | skip)) | (refine s_cb (fun _ => ?_) (fun _ => ?_) <;> (first | (exfalso; omega) | contradiction | skip))) | refine s_rdp ?_ | refine s_rdm ?_ | refine s_exq ?_ | refine s_exm ?_) | (show Ex _ _ _ _ _; first | (show Ex _ ⟨_, .box _ _, _, _, _, _⟩ _ _ _; first | (refine e_boxA ?_; intro _) | (refine e_box1 ?_; intro _))) | (show wpC _ _ _ _ _ _; first | refine wpC_seq ?_ | refine wpC_region ?_ | refine wpC_ret ?_ | refine wpC_skip ?_ | refine wpC_label ?_) | (show Then _ _ _ _ _ _ _; first | refine then_normal ?_ | refine then_ret ?_) | (show RetP _ _ _ _ _ _ _ _; first | refine r_1 ?_))
  · rename_i h
    rw [decide_eq_true h] at hK
    exact q_drop hK
  · rename_i h
    rw [decide_eq_false h] at hK
    exact q_drop hK
structure DfS where
  es : Array MapEntry
  last : Option (Int × SlR)
  left : List (Int × SlR)
  o : Obj
  cur : List SlR
set_option maxHeartbeats 4000000 in
set_option maxRecDepth 100000 in
theorem filter_kp (k : Int) (l : List SlR) : adel (l.map fun s => (s.slot, s)) k = (l.filter fun s => decide (s.slot ≠ k)).map fun s => (s.slot, s) := by
  unfold adel
  rw [List.filter_map]
  rfl
set_option maxHeartbeats 4000000 in
set_option maxRecDepth 100000 in
theorem delFunc (e : World) {n : Int} {m b clk : Nat} {es : Array MapEntry} {l : List SlR} {F : Hp} {K : Value → Hp → Prop} (hM : MapS es clk l)
    (hK : ∀ es', MapS es' clk (l.filter fun s => decide (n ≤ s.slot)) → K (.tuple #[]) (([(m, .map es' clk)] ++ [(b, cellsO [.int .i64 n] 2)]) ++ F)) :
    callsK Try.prog e 73 #[.map (some m), .func (.func 74) #[] #[.pointer (some ⟨b, 0, none⟩)]] (([(m, .map es clk)] ++ [(b, cellsO [.int .i64 n] 2)]) ++ F) K := by
  refine calls_body (N := 19) (args := [.map (some m), .func (.func 74) #[] #[.pointer (some ⟨b, 0, none⟩)]]) Try.func73 rfl rfl rfl (by simp) ?_
  repeat' (first | (show wpO _ _ _ _ _ _ _; first | refine wpO_nil ?_ | refine s_rdp ?_ | refine s_rdm ?_ | refine s_exq ?_ | refine s_exm ?_) | (show Ex _ _ _ _ _; first | (show Ex _ ⟨_, .alloc _, _, _, _, _⟩ _ _ _; first | (refine e_allocA ?_; intro _) | (refine e_alloc1 ?_; intro _)) | (show Ex _ ⟨_, .store _ _ _, _, _, _, _⟩ _ _ _; first | refine e_store1 ?_ | refine e_storeA ?_ | (refine e_storeO ?_; intro _ _)) | (show Ex _ ⟨_, .range _ _, _, _, _, _⟩ _ _ _; refine e_range ?_; intro _ _ _) | (show Ex _ ⟨_, .next _ _, _, _, _, _⟩ _ _ _; refine e_next (fun _ => ?_) (fun _ _ _ _ => ?_)) | (show Ex _ ⟨_, .call ⟨.builtin .delete, _, _⟩, _, _, _, _⟩ _ _ _; refine e_delete ?_; intro _ _ _)) | (show wpC _ _ _ _ _ _; first | refine wpC_seq ?_ | refine wpC_region ?_ | refine c_true ?_ | refine c_false ?_ | (refine c_b (fun _ => ?_) (fun _ => ?_) <;> (first | (exfalso; omega) | contradiction | skip)) | refine wpC_block ?_ | refine wpC_ret ?_ | refine wpC_skip ?_ | refine wpC_exit ?_ | refine wpC_label ?_) | (show Then _ _ _ _ _ _ _; first | refine then_normal ?_ | refine then_ret ?_ | refine then_exit ?_) | (show InBlock _ _ _ _ _ _; first | refine inBlock_normal ?_ | refine inBlock_ret ?_ | refine inBlock_same ?_ | refine b_other ?_) | (show LoopPost _ _ _ _ _ _; first | refine loop_ret ?_ | refine loop_exit ?_) | (show RetP _ _ _ _ _ _ _ _; first | refine r_0 ?_))
  rename_i bi oi hI0
  refine wpC_loopA (κ := DfS) [4, 5, 8, 9, 10, 11, 12, 13, 14, 15, 16, 17, 18] (fun _ => []) (fun k => [(bi, k.o)] ++ ([(m, .map k.es clk)] ++ ([(b, cellsO [.int .i64 n] 2)] ++ F)))
    (fun k => IterK (Value.int .i64) slV m k.es clk k.last k.left k.o ∧ MapS k.es clk k.cur ∧ k.cur = (l.filter fun s => decide (n ≤ s.slot ∨ s.slot ∈ k.left.map Prod.fst)) ∧ ∀ p ∈ k.left, p.2.slot = p.1) (fun k => k.left.length)
    ⟨es, none, l.map fun s => (s.slot, s), oi, l⟩ ⟨hI0, hM, by rw [List.filter_eq_self.2]; intro s hs; simp; right; exact ⟨s, hs, rfl⟩, fun p hp => by obtain ⟨s, _, rfl⟩ := List.mem_map.1 hp; rfl⟩ trivial q_drp ?_
  clear hM hI0
  rintro ⟨es, la, left, oi, cur⟩ ρx ⟨hI, hM, hcur, hls⟩
  simp only at hI hM hcur hls ⊢
  repeat' ((fail_if_success (show wpO _ _ _ (⟨_, .call ⟨.value (.tmp _), _, _⟩, _, _, _, _⟩ :: _) _ _ _)); first | (show wpO _ _ _ _ _ _ _; first | refine wpO_nil ?_ | refine s_rdp ?_ | refine s_rdm ?_ | refine s_exq ?_ | refine s_exm ?_) | (show Ex _ _ _ _ _; first | (show Ex _ ⟨_, .alloc _, _, _, _, _⟩ _ _ _; first | (refine e_allocA ?_; intro _) | (refine e_alloc1 ?_; intro _)) | (show Ex _ ⟨_, .store _ _ _, _, _, _, _⟩ _ _ _; first | refine e_store1 ?_ | refine e_storeA ?_ | (refine e_storeO ?_; intro _ _)) | (show Ex _ ⟨_, .range _ _, _, _, _, _⟩ _ _ _; refine e_range ?_; intro _ _ _) | (show Ex _ ⟨_, .next _ _, _, _, _, _⟩ _ _ _; refine e_next (fun _ => ?_) (fun _ _ _ _ => ?_)) | (show Ex _ ⟨_, .call ⟨.builtin .delete, _, _⟩, _, _, _, _⟩ _ _ _; refine e_delete ?_; intro _ _ _)) | (show wpC _ _ _ _ _ _; first | refine wpC_seq ?_ | refine wpC_region ?_ | refine c_true ?_ | refine c_false ?_ | (refine c_b (fun _ => ?_) (fun _ => ?_) <;> (first | (exfalso; omega) | contradiction | skip)) | refine wpC_block ?_ | refine wpC_ret ?_ | refine wpC_skip ?_ | refine wpC_exit ?_ | refine wpC_label ?_) | (show Then _ _ _ _ _ _ _; first | refine then_normal ?_ | refine then_ret ?_ | refine then_exit ?_) | (show InBlock _ _ _ _ _ _; first | refine inBlock_normal ?_ | refine inBlock_ret ?_ | refine inBlock_same ?_ | refine b_other ?_) | (show LoopPost _ _ _ _ _ _; first | refine loop_ret ?_ | refine loop_exit ?_) | (show RetP _ _ _ _ _ _ _ _; first | refine r_0 ?_))
  · rename_i hl
    subst hl
    have := hK es (by have := hM; rw [hcur] at this; simpa using this)
    exact q_drop this
  · rename_i pr hpl o' hI' bx
    have hlt : pr.2.slot = pr.1 := hls pr hpl
    have hsub : ∀ p ∈ adel left pr.1, p.2.slot = p.1 := fun p hp => hls p (List.mem_filter.1 hp).1
    have hin : ∀ k : Int, k ∈ (adel left pr.1).map Prod.fst ↔ k ≠ pr.1 ∧ k ∈ left.map Prod.fst := fun k => adel_keys
    by_cases hn : pr.1 < n
    · have hnd := decide_eq_true hn
      refine s_exs ?_
      refine e_callV ?_
      refine val_func rfl (by kernel_rfl) rfl ?_
      apply p_pcs
      apply (forget1 _ hnd)
      (case hpcs => (repeat (first | exact Pcs.blk (by infer_instance) | exact Pcs.nil | (apply Pcs.cons; infer_instance) | apply Pcs.app)))
      repeat' (first | (show wpO _ _ _ _ _ _ _; first | refine wpO_nil ?_ | refine s_rdp ?_ | refine s_rdm ?_ | refine s_exq ?_ | refine s_exm ?_) | (show Ex _ _ _ _ _; first | (show Ex _ ⟨_, .alloc _, _, _, _, _⟩ _ _ _; first | (refine e_allocA ?_; intro _) | (refine e_alloc1 ?_; intro _)) | (show Ex _ ⟨_, .store _ _ _, _, _, _, _⟩ _ _ _; first | refine e_store1 ?_ | refine e_storeA ?_ | (refine e_storeO ?_; intro _ _)) | (show Ex _ ⟨_, .range _ _, _, _, _, _⟩ _ _ _; refine e_range ?_; intro _ _ _) | (show Ex _ ⟨_, .next _ _, _, _, _, _⟩ _ _ _; refine e_next (fun _ => ?_) (fun _ _ _ _ => ?_)) | (show Ex _ ⟨_, .call ⟨.builtin .delete, _, _⟩, _, _, _, _⟩ _ _ _; refine e_delete ?_; intro _ _ _)) | (show wpC _ _ _ _ _ _; first | refine wpC_seq ?_ | refine wpC_region ?_ | refine c_true ?_ | refine c_false ?_ | (refine c_b (fun _ => ?_) (fun _ => ?_) <;> (first | (exfalso; omega) | contradiction | skip)) | refine wpC_block ?_ | refine wpC_ret ?_ | refine wpC_skip ?_ | refine wpC_exit ?_ | refine wpC_label ?_) | (show Then _ _ _ _ _ _ _; first | refine then_normal ?_ | refine then_ret ?_ | refine then_exit ?_) | (show InBlock _ _ _ _ _ _; first | refine inBlock_normal ?_ | refine inBlock_ret ?_ | refine inBlock_same ?_ | refine b_other ?_) | (show LoopPost _ _ _ _ _ _; first | refine loop_ret ?_ | refine loop_exit ?_) | (show RetP _ _ _ _ _ _ _ _; first | refine r_0 ?_))
      rename_i es' hM' hT
      have hI'' := hT _ _ _ _ hI'
      have hdd : adel (adel left pr.1) pr.1 = adel left pr.1 := by unfold adel; rw [List.filter_filter]; simp
      rw [hdd] at hI''
      rw [filter_kp] at hM'
      refine lp_end ⟨es', none, adel left pr.1, o', cur.filter fun s => decide (s.slot ≠ pr.1)⟩ (adel_less hpl) ⟨hI'', hM', ?_, hsub⟩
      simp only
      rw [hcur, List.filter_filter]
      refine List.filter_congr fun s hs => ?_
      rw [← Bool.decide_and, decide_eq_decide]
      rw [hin]
      constructor
      · rintro ⟨h1, h2 | h2⟩
        · exact .inl h2
        · exact .inr ⟨h1, h2⟩
      · rintro (h | ⟨h1, h2⟩)
        · exact ⟨by omega, .inl h⟩
        · exact ⟨h1, .inr h2⟩
    · have hnd := decide_eq_false hn
      refine s_exs ?_
      refine e_callV ?_
      refine val_func rfl (by kernel_rfl) rfl ?_
      apply p_pcs
      apply (forget1 _ hnd)
      (case hpcs => (repeat (first | exact Pcs.blk (by infer_instance) | exact Pcs.nil | (apply Pcs.cons; infer_instance) | apply Pcs.app)))
      repeat' (first | (show wpO _ _ _ _ _ _ _; first | refine wpO_nil ?_ | refine s_rdp ?_ | refine s_rdm ?_ | refine s_exq ?_ | refine s_exm ?_) | (show Ex _ _ _ _ _; first | (show Ex _ ⟨_, .alloc _, _, _, _, _⟩ _ _ _; first | (refine e_allocA ?_; intro _) | (refine e_alloc1 ?_; intro _)) | (show Ex _ ⟨_, .store _ _ _, _, _, _, _⟩ _ _ _; first | refine e_store1 ?_ | refine e_storeA ?_ | (refine e_storeO ?_; intro _ _)) | (show Ex _ ⟨_, .range _ _, _, _, _, _⟩ _ _ _; refine e_range ?_; intro _ _ _) | (show Ex _ ⟨_, .next _ _, _, _, _, _⟩ _ _ _; refine e_next (fun _ => ?_) (fun _ _ _ _ => ?_)) | (show Ex _ ⟨_, .call ⟨.builtin .delete, _, _⟩, _, _, _, _⟩ _ _ _; refine e_delete ?_; intro _ _ _)) | (show wpC _ _ _ _ _ _; first | refine wpC_seq ?_ | refine wpC_region ?_ | refine c_true ?_ | refine c_false ?_ | (refine c_b (fun _ => ?_) (fun _ => ?_) <;> (first | (exfalso; omega) | contradiction | skip)) | refine wpC_block ?_ | refine wpC_ret ?_ | refine wpC_skip ?_ | refine wpC_exit ?_ | refine wpC_label ?_) | (show Then _ _ _ _ _ _ _; first | refine then_normal ?_ | refine then_ret ?_ | refine then_exit ?_) | (show InBlock _ _ _ _ _ _; first | refine inBlock_normal ?_ | refine inBlock_ret ?_ | refine inBlock_same ?_ | refine b_other ?_) | (show LoopPost _ _ _ _ _ _; first | refine loop_ret ?_ | refine loop_exit ?_) | (show RetP _ _ _ _ _ _ _ _; first | refine r_0 ?_))
      refine lp_end ⟨es, some pr, adel left pr.1, o', cur⟩ (adel_less hpl) ⟨hI', hM, ?_, hsub⟩
      simp only
      rw [hcur]
      refine List.filter_congr fun s hs => ?_
      rw [decide_eq_decide, hin]
      constructor
      · rintro (h | h)
        · exact .inl h
        · by_cases he : s.slot = pr.1
          · exact .inl (by omega)
          · exact .inr ⟨he, h⟩
      · rintro (h | ⟨h1, h2⟩)
        · exact .inl h
        · exact .inr h2
set_option maxHeartbeats 4000000 in
set_option maxRecDepth 100000 in
theorem acH_filter (p : SlR → Bool) : ∀ l : List SlR, ∃ R, (acH l).Perm (acH (l.filter p) ++ R)
  | [] => ⟨[], by simp [acH]⟩
  | s :: l => by
    obtain ⟨R, hR⟩ := acH_filter p l
    rw [acH_cons]
    by_cases h : p s = true
    · exact ⟨R, by rw [List.filter_cons_of_pos h, acH_cons, List.append_assoc s.hp]; exact hR.append_left _⟩
    · refine ⟨R ++ s.hp, ?_⟩
      rw [List.filter_cons_of_neg (by simpa using h), ← List.append_assoc]
      exact List.perm_append_comm.trans (hR.append_right _)
set_option maxHeartbeats 4000000 in
set_option maxRecDepth 100000 in
theorem AcR.from {l : List SlR} {L : List Sl} (h : AcR l L) (n : Int) : AcR (l.filter fun s => decide (n ≤ s.slot)) (fromS L n) := by
  refine ⟨?_, h.srt.filter _, fun s hs => h.ok s (List.mem_filter.1 hs).1, fun s hs => h.sz s (List.mem_filter.1 hs).1⟩
  have h1 := h.p.filter (fun z => decide (n ≤ z.slot))
  rw [List.filter_map] at h1
  exact h1
set_option maxHeartbeats 4000000 in
set_option maxRecDepth 100000 in
theorem forget_A (e : World) {d : Nat} {a : Ac} {n : Int} {H F : Hp} {K : Value → Hp → Prop} (hA : AcO a d H)
    (hK : ∀ H', AcO (a.forget n).2 d H' → K (.int .i64 (a.forget n).1) (H' ++ F)) : callsK Try.prog e 38 #[pv d, .int .i64 n] (H ++ F) K := by
  obtain ⟨m, es, clk, l, rfl, hM, hR⟩ := hA
  by_cases hs : slotOK n
  · have hsd : decide (slotOK n) = true := decide_eq_true hs
    have hns : ¬ ¬ slotOK n := fun h => h hs
    have hK' : ∀ es' clk', MapS es' clk' (l.filter fun s => decide (n ≤ s.slot)) → K (.int .i64 0) ((accO d m es' clk' a.prom (if a.first < n then n else a.first) ++ acH (l.filter fun s => decide (n ≤ s.slot))) ++ F) := fun es' clk' hM' => by
      have := hK _ (by unfold Ac.forget; rw [if_neg hns]; exact ⟨m, es', clk', _, rfl, hM', hR.from n⟩)
      unfold Ac.forget at this
      rw [if_neg hns] at this
      exact this
    clear hK
    obtain ⟨R, hRp⟩ := acH_filter (fun s => decide (n ≤ s.slot)) l
    refine calls_body (N := 27) (args := [pv d, .int .i64 n]) Try.func38 rfl rfl rfl (by simp) ?_
    repeat' (first | (show wpO _ _ _ _ _ _ _; first | refine wpO_nil ?_ | refine s_rdp ?_ | refine s_rdm ?_ | refine s_exq ?_ | refine s_exm ?_) | (show Ex _ _ _ _ _; first | (show Ex _ ⟨_, .call ⟨.value (.func _), _, _⟩, _, _, _, _⟩ _ _ _; refine e_call ?_; first | (apply p_pcs; apply none_a _; (try case hS => assumption); (case hpcs => (repeat (first | exact Pcs.blk (by infer_instance) | exact Pcs.nil | (apply Pcs.cons; infer_instance) | apply Pcs.app)))) | (apply slot_E _ hsd) | (apply p_pcs; apply delFunc _ hM; (try case hS => assumption); (case hpcs => (repeat (first | exact Pcs.blk (by infer_instance) | exact Pcs.nil | (apply Pcs.cons; infer_instance) | apply Pcs.app))))) | (show Ex _ ⟨_, .box _ _, _, _, _, _⟩ _ _ _; first | (refine e_boxA ?_; intro _) | (refine e_box1 ?_; intro _)) | (show Ex _ ⟨_, .store _ _ _, _, _, _, _⟩ _ _ _; first | refine e_store1 ?_ | refine e_storeA ?_ | (refine e_storeO ?_; intro _ _))) | (show wpC _ _ _ _ _ _; first | refine wpC_seq ?_ | refine wpC_region ?_ | refine c_true ?_ | refine c_false ?_ | (refine c_b (fun _ => ?_) (fun _ => ?_) <;> (first | (exfalso; omega) | contradiction | skip)) | refine wpC_block ?_ | refine wpC_ret ?_ | refine wpC_skip ?_ | refine wpC_label ?_ | (apply wpC_drawX (id := 6) ([]) [0, 1, 2, 3, 4, 5, 6, 7, 8, 9] rfl (by kernel_rfl); (case hpk => (repeat (first | exact Pcs.blk (by infer_instance) | exact Pcs.nil | (apply Pcs.cons; infer_instance) | apply Pcs.app))))) | (show Then _ _ _ _ _ _ _; first | refine then_normal ?_ | refine then_ret ?_) | (show InBlock _ _ _ _ _ _; first | refine inBlock_normal ?_ | refine inBlock_ret ?_ | refine inBlock_same ?_ | refine b_other ?_) | (show wpD _ _ _ _ _ _ _ _; first | refine wpD_nil ?_ | refine d_rdp ?_ | refine d_rdm ?_ | refine d_exs ?_ | refine d_exn ?_) | (show (_ ∨ Subs _ _) ∧ _; first | refine d_sub ?_ | refine d_cov ?_) | (show RetP _ _ _ _ _ _ _ _; first | refine r_1 ?_) | assumption | intro _)
    rename_i bx es' hM'
    have hk := hK' es' _ hM'
    refine drop_drop (q_drop (xs := (accO d m es' clk a.prom (if a.first < n then n else a.first) ++ acH l) ++ F) (drop_perm ((hRp.append_left _).append_right _) ?_))
    generalize acH (l.filter fun s => decide (n ≤ s.slot)) = Z at *
    exact q_drop hk
  · have hsd : decide (slotOK n) = false := decide_eq_false hs
    have hk := hK _ (by unfold Ac.forget; rw [if_pos hs]; exact ⟨m, es, clk, l, rfl, hM, hR⟩)
    unfold Ac.forget at hk
    rw [if_pos hs] at hk
    refine calls_body (N := 27) (args := [pv d, .int .i64 n]) Try.func38 rfl rfl rfl (by simp) ?_
    repeat' (first | (show wpO _ _ _ _ _ _ _; first | refine wpO_nil ?_ | refine s_rdp ?_ | refine s_rdm ?_ | refine s_exq ?_ | refine s_exm ?_) | (show Ex _ _ _ _ _; first | (show Ex _ ⟨_, .call ⟨.value (.func _), _, _⟩, _, _, _, _⟩ _ _ _; refine e_call ?_; first | (apply p_pcs; apply none_a _; (try case hS => assumption); (case hpcs => (repeat (first | exact Pcs.blk (by infer_instance) | exact Pcs.nil | (apply Pcs.cons; infer_instance) | apply Pcs.app)))) | (apply slot_E _ hsd)) | (show Ex _ ⟨_, .box _ _, _, _, _, _⟩ _ _ _; first | (refine e_boxA ?_; intro _) | (refine e_box1 ?_; intro _)) | (show Ex _ ⟨_, .store _ _ _, _, _, _, _⟩ _ _ _; first | refine e_store1 ?_ | refine e_storeA ?_ | (refine e_storeO ?_; intro _ _))) | (show wpC _ _ _ _ _ _; first | refine wpC_seq ?_ | refine wpC_region ?_ | refine c_true ?_ | refine c_false ?_ | (refine c_b (fun _ => ?_) (fun _ => ?_) <;> (first | (exfalso; omega) | contradiction | skip)) | refine wpC_block ?_ | refine wpC_ret ?_ | refine wpC_skip ?_ | refine wpC_label ?_ | (apply wpC_drawX (id := 6) ([]) [0, 1, 2, 3, 4, 5, 6, 7, 8, 9] rfl (by kernel_rfl); (case hpk => (repeat (first | exact Pcs.blk (by infer_instance) | exact Pcs.nil | (apply Pcs.cons; infer_instance) | apply Pcs.app))))) | (show Then _ _ _ _ _ _ _; first | refine then_normal ?_ | refine then_ret ?_) | (show InBlock _ _ _ _ _ _; first | refine inBlock_normal ?_ | refine inBlock_ret ?_ | refine inBlock_same ?_ | refine b_other ?_) | (show wpD _ _ _ _ _ _ _ _; first | refine wpD_nil ?_ | refine d_rdp ?_ | refine d_rdm ?_ | refine d_exs ?_ | refine d_exn ?_) | (show (_ ∨ Subs _ _) ∧ _; first | refine d_sub ?_ | refine d_cov ?_) | (show RetP _ _ _ _ _ _ _ _; first | refine r_1 ?_) | assumption | intro _)
    exact q_drop hk
structure ClS where
  last : Option (Int × SlR)
  left : List (Int × SlR)
  o : Obj
  es2 : Array MapEntry
  clk2 : Nat
  ys : List SlR
set_option maxHeartbeats 4000000 in
set_option maxRecDepth 100000 in
theorem clone_A (e : World) {d : Nat} {a : Ac} {H F : Hp} {K : Value → Hp → Prop} (hA : AcO a d H)
    (hK : ∀ d' H', AcO a d' H' → K (pv d') ((H' ++ H) ++ F)) : callsK Try.prog e 37 #[pv d] (H ++ F) K := by
  obtain ⟨m, es, clk, l, rfl, hM, hR⟩ := hA
  have hnd := hR.nodup
  refine calls_body (N := 41) (args := [pv d]) Try.func37 rfl rfl rfl (by simp) ?_
  repeat' ((fail_if_success (show wpC _ (.loop _) _ _ _ _)); first | (show wpO _ _ _ _ _ _ _; first | refine wpO_nil ?_ | refine s_rdp ?_ | refine s_rdm ?_ | refine s_exq ?_ | refine s_exm ?_) | (show Ex _ _ _ _ _; first | (show Ex _ ⟨_, .call ⟨.value (.func _), _, _⟩, _, _, _, _⟩ _ _ _; refine e_call ?_; first | (apply p_pcs; apply none_a _; (try case hS => assumption); (case hpcs => (repeat (first | exact Pcs.blk (by infer_instance) | exact Pcs.nil | (apply Pcs.cons; infer_instance) | apply Pcs.app)))) | (apply anew_spec _)) | (show Ex _ ⟨_, .alloc _, _, _, _, _⟩ _ _ _; first | (refine e_allocA ?_; intro _) | (refine e_alloc1 ?_; intro _)) | (show Ex _ ⟨_, .store _ _ _, _, _, _, _⟩ _ _ _; first | refine e_store1 ?_ | refine e_storeA ?_ | (refine e_storeO ?_; intro _ _)) | (show Ex _ ⟨_, .mapUpdate _ _ _ _, _, _, _, _⟩ _ _ _; refine e_mapUpdate ?_; intro _ _ _) | (show Ex _ ⟨_, .range _ _, _, _, _, _⟩ _ _ _; refine e_range ?_; intro _ _ _) | (show Ex _ ⟨_, .next _ _, _, _, _, _⟩ _ _ _; refine e_next (fun _ => ?_) (fun _ _ _ _ => ?_))) | (show wpC _ _ _ _ _ _; first | refine wpC_seq ?_ | refine wpC_region ?_ | refine c_true ?_ | refine c_false ?_ | (refine c_b (fun _ => ?_) (fun _ => ?_) <;> (first | (exfalso; omega) | contradiction | skip)) | refine wpC_block ?_ | refine wpC_ret ?_ | refine wpC_skip ?_ | refine wpC_exit ?_ | refine wpC_label ?_ | (apply wpC_drawX (id := 4) ([]) [0, 1, 2, 3, 4, 5, 6, 7, 8, 9, 10, 11, 12, 13, 14, 15] rfl (by kernel_rfl); (case hpk => (repeat (first | exact Pcs.blk (by infer_instance) | exact Pcs.nil | (apply Pcs.cons; infer_instance) | apply Pcs.app)))) | (apply wpC_drawX (id := 8) ([]) [0, 1, 2, 3, 4, 5, 6, 7] rfl (by kernel_rfl); (case hpk => (repeat (first | exact Pcs.blk (by infer_instance) | exact Pcs.nil | (apply Pcs.cons; infer_instance) | apply Pcs.app))))) | (show Then _ _ _ _ _ _ _; first | refine then_normal ?_ | refine then_ret ?_ | refine then_exit ?_) | (show InBlock _ _ _ _ _ _; first | refine inBlock_normal ?_ | refine inBlock_ret ?_ | refine inBlock_same ?_ | refine b_other ?_) | (show LoopPost _ _ _ _ _ _; first | refine loop_ret ?_ | refine loop_exit ?_) | (show wpD _ _ _ _ _ _ _ _; first | refine wpD_nil ?_ | refine d_rdp ?_ | refine d_rdm ?_ | refine d_exs ?_ | refine d_exn ?_) | (show (_ ∨ Subs _ _) ∧ _; first | refine d_sub ?_ | refine d_cov ?_) | (show RetP _ _ _ _ _ _ _ _; first | refine r_1 ?_) | assumption | intro _)
  rename_i d2 m2 bi oi hI0
  refine wpC_loopA (κ := ClS) [4, 5, 28, 29, 30, 31, 32, 33, 34, 35, 36, 37, 38, 39] (fun _ => []) (fun k => [(bi, k.o)] ++ (accO d2 m2 k.es2 k.clk2 a.prom a.first ++ (acH k.ys ++ ((accO d m es clk a.prom a.first ++ acH l) ++ F))))
    (fun k => IterK (Value.int .i64) slV m es clk k.last k.left k.o ∧ MapS k.es2 k.clk2 k.ys ∧ (k.ys.map SlR.c ++ k.left.map fun p => p.2.c).Perm (l.map SlR.c) ∧ (∀ y ∈ k.ys, y.ok) ∧ (∀ p ∈ k.left, p.2 ∈ l ∧ p.2.slot = p.1) ∧ (k.left.map Prod.fst).Nodup) (fun k => k.left.length)
    ⟨none, l.map fun s => (s.slot, s), oi, #[], 0, []⟩ ⟨hI0, MapK.nil _ _, by simp [Function.comp_def], (fun y h => by cases h), (fun p hp => by obtain ⟨s, hs, rfl⟩ := List.mem_map.1 hp; exact ⟨hs, rfl⟩), hnd⟩ trivial (by rw [show acH [] = [] from rfl]; exact q_drp) ?_
  clear hI0
  rintro ⟨la, left, oi, es2, clk2, ys⟩ ρx ⟨hI, hM2, hp, hyok, hls, hln⟩
  simp only at hI hM2 hp hyok hls hln ⊢
  repeat' ((fail_if_success (show wpC _ (.region 8 _ _) _ _ _ _)); first | (show wpO _ _ _ _ _ _ _; first | refine wpO_nil ?_ | refine s_rdp ?_ | refine s_rdm ?_ | refine s_exq ?_ | refine s_exm ?_) | (show Ex _ _ _ _ _; first | (show Ex _ ⟨_, .alloc _, _, _, _, _⟩ _ _ _; first | (refine e_allocA ?_; intro _) | (refine e_alloc1 ?_; intro _)) | (show Ex _ ⟨_, .store _ _ _, _, _, _, _⟩ _ _ _; first | refine e_store1 ?_ | refine e_storeA ?_ | (refine e_storeO ?_; intro _ _)) | (show Ex _ ⟨_, .mapUpdate _ _ _ _, _, _, _, _⟩ _ _ _; refine e_mapUpdate ?_; intro _ _ _) | (show Ex _ ⟨_, .range _ _, _, _, _, _⟩ _ _ _; refine e_range ?_; intro _ _ _) | (show Ex _ ⟨_, .next _ _, _, _, _, _⟩ _ _ _; refine e_next (fun _ => ?_) (fun _ _ _ _ => ?_))) | (show wpC _ _ _ _ _ _; first | refine wpC_seq ?_ | refine wpC_region ?_ | refine c_true ?_ | refine c_false ?_ | (refine c_b (fun _ => ?_) (fun _ => ?_) <;> (first | (exfalso; omega) | contradiction | skip)) | refine wpC_block ?_ | refine wpC_ret ?_ | refine wpC_skip ?_ | refine wpC_exit ?_ | refine wpC_label ?_ | (apply wpC_drawX (id := 4) ([]) [0, 1, 2, 3, 4, 5, 6, 7, 8, 9, 10, 11, 12, 13, 14, 15] rfl (by kernel_rfl); (case hpk => (repeat (first | exact Pcs.blk (by infer_instance) | exact Pcs.nil | (apply Pcs.cons; infer_instance) | apply Pcs.app)))) | (apply wpC_drawX (id := 8) ([]) [0, 1, 2, 3, 4, 5, 6, 7] rfl (by kernel_rfl); (case hpk => (repeat (first | exact Pcs.blk (by infer_instance) | exact Pcs.nil | (apply Pcs.cons; infer_instance) | apply Pcs.app))))) | (show Then _ _ _ _ _ _ _; first | refine then_normal ?_ | refine then_ret ?_ | refine then_exit ?_) | (show InBlock _ _ _ _ _ _; first | refine inBlock_normal ?_ | refine inBlock_ret ?_ | refine inBlock_same ?_ | refine b_other ?_) | (show LoopPost _ _ _ _ _ _; first | refine loop_ret ?_ | refine loop_exit ?_) | (show wpD _ _ _ _ _ _ _ _; first | refine wpD_nil ?_ | refine d_rdp ?_ | refine d_rdm ?_ | refine d_exs ?_ | refine d_exn ?_) | (show (_ ∨ Subs _ _) ∧ _; first | refine d_sub ?_ | refine d_cov ?_) | (show RetP _ _ _ _ _ _ _ _; first | refine r_1 ?_))
  · rename_i hl
    subst hl
    have hA2 : AcO a d2 (accO d2 m2 es2 clk2 a.prom a.first ++ acH ys) := by
      refine ⟨m2, es2, clk2, ys, rfl, hM2, ⟨?_, hR.srt, hyok, fun s hs => ?_⟩⟩
      · rw [List.map_nil, List.append_nil] at hp
        exact hp.trans hR.p
      · rw [List.map_nil, List.append_nil] at hp
        obtain ⟨t, ht, he⟩ := List.mem_map.1 (hp.mem_iff.1 (List.mem_map.2 ⟨s, hs, rfl⟩))
        rw [show s.en.c = t.en.c from congrArg Sl.en he.symm]
        exact hR.sz t ht
    exact q_drop (hK d2 _ hA2)
  · rename_i pr hpl o' hI' bx
    obtain ⟨hprl, hprs⟩ := hls pr hpl
    have hsi := acH_in hprl (hR.ok _ hprl)
    have hsz := hR.sz _ hprl
    have hpt := perm_take hln hpl
    have hnone : aget (ys.map fun s => (s.slot, s)) pr.1 = none := by
      rw [aget_none]
      intro q hq he
      obtain ⟨y, hy, rfl⟩ := List.mem_map.1 hq
      have hnn : ((l.map SlR.c).map Sl.slot).Nodup := by rw [List.map_map]; simpa [Function.comp_def] using hnd
      have h1 := (hp.map Sl.slot).nodup_iff.2 hnn
      rw [List.map_append, List.nodup_append] at h1
      exact h1.2.2 y.slot (List.mem_map.2 ⟨y.c, List.mem_map.2 ⟨y, hy, rfl⟩, rfl⟩) pr.1 (List.mem_map.2 ⟨pr.2.c, List.mem_map.2 ⟨pr, hpl, rfl⟩, hprs⟩) he
    obtain ⟨k, s⟩ := pr
    simp only at hprs hsi hsz hpt hnone hprl hI' hpl
    subst hprs
    repeat' (first | (show wpO _ _ _ _ _ _ _; first | refine wpO_nil ?_ | refine s_rdp ?_ | refine s_rdm ?_ | refine s_exq ?_ | refine s_exm ?_) | (show Ex _ _ _ _ _; first | (show Ex _ ⟨_, .call ⟨.value (.func _), _, _⟩, _, _, _, _⟩ _ _ _; refine e_call ?_; first | (apply p_pcs; apply twin_spec _ hsi hsz; (try case hS => assumption); (case hpcs => (repeat (first | exact Pcs.blk (by infer_instance) | exact Pcs.nil | (apply Pcs.cons; infer_instance) | apply Pcs.app))))) | (show Ex _ ⟨_, .alloc _, _, _, _, _⟩ _ _ _; first | (refine e_allocA ?_; intro _) | (refine e_alloc1 ?_; intro _)) | (show Ex _ ⟨_, .store _ _ _, _, _, _, _⟩ _ _ _; first | refine e_store1 ?_ | refine e_storeA ?_ | (refine e_storeO ?_; intro _ _)) | (show Ex _ ⟨_, .mapUpdate _ _ _ _, _, _, _, _⟩ _ _ _; refine e_mapUpdate ?_; intro _ _ _) | (show Ex _ ⟨_, .range _ _, _, _, _, _⟩ _ _ _; refine e_range ?_; intro _ _ _) | (show Ex _ ⟨_, .next _ _, _, _, _, _⟩ _ _ _; refine e_next (fun _ => ?_) (fun _ _ _ _ => ?_))) | (show wpC _ _ _ _ _ _; first | refine wpC_seq ?_ | refine wpC_region ?_ | refine c_true ?_ | refine c_false ?_ | (refine c_b (fun _ => ?_) (fun _ => ?_) <;> (first | (exfalso; omega) | contradiction | skip)) | refine wpC_block ?_ | refine wpC_ret ?_ | refine wpC_skip ?_ | refine wpC_exit ?_ | refine wpC_label ?_ | (apply wpC_drawX (id := 4) ([]) [0, 1, 2, 3, 4, 5, 6, 7, 8, 9, 10, 11, 12, 13, 14, 15] rfl (by kernel_rfl); (case hpk => (repeat (first | exact Pcs.blk (by infer_instance) | exact Pcs.nil | (apply Pcs.cons; infer_instance) | apply Pcs.app)))) | (apply wpC_drawX (id := 8) ([]) [0, 1, 2, 3, 4, 5, 6, 7] rfl (by kernel_rfl); (case hpk => (repeat (first | exact Pcs.blk (by infer_instance) | exact Pcs.nil | (apply Pcs.cons; infer_instance) | apply Pcs.app))))) | (show Then _ _ _ _ _ _ _; first | refine then_normal ?_ | refine then_ret ?_ | refine then_exit ?_) | (show InBlock _ _ _ _ _ _; first | refine inBlock_normal ?_ | refine inBlock_ret ?_ | refine inBlock_same ?_ | refine b_other ?_) | (show LoopPost _ _ _ _ _ _; first | refine loop_ret ?_ | refine loop_exit ?_) | (show wpD _ _ _ _ _ _ _ _; first | refine wpD_nil ?_ | refine d_rdp ?_ | refine d_rdm ?_ | refine d_exs ?_ | refine d_exn ?_) | (show (_ ∨ Subs _ _) ∧ _; first | refine d_sub ?_ | refine d_cov ?_) | (show RetP _ _ _ _ _ _ _ _; first | refine r_1 ?_) | assumption | intro _)
    rename_i y hyc hyk es2' clk2' hM2'
    have hys : y.slot = s.slot := congrArg Sl.slot hyc
    rw [aput_new hnone] at hM2'
    refine lp_end ⟨some (s.slot, s), adel left s.slot, o', es2', clk2', ys ++ [y]⟩ (adel_less hpl) ⟨hI', ?_, ?_, ?_, ?_, ?_⟩ (h6 := by simp only [acH_app, acH_cons, show acH [] = [] from rfl, List.append_nil]; exact q_drp)
    · show MapS es2' clk2' (ys ++ [y])
      unfold MapS
      rw [List.map_append, List.map_cons, List.map_nil, hys]
      exact hM2'
    · simp only
      rw [List.map_append, List.map_cons, List.map_nil, hyc, List.append_assoc]
      refine List.Perm.trans (List.Perm.append_left _ ?_) hp
      exact ((hpt.map fun p => p.2.c).symm : _)
    · intro z hz
      rcases List.mem_append.1 hz with hz | hz
      · exact hyok z hz
      · obtain rfl := List.mem_singleton.1 hz
        exact hyk
    · exact fun p hp => hls p (List.mem_filter.1 hp).1
    · exact adel_nodup hln
end Go.Vl
