/-
  AcceptorFrom.
-/
import Derived.Test.YtagdhnbodddipaaBS
namespace Go.Vl
open Go.Proofs
set_option maxHeartbeats 4000000 in
set_option maxRecDepth 100000 in
theorem fromL_len {prom : Bal} {first : Int} : ∀ (l acc : List Sl), (fromL prom first l acc).2.length ≤ acc.length + l.length
  | [], acc => by rw [fromL]; simp
  | x :: l, acc => by
    rw [fromL]
    split
    · simp
    · split
      · simp
      · have h1 := fromL_len (prom := prom) (first := first) l (putS acc x)
        have h2 := putS_len (x := x) acc
        simp only [List.length_cons]
        omega
set_option maxHeartbeats 4000000 in
set_option maxRecDepth 100000 in
theorem fromL_all {prom : Bal} {first : Int} {p : EnC → Prop} : ∀ (l acc : List Sl), (∀ x ∈ l, p x.en) → (∀ x ∈ acc, p x.en) → ∀ x ∈ (fromL prom first l acc).2, p x.en
  | [], acc, _, h2 => by rw [fromL]; exact h2
  | y :: l, acc, h1, h2 => by
    rw [fromL]
    split
    · intro x hx; cases hx
    · split
      · intro x hx; cases hx
      · refine fromL_all l _ (fun x hx => h1 x (by simp [hx])) fun x hx => ?_
        rcases putS_mem hx with rfl | hx
        · exact h1 _ (by simp)
        · exact h2 x hx
attribute [local irreducible] eqW eqV wpC wpO wpD Ex Rd callsK RetP Drop valK
section
variable {prom : Bal} {first c : Int} {ls : List SlR} {v : Value} {P F : Hp} {K : Value → Hp → Prop}
set_option maxHeartbeats 4000000 in
set_option maxRecDepth 100000 in
theorem from_AE (e : World) (hin : InSl P 59 (ls.map SlR.cells) v) (hP : ∀ s ∈ ls, EnIn P s.en ∧ EnSz s.en.c) (hl : ls.length * 528 ≤ 140737488355328)
    (h : (¬ fromOK prom first ∧ c = 1) ∨ (fromOK prom first ∧ (fromL prom first (ls.map SlR.c) []).1 = c ∧ c ≠ 0)) (hK : K (.tuple #[.pointer none, .int .i64 c]) (P ++ F)) :
    callsK Try.prog e 31 #[.agg prom.cells.toArray, .int .i64 first, v] (P ++ F) K := by
  rcases h with ⟨h1, rfl⟩ | ⟨h1, rfl, h2⟩
  · exact from_A e hin hP hl (fun _ => hK) (fun h => absurd h h1)
  · exact from_A e hin hP hl (fun h => absurd h1 h) (fun _ => ⟨fun _ => hK, fun h => absurd h h2⟩)
set_option maxHeartbeats 4000000 in
set_option maxRecDepth 100000 in
theorem from_RE (e : World) (hin : InSl P 59 (ls.map SlR.cells) v) (hP : ∀ s ∈ ls, EnIn P s.en ∧ EnSz s.en.c) (hl : ls.length * 528 ≤ 140737488355328)
    (h : (¬ fromOK prom first ∧ c = 1) ∨ (fromOK prom first ∧ (fromL prom first (ls.map SlR.c) []).1 = c ∧ c ≠ 0)) (hK : K (.tuple #[.pointer none, .int .i64 c]) (P ++ F)) :
    callsK Try.prog e 32 #[.agg prom.cells.toArray, .int .i64 first, v] (P ++ F) K := by
  rcases h with ⟨h1, rfl⟩ | ⟨h1, rfl, h2⟩
  · exact from_R e hin hP hl (fun _ => hK) (fun h => absurd h h1)
  · exact from_R e hin hP hl (fun h => absurd h1 h) (fun _ => ⟨fun _ => hK, fun h => absurd h h2⟩)
set_option maxHeartbeats 4000000 in
set_option maxRecDepth 100000 in
theorem from_AK (e : World) {L : List Sl} (hin : InSl P 59 (ls.map SlR.cells) v) (hP : ∀ s ∈ ls, EnIn P s.en ∧ EnSz s.en.c) (hl : ls.length * 528 ≤ 140737488355328) (h1 : fromOK prom first) (h2 : fromL prom first (ls.map SlR.c) [] = (0, L))
    (hK : ∀ d H, AcO ⟨prom, first, L⟩ d H → K (.tuple #[pv d, .int .i64 0]) ((H ++ P) ++ F)) :
    callsK Try.prog e 31 #[.agg prom.cells.toArray, .int .i64 first, v] (P ++ F) K :=
  from_A e hin hP hl (fun h => absurd h1 h) (fun _ => by rw [h2]; exact ⟨fun h => absurd rfl h, fun _ => hK⟩)
set_option maxHeartbeats 4000000 in
set_option maxRecDepth 100000 in
theorem from_RK (e : World) {L : List Sl} (hin : InSl P 59 (ls.map SlR.cells) v) (hP : ∀ s ∈ ls, EnIn P s.en ∧ EnSz s.en.c) (hl : ls.length * 528 ≤ 140737488355328) (h1 : fromOK prom first) (h2 : fromL prom first (ls.map SlR.c) [] = (0, L))
    (hK : ∀ d H, RfO ⟨prom, first, L⟩ d H → K (.tuple #[pv d, .int .i64 0]) ((H ++ P) ++ F)) :
    callsK Try.prog e 32 #[.agg prom.cells.toArray, .int .i64 first, v] (P ++ F) K :=
  from_R e hin hP hl (fun h => absurd h1 h) (fun _ => by rw [h2]; exact ⟨fun h => absurd rfl h, fun _ => hK⟩)
end
set_option maxHeartbeats 4000000 in
set_option maxRecDepth 100000 in
theorem from_law (e : World) {prom : Bal} {first : Int} {ls : List SlR} {v : Value} {I : Hp} {K : Value → Hp → Prop} (hin : InSl I 59 (ls.map SlR.cells) v) (hP : ∀ s ∈ ls, EnIn I s.en ∧ EnSz s.en.c) (hl : ls.length * 528 ≤ 140737488355328) (hK : K (.bool true) (I ++ [])) :
    callsK Try.prog e 6 #[.agg prom.cells.toArray, .int .i64 first, v] (I ++ []) K := by
  by_cases hc : ∃ c : Int, c ≠ 0 ∧ ((¬ fromOK prom first ∧ c = 1) ∨ (fromOK prom first ∧ (fromL prom first (ls.map SlR.c) []).1 = c ∧ c ≠ 0))
  · obtain ⟨c, hc0, hc⟩ := hc
    refine calls_body (N := 66) (args := [.agg prom.cells.toArray, .int .i64 first, v]) Try.func6 rfl rfl rfl (by simp) ?_
    repeat' (first | (show wpO _ _ _ _ _ _ _; first | refine wpO_nil ?_ | (show wpO _ _ _ (⟨_, .binOp _ _ _ _ _, _, _, _, _⟩ :: _) _ _ _; first | refine s_tt ?_ | refine s_ff ?_ | refine s_rdp ?_ | (refine s_cmp (fun _ => ?_) (fun _ => ?_) <;> (first | (exfalso; omega) | contradiction | skip)) | (refine s_cb (fun _ => ?_) (fun _ => ?_) <;> (first | (exfalso; omega) | contradiction | skip)) | refine s_sks ?_ | (refine s_g (fun _ => ?_) (fun _ => ?_) <;> (first | (exfalso; omega) | contradiction | skip))) | (show wpO _ _ _ (⟨_, .pick _ _ _, _, _, _, _⟩ :: _) _ _ _; first | refine s_rdp ?_ | (refine s_p (fun _ => ?_) (fun _ => ?_) <;> (first | (exfalso; omega) | contradiction | skip)) | refine s_sks ?_ | (refine s_g (fun _ => ?_) (fun _ => ?_) <;> (first | (exfalso; omega) | contradiction | skip))) | refine s_rdp ?_ | refine s_rdm ?_ | refine s_exq ?_ | refine s_exm ?_ | refine s_sks ?_ | refine s_skn ?_ | (refine s_g (fun _ => ?_) (fun _ => ?_) <;> (first | (exfalso; omega) | contradiction | skip))) | (show Ex _ _ _ _ _; first | (show Ex _ ⟨_, .call ⟨.value (.func _), _, _⟩, _, _, _, _⟩ _ _ _; refine e_call ?_; first | (apply p_pcs; apply from_AE _ hin hP hl hc; (try case hS => assumption); (case hpcs => (repeat (first | exact Pcs.blk (by infer_instance) | exact Pcs.nil | (apply Pcs.cons; infer_instance) | apply Pcs.app)))) | (apply p_pcs; apply from_RE _ hin hP hl hc; (try case hS => assumption); (case hpcs => (repeat (first | exact Pcs.blk (by infer_instance) | exact Pcs.nil | (apply Pcs.cons; infer_instance) | apply Pcs.app)))) | (apply p_pcs; apply live_spec _; (try case hS => assumption); (case hpcs => (repeat (first | exact Pcs.blk (by infer_instance) | exact Pcs.nil | (apply Pcs.cons; infer_instance) | apply Pcs.app))))) | (show Ex _ ⟨_, .box _ _, _, _, _, _⟩ _ _ _; first | (refine e_boxA ?_; intro _) | (refine e_box1 ?_; intro _))) | (show wpC _ _ _ _ _ _; first | refine wpC_seq ?_ | refine wpC_region ?_ | refine c_true ?_ | refine c_false ?_ | (refine c_b (fun _ => ?_) (fun _ => ?_) <;> (first | (exfalso; omega) | contradiction | skip)) | refine wpC_ret ?_ | refine wpC_skip ?_ | refine wpC_label ?_ | (apply wpC_drawX (id := 5) ([]) [0, 1, 2, 3, 5, 6, 7, 8, 4, 9, 10, 11, 13, 14, 15, 16, 12, 17, 18, 19, 20, 22, 21, 23, 24, 25, 26, 27] rfl (by kernel_rfl); (case hpk => (repeat (first | exact Pcs.blk (by infer_instance) | exact Pcs.nil | (apply Pcs.cons; infer_instance) | apply Pcs.app))))) | (show Then _ _ _ _ _ _ _; first | refine then_normal ?_ | refine then_ret ?_) | (show wpD _ _ _ _ _ _ _ _; first | refine wpD_nil ?_ | refine d_rdp ?_ | refine d_rdm ?_ | refine d_sks ?_ | refine d_tt ?_ | refine d_ff ?_ | (refine d_cmp (fun _ => ?_) (fun _ => ?_) <;> (first | (exfalso; omega) | contradiction | skip)) | (refine d_cb (fun _ => ?_) (fun _ => ?_) <;> (first | (exfalso; omega) | contradiction | skip)) | refine d_exs ?_ | refine d_exn ?_ | (refine d_p (fun _ => ?_) (fun _ => ?_) <;> (first | (exfalso; omega) | contradiction | skip)) | (refine d_g (fun _ => ?_) (fun _ => ?_) <;> (first | (exfalso; omega) | contradiction | skip))) | (show (_ ∨ Subs _ _) ∧ _; first | refine d_sub ?_ | refine d_cov ?_) | (show RetP _ _ _ _ _ _ _ _; first | refine r_1 ?_) | assumption | intro _)
    all_goals first | exact q_drop hK | (exfalso; omega)
  · have hok : fromOK prom first := Classical.byContradiction fun h => hc ⟨1, by decide, .inl ⟨h, rfl⟩⟩
    have h0 : (fromL prom first (ls.map SlR.c) []).1 = 0 := Classical.byContradiction fun h => hc ⟨_, h, .inr ⟨hok, rfl, h⟩⟩
    clear hc
    have hlen := fromL_len (prom := prom) (first := first) (ls.map SlR.c) []
    have hall := fromL_all (prom := prom) (first := first) (p := EnSz) (ls.map SlR.c) [] (fun x hx => by obtain ⟨s, hs, rfl⟩ := List.mem_map.1 hx; exact (hP s hs).2) (fun x hx => by cases hx)
    obtain ⟨L, hL⟩ : ∃ L, fromL prom first (ls.map SlR.c) [] = (0, L) := ⟨_, by rw [← h0]⟩
    rw [hL] at hlen hall
    simp only [List.length_nil, List.length_map, Nat.zero_add] at hlen hall
    have hfz : ∀ x ∈ fromS L 0, EnSz x.en := fun x hx => hall x (fromS_mem hx)
    have hl1 : (Ac.mk prom first L).L.length * 528 ≤ 140737488355328 := by show L.length * 528 ≤ _; omega
    have hfl : (fromS L 0).length * 528 ≤ 140737488355328 := by have := fromS_len L 0; omega
    refine calls_body (N := 66) (args := [.agg prom.cells.toArray, .int .i64 first, v]) Try.func6 rfl rfl rfl (by simp) ?_
    repeat' ((fail_if_success (show wpC _ (.seq (.region 3 _ _) _) _ _ _ _)); first | (show wpO _ _ _ _ _ _ _; first | refine wpO_nil ?_ | (show wpO _ _ _ (⟨_, .binOp _ _ _ _ _, _, _, _, _⟩ :: _) _ _ _; first | refine s_tt ?_ | refine s_ff ?_ | refine s_rdp ?_ | (refine s_cmp (fun _ => ?_) (fun _ => ?_) <;> (first | (exfalso; omega) | contradiction | skip)) | (refine s_cb (fun _ => ?_) (fun _ => ?_) <;> (first | (exfalso; omega) | contradiction | skip)) | refine s_sks ?_ | (refine s_g (fun _ => ?_) (fun _ => ?_) <;> (first | (exfalso; omega) | contradiction | skip))) | (show wpO _ _ _ (⟨_, .pick _ _ _, _, _, _, _⟩ :: _) _ _ _; first | refine s_rdp ?_ | (refine s_p (fun _ => ?_) (fun _ => ?_) <;> (first | (exfalso; omega) | contradiction | skip)) | refine s_sks ?_ | (refine s_g (fun _ => ?_) (fun _ => ?_) <;> (first | (exfalso; omega) | contradiction | skip))) | refine s_rdp ?_ | refine s_rdm ?_ | refine s_exq ?_ | refine s_exm ?_ | refine s_sks ?_ | refine s_skn ?_ | (refine s_g (fun _ => ?_) (fun _ => ?_) <;> (first | (exfalso; omega) | contradiction | skip))) | (show Ex _ _ _ _ _; first | (show Ex _ ⟨_, .call ⟨.value (.func _), _, _⟩, _, _, _, _⟩ _ _ _; refine e_call ?_; first | (apply p_pcs; apply from_AK _ hin hP hl hok hL; (try case hS => assumption); (case hpcs => (repeat (first | exact Pcs.blk (by infer_instance) | exact Pcs.nil | (apply Pcs.cons; infer_instance) | apply Pcs.app)))) | (apply p_pcs; apply from_RK _ hin hP hl hok hL; (try case hS => assumption); (case hpcs => (repeat (first | exact Pcs.blk (by infer_instance) | exact Pcs.nil | (apply Pcs.cons; infer_instance) | apply Pcs.app))))) | (show Ex _ ⟨_, .box _ _, _, _, _, _⟩ _ _ _; first | (refine e_boxA ?_; intro _) | (refine e_box1 ?_; intro _))) | (show wpC _ _ _ _ _ _; first | refine wpC_seq ?_ | refine wpC_region ?_ | refine c_true ?_ | refine c_false ?_ | (refine c_b (fun _ => ?_) (fun _ => ?_) <;> (first | (exfalso; omega) | contradiction | skip)) | refine wpC_ret ?_ | refine wpC_skip ?_ | refine wpC_label ?_ | (apply wpC_drawX (id := 5) ([]) [0, 1, 2, 3, 5, 6, 7, 8, 4, 9, 10, 11, 13, 14, 15, 16, 12, 17, 18, 19, 20, 22, 21, 23, 24, 25, 26, 27] rfl (by kernel_rfl); (case hpk => (repeat (first | exact Pcs.blk (by infer_instance) | exact Pcs.nil | (apply Pcs.cons; infer_instance) | apply Pcs.app))))) | (show Then _ _ _ _ _ _ _; first | refine then_normal ?_ | refine then_ret ?_) | (show wpD _ _ _ _ _ _ _ _; first | refine wpD_nil ?_ | refine d_rdp ?_ | refine d_rdm ?_ | refine d_sks ?_ | refine d_tt ?_ | refine d_ff ?_ | (refine d_cmp (fun _ => ?_) (fun _ => ?_) <;> (first | (exfalso; omega) | contradiction | skip)) | (refine d_cb (fun _ => ?_) (fun _ => ?_) <;> (first | (exfalso; omega) | contradiction | skip)) | refine d_exs ?_ | refine d_exn ?_ | (refine d_p (fun _ => ?_) (fun _ => ?_) <;> (first | (exfalso; omega) | contradiction | skip)) | (refine d_g (fun _ => ?_) (fun _ => ?_) <;> (first | (exfalso; omega) | contradiction | skip))) | (show (_ ∨ Subs _ _) ∧ _; first | refine d_sub ?_ | refine d_cov ?_) | (show RetP _ _ _ _ _ _ _ _; first | refine r_1 ?_) | assumption | intro _)
    rename_i bx d H hA d2 R hR
    obtain ⟨w, qs, Bs, Pl, rfl, hls, hS, hPl⟩ := id hR
    have heq := bal_eqV prom prom
    rw [decide_eq_true rfl] at heq
    repeat' (first | (show wpO _ _ _ _ _ _ _; first | refine wpO_nil ?_ | (show wpO _ _ _ (⟨_, .binOp _ _ _ _ _, _, _, _, _⟩ :: _) _ _ _; first | refine s_tt ?_ | refine s_ff ?_ | refine s_rdp ?_ | (refine s_cmp (fun _ => ?_) (fun _ => ?_) <;> (first | (exfalso; omega) | contradiction | skip)) | (refine s_cb (fun _ => ?_) (fun _ => ?_) <;> (first | (exfalso; omega) | contradiction | skip)) | refine s_sks ?_ | (refine s_g (fun _ => ?_) (fun _ => ?_) <;> (first | (exfalso; omega) | contradiction | skip))) | (show wpO _ _ _ (⟨_, .pick _ _ _, _, _, _, _⟩ :: _) _ _ _; first | refine s_rdp ?_ | (refine s_p (fun _ => ?_) (fun _ => ?_) <;> (first | (exfalso; omega) | contradiction | skip)) | refine s_sks ?_ | (refine s_g (fun _ => ?_) (fun _ => ?_) <;> (first | (exfalso; omega) | contradiction | skip))) | refine s_rdp ?_ | refine s_rdm ?_ | refine s_exq ?_ | refine s_exm ?_ | refine s_sks ?_ | refine s_skn ?_ | (refine s_g (fun _ => ?_) (fun _ => ?_) <;> (first | (exfalso; omega) | contradiction | skip))) | (show Ex _ _ _ _ _; first | (show Ex _ ⟨_, .call ⟨.value (.func _), _, _⟩, _, _, _, _⟩ _ _ _; refine e_call ?_; first | (apply p_pcs; apply live_spec _; (try case hS => assumption); (case hpcs => (repeat (first | exact Pcs.blk (by infer_instance) | exact Pcs.nil | (apply Pcs.cons; infer_instance) | apply Pcs.app)))) | (apply p_pcs; apply prom_A _ hA; (try case hS => assumption); (case hpcs => (repeat (first | exact Pcs.blk (by infer_instance) | exact Pcs.nil | (apply Pcs.cons; infer_instance) | apply Pcs.app)))) | (apply p_pcs; apply first_A _ hA; (try case hS => assumption); (case hpcs => (repeat (first | exact Pcs.blk (by infer_instance) | exact Pcs.nil | (apply Pcs.cons; infer_instance) | apply Pcs.app)))) | (apply p_pcs; apply all_A _ hA hl1; (try case hS => assumption); (case hpcs => (repeat (first | exact Pcs.blk (by infer_instance) | exact Pcs.nil | (apply Pcs.cons; infer_instance) | apply Pcs.app)))) | (apply p_pcs; apply rall_R _ hR hl1; (try case hS => assumption); (case hpcs => (repeat (first | exact Pcs.blk (by infer_instance) | exact Pcs.nil | (apply Pcs.cons; infer_instance) | apply Pcs.app)))) | (apply p_pcs; apply told_E _ (by assumption) hfz hfl (by assumption); (try case hS => assumption); (case hpcs => (repeat (first | exact Pcs.blk (by infer_instance) | exact Pcs.nil | (apply Pcs.cons; infer_instance) | apply Pcs.app))))) | (show Ex _ ⟨_, .box _ _, _, _, _, _⟩ _ _ _; first | (refine e_boxA ?_; intro _) | (refine e_box1 ?_; intro _))) | (show wpC _ _ _ _ _ _; first | refine wpC_seq ?_ | refine wpC_region ?_ | refine c_true ?_ | refine c_false ?_ | (refine c_b (fun _ => ?_) (fun _ => ?_) <;> (first | (exfalso; omega) | contradiction | skip)) | refine wpC_ret ?_ | refine wpC_skip ?_ | refine wpC_label ?_ | (apply wpC_drawK (id := 5) [64] [0, 1, 2, 3, 5, 6, 7, 8, 4, 9, 10, 11, 13, 14, 15, 16, 12, 17, 18, 19, 20, 22, 21, 23, 24, 25, 26, 27] rfl (by kernel_rfl); infer_instance)) | (show Then _ _ _ _ _ _ _; first | refine then_normal ?_ | refine then_ret ?_) | (show wpD _ _ _ _ _ _ _ _; first | refine wpD_nil ?_ | refine d_rdp ?_ | refine d_rdm ?_ | refine d_sks ?_ | refine d_tt ?_ | refine d_ff ?_ | (refine d_cmp (fun _ => ?_) (fun _ => ?_) <;> (first | (exfalso; omega) | contradiction | skip)) | (refine d_cb (fun _ => ?_) (fun _ => ?_) <;> (first | (exfalso; omega) | contradiction | skip)) | refine d_exs ?_ | refine d_exn ?_ | (refine d_p (fun _ => ?_) (fun _ => ?_) <;> (first | (exfalso; omega) | contradiction | skip)) | (refine d_g (fun _ => ?_) (fun _ => ?_) <;> (first | (exfalso; omega) | contradiction | skip))) | (show (_ ∨ Subs _ _) ∧ _; first | refine d_sub ?_ | refine d_cov ?_) | (show RetP _ _ _ _ _ _ _ _; first | refine r_1 ?_) | assumption | intro _)
    all_goals first | exact q_drop hK | skip
end Go.Vl
