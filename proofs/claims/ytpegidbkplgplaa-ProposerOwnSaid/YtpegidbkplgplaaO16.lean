/-
  Steps of the proof: GJ, GK.
-/
import Derived.Test.YtpegidbkplgplaaO15
namespace Go.Vl
open Go.Proofs Classical
/-- a list of accepted entries that can be read -/
structure LsIn (I : Hp) (ls : List SlR) (v : Value) : Prop where
  s : InSl I 59 (ls.map SlR.cells) v
  e : ∀ s ∈ ls, EnIn I s.en ∧ EnSz s.en.c
  n : ls.length ≤ 4611686018427387904
set_option maxHeartbeats 4000000 in
set_option maxRecDepth 100000 in
theorem EnSz.len {c : EnC} (h : EnSz c) : c.ops.length ≤ 9223372036854775806 := by have := h.o; omega
set_option maxHeartbeats 4000000 in
set_option maxRecDepth 100000 in
theorem wrong_1 {a : Ld} {l : List Sl} {i : Nat} {s : Sl} (hi : l[i]? = some s) (h : ¬ (a.fr ≤ s.slot ∧ s.slot ≤ 1099511627776 ∧ s.bal.lt a.b ∧ ∀ t ∈ l.take i, t.slot ≠ s.slot)) : a.wrong l = 1 := by
  unfold Ld.wrong
  rw [if_pos (fun g => h (g i s hi))]
set_option maxHeartbeats 4000000 in
set_option maxRecDepth 100000 in
theorem wrong_3 {a : Ld} {l : List Sl} (h1 : good1 a l) {s : Sl} (hs : s ∈ l) (h : 4096 < s.slot - a.fr) : a.wrong l = 3 := by
  unfold Ld.wrong
  rw [if_neg (fun g => g h1), if_pos (fun g => by have := g s hs; omega)]
set_option maxHeartbeats 4000000 in
set_option maxRecDepth 100000 in
theorem wrong_4 {a : Ld} {l : List Sl} (h1 : good1 a l) (h3 : good3 a l) {s : Sl} (hs : s ∈ l) (h : ¬ mayE s.en) : a.wrong l = 40 := by
  unfold Ld.wrong
  rw [if_neg (fun g => g h1), if_neg (fun g => g h3), if_pos (fun g => h (g s hs))]
set_option maxHeartbeats 4000000 in
set_option maxRecDepth 100000 in
theorem wrong_0 {a : Ld} {l : List Sl} (h1 : good1 a l) (h3 : good3 a l) (h4 : good4 l) : a.wrong l = 0 := by
  unfold Ld.wrong
  rw [if_neg (fun g => g h1), if_neg (fun g => g h3), if_neg (fun g => g h4)]
set_option maxHeartbeats 4000000 in
set_option maxRecDepth 100000 in
theorem wrong_1R {a : Ld} {ls : List SlR} {i : Nat} {s : SlR} (hi : ls[i]? = some s) (h : ¬ (a.fr ≤ s.slot ∧ s.slot ≤ 1099511627776 ∧ s.bal.lt a.b ∧ ∀ t ∈ (ls.map SlR.c).take i, t.slot ≠ s.slot)) : a.wrong (ls.map SlR.c) = 1 :=
  wrong_1 (s := s.c) (by rw [List.getElem?_map, hi]; rfl) h
structure WrS where
  k : Nat
  es : Array MapEntry
  clk : Nat
  sl : List (Int × Int)
attribute [local irreducible] eqW eqV wpC wpO wpD Ex Rd callsK RetP Drop valK
set_option maxHeartbeats 4000000 in
set_option maxRecDepth 100000 in
theorem pwrong (e : World) {a : Ld} {d : Nat} {r : LdR} {ls : List SlR} {v : Value} {I F : Hp} {K : Value → Hp → Prop} (hL : LsIn I ls v) (hb : 0 ≤ a.fr) (hK : K (.int .i64 (a.wrong (ls.map SlR.c))) ((r.hp a d ++ I) ++ F)) :
    callsK Try.prog e 34 #[pv d, v] ((r.hp a d ++ I) ++ F) K := by
  have hin := hL.s
  have hln := hL.n
  have hml : (ls.map SlR.cells).length = ls.length := List.length_map _
  refine calls_body (N := 78) (args := [pv d, v]) Try.func34 rfl rfl rfl (by simp) ?_
  repeat' ((fail_if_success (show wpC _ (.loop _) _ _ _ _)); first | (show wpO _ _ _ _ _ _ _; first | refine wpO_nil ?_ | (show wpO _ _ _ (⟨_, .binOp _ _ _ _ _, _, _, _, _⟩ :: _) _ _ _; first | refine s_tt ?_ | refine s_ff ?_ | refine s_rdp ?_ | (refine s_cmp (fun _ => ?_) (fun _ => ?_) <;> (first | (exfalso; omega) | contradiction | skip)) | (refine s_cb (fun _ => ?_) (fun _ => ?_) <;> (first | (exfalso; omega) | contradiction | skip)) | refine s_sks ?_ | (refine s_g (fun _ => ?_) (fun _ => ?_) <;> (first | (exfalso; omega) | contradiction | skip))) | (show wpO _ _ _ (⟨_, .lookup _ _ _ _, _, _, _, _⟩ :: _) _ _ _; first | refine s_rdm ?_ | refine s_look (fun _ _ => ?_) (fun _ => ?_) | refine s_sks ?_ | (refine s_g (fun _ => ?_) (fun _ => ?_) <;> (first | (exfalso; omega) | contradiction | skip))) | (show wpO _ _ _ (⟨_, .indexAddr _ _ _, _, _, _, _⟩ :: _) _ _ _; first | refine s_rdp ?_ | refine s_idx (fun _ _ _ _ _ _ _ => ?_) | refine s_sks ?_ | (refine s_g (fun _ => ?_) (fun _ => ?_) <;> (first | (exfalso; omega) | contradiction | skip))) | (show wpO _ _ _ (⟨_, .pick _ _ _, _, _, _, _⟩ :: _) _ _ _; first | refine s_rdp ?_ | (refine s_p (fun _ => ?_) (fun _ => ?_) <;> (first | (exfalso; omega) | contradiction | skip)) | refine s_sks ?_ | (refine s_g (fun _ => ?_) (fun _ => ?_) <;> (first | (exfalso; omega) | contradiction | skip))) | refine s_rdp ?_ | refine s_rdm ?_ | refine s_exq ?_ | refine s_exm ?_ | refine s_sks ?_ | refine s_skn ?_ | (refine s_g (fun _ => ?_) (fun _ => ?_) <;> (first | (exfalso; omega) | contradiction | skip))) | (show Ex _ _ _ _ _; first | (show Ex _ ⟨_, .alloc _, _, _, _, _⟩ _ _ _; first | (refine e_allocA ?_; intro _) | (refine e_alloc1 ?_; intro _)) | (refine ex_makeMap ?_; intro _) | (show Ex _ ⟨_, .store _ _ _, _, _, _, _⟩ _ _ _; first | refine e_store1 ?_ | refine e_storeA ?_ | (refine e_storeO ?_; intro _ _)) | (show Ex _ ⟨_, .mapUpdate _ _ _ _, _, _, _, _⟩ _ _ _; refine e_mapUpdate ?_; intro _ _ _)) | (show wpC _ _ _ _ _ _; first | refine wpC_seq ?_ | refine wpC_region ?_ | refine c_true ?_ | refine c_false ?_ | (refine c_b (fun _ => ?_) (fun _ => ?_) <;> (first | (exfalso; omega) | contradiction | skip)) | refine wpC_block ?_ | refine wpC_ret ?_ | refine wpC_skip ?_ | refine wpC_exit ?_ | refine wpC_label ?_ | (apply wpC_drawX (id := 5) ([]) [0, 1, 2, 3, 4, 5, 6, 7, 8, 9, 10, 11, 12, 13, 14, 15, 16, 17, 18, 19, 20, 21, 22, 23, 24, 25, 26, 27, 28] rfl (by kernel_rfl); (case hpk => (repeat (first | exact Pcs.blk (by infer_instance) | exact Pcs.nil | (apply Pcs.cons; infer_instance) | apply Pcs.app)))) | (apply wpC_drawX (id := 12) ([]) [0, 1, 2, 3, 4, 5, 6, 7] rfl (by kernel_rfl); (case hpk => (repeat (first | exact Pcs.blk (by infer_instance) | exact Pcs.nil | (apply Pcs.cons; infer_instance) | apply Pcs.app))))) | (show Then _ _ _ _ _ _ _; first | refine then_normal ?_ | refine then_ret ?_ | refine then_exit ?_) | (show InBlock _ _ _ _ _ _; first | refine inBlock_normal ?_ | refine inBlock_ret ?_ | refine inBlock_same ?_ | refine b_other ?_) | (show LoopPost _ _ _ _ _ _; first | refine loop_ret ?_ | refine loop_exit ?_) | (show wpD _ _ _ _ _ _ _ _; first | refine wpD_nil ?_ | refine d_rdp ?_ | refine d_rdm ?_ | refine d_sks ?_ | refine d_tt ?_ | refine d_ff ?_ | (refine d_cmp (fun _ => ?_) (fun _ => ?_) <;> (first | (exfalso; omega) | contradiction | skip)) | (refine d_cb (fun _ => ?_) (fun _ => ?_) <;> (first | (exfalso; omega) | contradiction | skip)) | refine d_look (fun _ _ => ?_) (fun _ => ?_) | refine d_idx (fun _ _ _ _ _ _ _ => ?_) | refine d_exs ?_ | refine d_exn ?_ | (refine d_p (fun _ => ?_) (fun _ => ?_) <;> (first | (exfalso; omega) | contradiction | skip)) | (refine d_g (fun _ => ?_) (fun _ => ?_) <;> (first | (exfalso; omega) | contradiction | skip))) | (show (_ ∨ Subs _ _) ∧ _; first | refine d_sub ?_ | refine d_cov ?_) | (show RetP _ _ _ _ _ _ _ _; first | refine r_1 ?_))
  rename_i bm
  refine wpC_loopA (κ := WrS) [4, 7, 15, 16, 17, 18, 19, 20, 21, 22, 23, 24, 25, 26, 27, 28, 29, 30, 31, 32, 33, 34, 35, 36, 37, 38, 39, 40, 41, 42, 43, 44, 45, 46, 47, 48, 49, 50, 51] (fun s => [(15, .int .i64 (s.k : Int))]) (fun s => [(bm, .map s.es s.clk)] ++ ((r.hp a d ++ I) ++ F))
    (fun s => s.k ≤ ls.length ∧ MapK (Value.int .i64) (Value.int .i64) s.es s.clk s.sl ∧ (∀ n, (∃ t ∈ (ls.map SlR.c).take s.k, t.slot = n) → aget s.sl n = some 1) ∧ (∀ n, ¬ (∃ t ∈ (ls.map SlR.c).take s.k, t.slot = n) → aget s.sl n = none) ∧
      ∀ i t, i < s.k → (ls.map SlR.c)[i]? = some t → a.fr ≤ t.slot ∧ t.slot ≤ 1099511627776 ∧ t.bal.lt a.b ∧ ∀ u ∈ (ls.map SlR.c).take i, u.slot ≠ t.slot) (fun s => ls.length - s.k) ⟨0, #[], 0, []⟩ ⟨Nat.zero_le _, MapK.nil _ _, fun n h => (by obtain ⟨t, ht, _⟩ := h; cases ht), fun n _ => rfl, fun i t h => absurd h (Nat.not_lt_zero _)⟩ ⟨rfl, trivial⟩ q_drp ?_
  rintro ⟨k, es, clk, sl⟩ ρx ⟨hk, hM, hy, hn, hg⟩
  simp only at hk hM hy hn hg ⊢
  cases hr : ls[k]? with
  | some s =>
    have hlt := (List.getElem?_eq_some_iff.1 hr).1
    have hrc : (ls.map SlR.c)[k]? = some s.c := by rw [List.getElem?_map, hr]; rfl
    have htk : (ls.map SlR.c).take (k + 1) = (ls.map SlR.c).take k ++ [s.c] := by rw [List.take_add_one, hrc]; rfl
    by_cases hd : ∃ t ∈ (ls.map SlR.c).take k, t.slot = s.slot
    · have hgt := hy s.slot hd
      repeat' (first | (show wpO _ _ _ _ _ _ _; first | refine wpO_nil ?_ | (show wpO _ _ _ (⟨_, .binOp _ _ _ _ _, _, _, _, _⟩ :: _) _ _ _; first | refine s_tt ?_ | refine s_ff ?_ | refine s_rdp ?_ | (refine s_cmp (fun _ => ?_) (fun _ => ?_) <;> (first | (exfalso; omega) | contradiction | skip)) | (refine s_cb (fun _ => ?_) (fun _ => ?_) <;> (first | (exfalso; omega) | contradiction | skip)) | refine s_sks ?_ | (refine s_g (fun _ => ?_) (fun _ => ?_) <;> (first | (exfalso; omega) | contradiction | skip))) | (show wpO _ _ _ (⟨_, .lookup _ _ _ _, _, _, _, _⟩ :: _) _ _ _; first | refine s_rdm ?_ | refine s_look (fun _ _ => ?_) (fun _ => ?_) | refine s_sks ?_ | (refine s_g (fun _ => ?_) (fun _ => ?_) <;> (first | (exfalso; omega) | contradiction | skip))) | (show wpO _ _ _ (⟨_, .indexAddr _ _ _, _, _, _, _⟩ :: _) _ _ _; first | refine s_rdp ?_ | refine s_idx (fun _ _ _ _ _ _ _ => ?_) | refine s_sks ?_ | (refine s_g (fun _ => ?_) (fun _ => ?_) <;> (first | (exfalso; omega) | contradiction | skip))) | (show wpO _ _ _ (⟨_, .pick _ _ _, _, _, _, _⟩ :: _) _ _ _; first | refine s_rdp ?_ | (refine s_p (fun _ => ?_) (fun _ => ?_) <;> (first | (exfalso; omega) | contradiction | skip)) | refine s_sks ?_ | (refine s_g (fun _ => ?_) (fun _ => ?_) <;> (first | (exfalso; omega) | contradiction | skip))) | refine s_rdp ?_ | refine s_rdm ?_ | refine s_exq ?_ | refine s_exm ?_ | refine s_sks ?_ | refine s_skn ?_ | (refine s_g (fun _ => ?_) (fun _ => ?_) <;> (first | (exfalso; omega) | contradiction | skip))) | (show Ex _ _ _ _ _; first | (show Ex _ ⟨_, .call ⟨.value (.func _), _, _⟩, _, _, _, _⟩ _ _ _; refine e_call ?_; first | (apply pless _ (a := s.bal) (b := a.b))) | (show Ex _ ⟨_, .alloc _, _, _, _, _⟩ _ _ _; first | (refine e_allocA ?_; intro _) | (refine e_alloc1 ?_; intro _)) | (refine ex_makeMap ?_; intro _) | (show Ex _ ⟨_, .store _ _ _, _, _, _, _⟩ _ _ _; first | refine e_store1 ?_ | refine e_storeA ?_ | (refine e_storeO ?_; intro _ _)) | (show Ex _ ⟨_, .mapUpdate _ _ _ _, _, _, _, _⟩ _ _ _; refine e_mapUpdate ?_; intro _ _ _)) | (show wpC _ _ _ _ _ _; first | refine wpC_seq ?_ | refine wpC_region ?_ | refine c_true ?_ | refine c_false ?_ | (refine c_b (fun _ => ?_) (fun _ => ?_) <;> (first | (exfalso; omega) | contradiction | skip)) | refine wpC_block ?_ | refine wpC_ret ?_ | refine wpC_skip ?_ | refine wpC_exit ?_ | refine wpC_label ?_ | (apply wpC_drawX (id := 5) ([]) [0, 1, 2, 3, 4, 5, 6, 7, 8, 9, 10, 11, 12, 13, 14, 15, 16, 17, 18, 19, 20, 21, 22, 23, 24, 25, 26, 27, 28] rfl (by kernel_rfl); (case hpk => (repeat (first | exact Pcs.blk (by infer_instance) | exact Pcs.nil | (apply Pcs.cons; infer_instance) | apply Pcs.app)))) | (apply wpC_drawX (id := 12) ([]) [0, 1, 2, 3, 4, 5, 6, 7] rfl (by kernel_rfl); (case hpk => (repeat (first | exact Pcs.blk (by infer_instance) | exact Pcs.nil | (apply Pcs.cons; infer_instance) | apply Pcs.app))))) | (show Then _ _ _ _ _ _ _; first | refine then_normal ?_ | refine then_ret ?_ | refine then_exit ?_) | (show InBlock _ _ _ _ _ _; first | refine inBlock_normal ?_ | refine inBlock_ret ?_ | refine inBlock_same ?_ | refine b_other ?_) | (show LoopPost _ _ _ _ _ _; first | refine loop_ret ?_ | refine loop_exit ?_) | (show wpD _ _ _ _ _ _ _ _; first | refine wpD_nil ?_ | refine d_rdp ?_ | refine d_rdm ?_ | refine d_sks ?_ | refine d_tt ?_ | refine d_ff ?_ | (refine d_cmp (fun _ => ?_) (fun _ => ?_) <;> (first | (exfalso; omega) | contradiction | skip)) | (refine d_cb (fun _ => ?_) (fun _ => ?_) <;> (first | (exfalso; omega) | contradiction | skip)) | refine d_look (fun _ _ => ?_) (fun _ => ?_) | refine d_idx (fun _ _ _ _ _ _ _ => ?_) | refine d_exs ?_ | refine d_exn ?_ | (refine d_p (fun _ => ?_) (fun _ => ?_) <;> (first | (exfalso; omega) | contradiction | skip)) | (refine d_g (fun _ => ?_) (fun _ => ?_) <;> (first | (exfalso; omega) | contradiction | skip))) | (show (_ ∨ Subs _ _) ∧ _; first | refine d_sub ?_ | refine d_cov ?_) | (show RetP _ _ _ _ _ _ _ _; first | refine r_1 ?_) | assumption | intro _)
      all_goals first
        | (exfalso; omega)
        | (rw [wrong_1R hr (fun h => by obtain ⟨a1, a2, a3, a4⟩ := h; first | omega | contradiction | (obtain ⟨t, ht, hs⟩ := hd; exact a4 t ht hs))] at hK; exact q_drop hK)
        | trace_state
    · have hgn := hn s.slot hd
      repeat' (first | (show wpO _ _ _ _ _ _ _; first | refine wpO_nil ?_ | (show wpO _ _ _ (⟨_, .binOp _ _ _ _ _, _, _, _, _⟩ :: _) _ _ _; first | refine s_tt ?_ | refine s_ff ?_ | refine s_rdp ?_ | (refine s_cmp (fun _ => ?_) (fun _ => ?_) <;> (first | (exfalso; omega) | contradiction | skip)) | (refine s_cb (fun _ => ?_) (fun _ => ?_) <;> (first | (exfalso; omega) | contradiction | skip)) | refine s_sks ?_ | (refine s_g (fun _ => ?_) (fun _ => ?_) <;> (first | (exfalso; omega) | contradiction | skip))) | (show wpO _ _ _ (⟨_, .lookup _ _ _ _, _, _, _, _⟩ :: _) _ _ _; first | refine s_rdm ?_ | refine s_look (fun _ _ => ?_) (fun _ => ?_) | refine s_sks ?_ | (refine s_g (fun _ => ?_) (fun _ => ?_) <;> (first | (exfalso; omega) | contradiction | skip))) | (show wpO _ _ _ (⟨_, .indexAddr _ _ _, _, _, _, _⟩ :: _) _ _ _; first | refine s_rdp ?_ | refine s_idx (fun _ _ _ _ _ _ _ => ?_) | refine s_sks ?_ | (refine s_g (fun _ => ?_) (fun _ => ?_) <;> (first | (exfalso; omega) | contradiction | skip))) | (show wpO _ _ _ (⟨_, .pick _ _ _, _, _, _, _⟩ :: _) _ _ _; first | refine s_rdp ?_ | (refine s_p (fun _ => ?_) (fun _ => ?_) <;> (first | (exfalso; omega) | contradiction | skip)) | refine s_sks ?_ | (refine s_g (fun _ => ?_) (fun _ => ?_) <;> (first | (exfalso; omega) | contradiction | skip))) | refine s_rdp ?_ | refine s_rdm ?_ | refine s_exq ?_ | refine s_exm ?_ | refine s_sks ?_ | refine s_skn ?_ | (refine s_g (fun _ => ?_) (fun _ => ?_) <;> (first | (exfalso; omega) | contradiction | skip))) | (show Ex _ _ _ _ _; first | (show Ex _ ⟨_, .call ⟨.value (.func _), _, _⟩, _, _, _, _⟩ _ _ _; refine e_call ?_; first | (apply pless _ (a := s.bal) (b := a.b))) | (show Ex _ ⟨_, .alloc _, _, _, _, _⟩ _ _ _; first | (refine e_allocA ?_; intro _) | (refine e_alloc1 ?_; intro _)) | (refine ex_makeMap ?_; intro _) | (show Ex _ ⟨_, .store _ _ _, _, _, _, _⟩ _ _ _; first | refine e_store1 ?_ | refine e_storeA ?_ | (refine e_storeO ?_; intro _ _)) | (show Ex _ ⟨_, .mapUpdate _ _ _ _, _, _, _, _⟩ _ _ _; refine e_mapUpdate ?_; intro _ _ _)) | (show wpC _ _ _ _ _ _; first | refine wpC_seq ?_ | refine wpC_region ?_ | refine c_true ?_ | refine c_false ?_ | (refine c_b (fun _ => ?_) (fun _ => ?_) <;> (first | (exfalso; omega) | contradiction | skip)) | refine wpC_block ?_ | refine wpC_ret ?_ | refine wpC_skip ?_ | refine wpC_exit ?_ | refine wpC_label ?_ | (apply wpC_drawX (id := 5) ([]) [0, 1, 2, 3, 4, 5, 6, 7, 8, 9, 10, 11, 12, 13, 14, 15, 16, 17, 18, 19, 20, 21, 22, 23, 24, 25, 26, 27, 28] rfl (by kernel_rfl); (case hpk => (repeat (first | exact Pcs.blk (by infer_instance) | exact Pcs.nil | (apply Pcs.cons; infer_instance) | apply Pcs.app)))) | (apply wpC_drawX (id := 12) ([]) [0, 1, 2, 3, 4, 5, 6, 7] rfl (by kernel_rfl); (case hpk => (repeat (first | exact Pcs.blk (by infer_instance) | exact Pcs.nil | (apply Pcs.cons; infer_instance) | apply Pcs.app))))) | (show Then _ _ _ _ _ _ _; first | refine then_normal ?_ | refine then_ret ?_ | refine then_exit ?_) | (show InBlock _ _ _ _ _ _; first | refine inBlock_normal ?_ | refine inBlock_ret ?_ | refine inBlock_same ?_ | refine b_other ?_) | (show LoopPost _ _ _ _ _ _; first | refine loop_ret ?_ | refine loop_exit ?_) | (show wpD _ _ _ _ _ _ _ _; first | refine wpD_nil ?_ | refine d_rdp ?_ | refine d_rdm ?_ | refine d_sks ?_ | refine d_tt ?_ | refine d_ff ?_ | (refine d_cmp (fun _ => ?_) (fun _ => ?_) <;> (first | (exfalso; omega) | contradiction | skip)) | (refine d_cb (fun _ => ?_) (fun _ => ?_) <;> (first | (exfalso; omega) | contradiction | skip)) | refine d_look (fun _ _ => ?_) (fun _ => ?_) | refine d_idx (fun _ _ _ _ _ _ _ => ?_) | refine d_exs ?_ | refine d_exn ?_ | (refine d_p (fun _ => ?_) (fun _ => ?_) <;> (first | (exfalso; omega) | contradiction | skip)) | (refine d_g (fun _ => ?_) (fun _ => ?_) <;> (first | (exfalso; omega) | contradiction | skip))) | (show (_ ∨ Subs _ _) ∧ _; first | refine d_sub ?_ | refine d_cov ?_) | (show RetP _ _ _ _ _ _ _ _; first | refine r_1 ?_) | assumption | intro _)
      all_goals first
        | (exfalso; omega)
        | (rw [wrong_1R hr (fun h => by obtain ⟨a1, a2, a3, a4⟩ := h; first | omega | contradiction)] at hK; exact q_drop hK)
        | skip
      rename_i g1 g2 g3 es' clk' hM'
      refine lp_end ⟨k + 1, es', clk', aput sl s.slot 1⟩ (by simp only; omega) ⟨hlt, hM', fun n h => ?_, fun n h => ?_, fun i t hi ht => ?_⟩
      · rw [aget_put]
        split
        · rfl
        · rename_i hne
          refine hy n ?_
          obtain ⟨t, ht, hs⟩ := h
          simp only at ht
          rw [htk] at ht
          rcases List.mem_append.1 ht with ht | ht
          · exact ⟨t, ht, hs⟩
          · rw [List.mem_singleton.1 ht] at hs; exact absurd hs hne
      · simp only at h
        rw [htk] at h
        rw [aget_put, if_neg (fun he => h ⟨s.c, by simp, he⟩)]
        exact hn n fun ⟨t, ht, hs⟩ => h ⟨t, List.mem_append_left _ ht, hs⟩
      · simp only at hi
        rcases (by omega : i < k ∨ i = k) with h | rfl
        · exact hg i t h ht
        · rw [hrc] at ht
          cases ht
          exact ⟨by show a.fr ≤ s.slot; omega, by show s.slot ≤ _; omega, g3, fun u hu he => hd ⟨u, hu, he⟩⟩
  | none =>
    have hge : ls.length ≤ k := List.getElem?_eq_none_iff.1 hr
    have hg1 : good1 a (ls.map SlR.c) := fun i t ht => hg i t (by have := (List.getElem?_eq_some_iff.1 ht).1; rw [List.length_map] at this; omega) ht
    clear hg hy hn hM
    repeat' ((fail_if_success (show wpC _ (.loop _) _ _ _ _)); first | (show wpO _ _ _ _ _ _ _; first | refine wpO_nil ?_ | (show wpO _ _ _ (⟨_, .binOp _ _ _ _ _, _, _, _, _⟩ :: _) _ _ _; first | refine s_tt ?_ | refine s_ff ?_ | refine s_rdp ?_ | (refine s_cmp (fun _ => ?_) (fun _ => ?_) <;> (first | (exfalso; omega) | contradiction | skip)) | (refine s_cb (fun _ => ?_) (fun _ => ?_) <;> (first | (exfalso; omega) | contradiction | skip)) | refine s_sks ?_ | (refine s_g (fun _ => ?_) (fun _ => ?_) <;> (first | (exfalso; omega) | contradiction | skip))) | (show wpO _ _ _ (⟨_, .lookup _ _ _ _, _, _, _, _⟩ :: _) _ _ _; first | refine s_rdm ?_ | refine s_look (fun _ _ => ?_) (fun _ => ?_) | refine s_sks ?_ | (refine s_g (fun _ => ?_) (fun _ => ?_) <;> (first | (exfalso; omega) | contradiction | skip))) | (show wpO _ _ _ (⟨_, .indexAddr _ _ _, _, _, _, _⟩ :: _) _ _ _; first | refine s_rdp ?_ | refine s_idx (fun _ _ _ _ _ _ _ => ?_) | refine s_sks ?_ | (refine s_g (fun _ => ?_) (fun _ => ?_) <;> (first | (exfalso; omega) | contradiction | skip))) | (show wpO _ _ _ (⟨_, .pick _ _ _, _, _, _, _⟩ :: _) _ _ _; first | refine s_rdp ?_ | (refine s_p (fun _ => ?_) (fun _ => ?_) <;> (first | (exfalso; omega) | contradiction | skip)) | refine s_sks ?_ | (refine s_g (fun _ => ?_) (fun _ => ?_) <;> (first | (exfalso; omega) | contradiction | skip))) | refine s_rdp ?_ | refine s_rdm ?_ | refine s_exq ?_ | refine s_exm ?_ | refine s_sks ?_ | refine s_skn ?_ | (refine s_g (fun _ => ?_) (fun _ => ?_) <;> (first | (exfalso; omega) | contradiction | skip))) | (show Ex _ _ _ _ _; first | (show Ex _ ⟨_, .alloc _, _, _, _, _⟩ _ _ _; first | (refine e_allocA ?_; intro _) | (refine e_alloc1 ?_; intro _)) | (refine ex_makeMap ?_; intro _) | (show Ex _ ⟨_, .store _ _ _, _, _, _, _⟩ _ _ _; first | refine e_store1 ?_ | refine e_storeA ?_ | (refine e_storeO ?_; intro _ _)) | (show Ex _ ⟨_, .mapUpdate _ _ _ _, _, _, _, _⟩ _ _ _; refine e_mapUpdate ?_; intro _ _ _)) | (show wpC _ _ _ _ _ _; first | refine wpC_seq ?_ | refine wpC_region ?_ | refine c_true ?_ | refine c_false ?_ | (refine c_b (fun _ => ?_) (fun _ => ?_) <;> (first | (exfalso; omega) | contradiction | skip)) | refine wpC_block ?_ | refine wpC_ret ?_ | refine wpC_skip ?_ | refine wpC_exit ?_ | refine wpC_label ?_ | (apply wpC_drawX (id := 5) ([]) [0, 1, 2, 3, 4, 5, 6, 7, 8, 9, 10, 11, 12, 13, 14, 15, 16, 17, 18, 19, 20, 21, 22, 23, 24, 25, 26, 27, 28] rfl (by kernel_rfl); (case hpk => (repeat (first | exact Pcs.blk (by infer_instance) | exact Pcs.nil | (apply Pcs.cons; infer_instance) | apply Pcs.app)))) | (apply wpC_drawX (id := 12) ([]) [0, 1, 2, 3, 4, 5, 6, 7] rfl (by kernel_rfl); (case hpk => (repeat (first | exact Pcs.blk (by infer_instance) | exact Pcs.nil | (apply Pcs.cons; infer_instance) | apply Pcs.app))))) | (show Then _ _ _ _ _ _ _; first | refine then_normal ?_ | refine then_ret ?_ | refine then_exit ?_) | (show InBlock _ _ _ _ _ _; first | refine inBlock_normal ?_ | refine inBlock_ret ?_ | refine inBlock_same ?_ | refine b_other ?_) | (show LoopPost _ _ _ _ _ _; first | refine loop_ret ?_ | refine loop_exit ?_) | (show wpD _ _ _ _ _ _ _ _; first | refine wpD_nil ?_ | refine d_rdp ?_ | refine d_rdm ?_ | refine d_sks ?_ | refine d_tt ?_ | refine d_ff ?_ | (refine d_cmp (fun _ => ?_) (fun _ => ?_) <;> (first | (exfalso; omega) | contradiction | skip)) | (refine d_cb (fun _ => ?_) (fun _ => ?_) <;> (first | (exfalso; omega) | contradiction | skip)) | refine d_look (fun _ _ => ?_) (fun _ => ?_) | refine d_idx (fun _ _ _ _ _ _ _ => ?_) | refine d_exs ?_ | refine d_exn ?_ | (refine d_p (fun _ => ?_) (fun _ => ?_) <;> (first | (exfalso; omega) | contradiction | skip)) | (refine d_g (fun _ => ?_) (fun _ => ?_) <;> (first | (exfalso; omega) | contradiction | skip))) | (show (_ ∨ Subs _ _) ∧ _; first | refine d_sub ?_ | refine d_cov ?_) | (show RetP _ _ _ _ _ _ _ _; first | refine r_1 ?_))
    all_goals first | (exfalso; omega) | skip
    refine wpC_loopA (κ := Nat) [4, 9, 54, 55, 56, 57, 58, 59, 60, 61, 62, 63, 64, 65, 66] (fun k => [(54, .int .i64 (k : Int))]) (fun _ => (r.hp a d ++ I) ++ F) (fun k => k ≤ ls.length ∧ ∀ s ∈ (ls.map SlR.c).take k, s.slot - a.fr ≤ 4096) (fun k => ls.length - k) 0 ⟨Nat.zero_le _, by simp⟩ ⟨rfl, trivial⟩ q_drp ?_
    clear hr hge hk
    rintro k ρy ⟨hk, h3⟩
    cases hr : ls[k]? with
    | some s =>
      have hlt := (List.getElem?_eq_some_iff.1 hr).1
      have hrc : (ls.map SlR.c)[k]? = some s.c := by rw [List.getElem?_map, hr]; rfl
      have htk : (ls.map SlR.c).take (k + 1) = (ls.map SlR.c).take k ++ [s.c] := by rw [List.take_add_one, hrc]; rfl
      have hgs := hg1 k s.c hrc
      have g1 : a.fr ≤ s.slot := hgs.1
      have g2 : s.slot ≤ 1099511627776 := hgs.2.1
      repeat' (first | (show wpO _ _ _ _ _ _ _; first | refine wpO_nil ?_ | (show wpO _ _ _ (⟨_, .binOp _ _ _ _ _, _, _, _, _⟩ :: _) _ _ _; first | refine s_tt ?_ | refine s_ff ?_ | refine s_rdp ?_ | (refine s_cmp (fun _ => ?_) (fun _ => ?_) <;> (first | (exfalso; omega) | contradiction | skip)) | (refine s_cb (fun _ => ?_) (fun _ => ?_) <;> (first | (exfalso; omega) | contradiction | skip)) | refine s_sks ?_ | (refine s_g (fun _ => ?_) (fun _ => ?_) <;> (first | (exfalso; omega) | contradiction | skip))) | (show wpO _ _ _ (⟨_, .lookup _ _ _ _, _, _, _, _⟩ :: _) _ _ _; first | refine s_rdm ?_ | refine s_look (fun _ _ => ?_) (fun _ => ?_) | refine s_sks ?_ | (refine s_g (fun _ => ?_) (fun _ => ?_) <;> (first | (exfalso; omega) | contradiction | skip))) | (show wpO _ _ _ (⟨_, .indexAddr _ _ _, _, _, _, _⟩ :: _) _ _ _; first | refine s_rdp ?_ | refine s_idx (fun _ _ _ _ _ _ _ => ?_) | refine s_sks ?_ | (refine s_g (fun _ => ?_) (fun _ => ?_) <;> (first | (exfalso; omega) | contradiction | skip))) | (show wpO _ _ _ (⟨_, .pick _ _ _, _, _, _, _⟩ :: _) _ _ _; first | refine s_rdp ?_ | (refine s_p (fun _ => ?_) (fun _ => ?_) <;> (first | (exfalso; omega) | contradiction | skip)) | refine s_sks ?_ | (refine s_g (fun _ => ?_) (fun _ => ?_) <;> (first | (exfalso; omega) | contradiction | skip))) | refine s_rdp ?_ | refine s_rdm ?_ | refine s_exq ?_ | refine s_exm ?_ | refine s_sks ?_ | refine s_skn ?_ | (refine s_g (fun _ => ?_) (fun _ => ?_) <;> (first | (exfalso; omega) | contradiction | skip))) | (show Ex _ _ _ _ _; first | (show Ex _ ⟨_, .alloc _, _, _, _, _⟩ _ _ _; first | (refine e_allocA ?_; intro _) | (refine e_alloc1 ?_; intro _)) | (refine ex_makeMap ?_; intro _) | (show Ex _ ⟨_, .store _ _ _, _, _, _, _⟩ _ _ _; first | refine e_store1 ?_ | refine e_storeA ?_ | (refine e_storeO ?_; intro _ _)) | (show Ex _ ⟨_, .mapUpdate _ _ _ _, _, _, _, _⟩ _ _ _; refine e_mapUpdate ?_; intro _ _ _)) | (show wpC _ _ _ _ _ _; first | refine wpC_seq ?_ | refine wpC_region ?_ | refine c_true ?_ | refine c_false ?_ | (refine c_b (fun _ => ?_) (fun _ => ?_) <;> (first | (exfalso; omega) | contradiction | skip)) | refine wpC_block ?_ | refine wpC_ret ?_ | refine wpC_skip ?_ | refine wpC_exit ?_ | refine wpC_label ?_ | (apply wpC_drawX (id := 5) ([]) [0, 1, 2, 3, 4, 5, 6, 7, 8, 9, 10, 11, 12, 13, 14, 15, 16, 17, 18, 19, 20, 21, 22, 23, 24, 25, 26, 27, 28] rfl (by kernel_rfl); (case hpk => (repeat (first | exact Pcs.blk (by infer_instance) | exact Pcs.nil | (apply Pcs.cons; infer_instance) | apply Pcs.app)))) | (apply wpC_drawX (id := 12) ([]) [0, 1, 2, 3, 4, 5, 6, 7] rfl (by kernel_rfl); (case hpk => (repeat (first | exact Pcs.blk (by infer_instance) | exact Pcs.nil | (apply Pcs.cons; infer_instance) | apply Pcs.app))))) | (show Then _ _ _ _ _ _ _; first | refine then_normal ?_ | refine then_ret ?_ | refine then_exit ?_) | (show InBlock _ _ _ _ _ _; first | refine inBlock_normal ?_ | refine inBlock_ret ?_ | refine inBlock_same ?_ | refine b_other ?_) | (show LoopPost _ _ _ _ _ _; first | refine loop_ret ?_ | refine loop_exit ?_) | (show wpD _ _ _ _ _ _ _ _; first | refine wpD_nil ?_ | refine d_rdp ?_ | refine d_rdm ?_ | refine d_sks ?_ | refine d_tt ?_ | refine d_ff ?_ | (refine d_cmp (fun _ => ?_) (fun _ => ?_) <;> (first | (exfalso; omega) | contradiction | skip)) | (refine d_cb (fun _ => ?_) (fun _ => ?_) <;> (first | (exfalso; omega) | contradiction | skip)) | refine d_look (fun _ _ => ?_) (fun _ => ?_) | refine d_idx (fun _ _ _ _ _ _ _ => ?_) | refine d_exs ?_ | refine d_exn ?_ | (refine d_p (fun _ => ?_) (fun _ => ?_) <;> (first | (exfalso; omega) | contradiction | skip)) | (refine d_g (fun _ => ?_) (fun _ => ?_) <;> (first | (exfalso; omega) | contradiction | skip))) | (show (_ ∨ Subs _ _) ∧ _; first | refine d_sub ?_ | refine d_cov ?_) | (show RetP _ _ _ _ _ _ _ _; first | refine r_1 ?_))
      all_goals first
        | (exfalso; omega)
        | (rw [wrong_3 hg1 (List.mem_of_getElem? hrc) (show 4096 < s.slot - a.fr by omega)] at hK; exact q_drop hK)
        | exact lp_end (k + 1) (by show ls.length - (k + 1) < ls.length - k; omega) ⟨hlt, by
            rw [htk]; intro t ht
            rcases List.mem_append.1 ht with ht | ht
            · exact h3 t ht
            · rw [List.mem_singleton.1 ht]; show s.slot - a.fr ≤ 4096; omega⟩
        | trace_state
    | none =>
      have hge : ls.length ≤ k := List.getElem?_eq_none_iff.1 hr
      have hg3 : good3 a (ls.map SlR.c) := by
        rw [List.take_of_length_le (by rw [List.length_map]; exact hge)] at h3
        exact h3
      clear h3
      repeat' ((fail_if_success (show wpC _ (.loop _) _ _ _ _)); first | (show wpO _ _ _ _ _ _ _; first | refine wpO_nil ?_ | (show wpO _ _ _ (⟨_, .binOp _ _ _ _ _, _, _, _, _⟩ :: _) _ _ _; first | refine s_tt ?_ | refine s_ff ?_ | refine s_rdp ?_ | (refine s_cmp (fun _ => ?_) (fun _ => ?_) <;> (first | (exfalso; omega) | contradiction | skip)) | (refine s_cb (fun _ => ?_) (fun _ => ?_) <;> (first | (exfalso; omega) | contradiction | skip)) | refine s_sks ?_ | (refine s_g (fun _ => ?_) (fun _ => ?_) <;> (first | (exfalso; omega) | contradiction | skip))) | (show wpO _ _ _ (⟨_, .lookup _ _ _ _, _, _, _, _⟩ :: _) _ _ _; first | refine s_rdm ?_ | refine s_look (fun _ _ => ?_) (fun _ => ?_) | refine s_sks ?_ | (refine s_g (fun _ => ?_) (fun _ => ?_) <;> (first | (exfalso; omega) | contradiction | skip))) | (show wpO _ _ _ (⟨_, .indexAddr _ _ _, _, _, _, _⟩ :: _) _ _ _; first | refine s_rdp ?_ | refine s_idx (fun _ _ _ _ _ _ _ => ?_) | refine s_sks ?_ | (refine s_g (fun _ => ?_) (fun _ => ?_) <;> (first | (exfalso; omega) | contradiction | skip))) | (show wpO _ _ _ (⟨_, .pick _ _ _, _, _, _, _⟩ :: _) _ _ _; first | refine s_rdp ?_ | (refine s_p (fun _ => ?_) (fun _ => ?_) <;> (first | (exfalso; omega) | contradiction | skip)) | refine s_sks ?_ | (refine s_g (fun _ => ?_) (fun _ => ?_) <;> (first | (exfalso; omega) | contradiction | skip))) | refine s_rdp ?_ | refine s_rdm ?_ | refine s_exq ?_ | refine s_exm ?_ | refine s_sks ?_ | refine s_skn ?_ | (refine s_g (fun _ => ?_) (fun _ => ?_) <;> (first | (exfalso; omega) | contradiction | skip))) | (show Ex _ _ _ _ _; first | (show Ex _ ⟨_, .alloc _, _, _, _, _⟩ _ _ _; first | (refine e_allocA ?_; intro _) | (refine e_alloc1 ?_; intro _)) | (refine ex_makeMap ?_; intro _) | (show Ex _ ⟨_, .store _ _ _, _, _, _, _⟩ _ _ _; first | refine e_store1 ?_ | refine e_storeA ?_ | (refine e_storeO ?_; intro _ _)) | (show Ex _ ⟨_, .mapUpdate _ _ _ _, _, _, _, _⟩ _ _ _; refine e_mapUpdate ?_; intro _ _ _)) | (show wpC _ _ _ _ _ _; first | refine wpC_seq ?_ | refine wpC_region ?_ | refine c_true ?_ | refine c_false ?_ | (refine c_b (fun _ => ?_) (fun _ => ?_) <;> (first | (exfalso; omega) | contradiction | skip)) | refine wpC_block ?_ | refine wpC_ret ?_ | refine wpC_skip ?_ | refine wpC_exit ?_ | refine wpC_label ?_ | (apply wpC_drawX (id := 5) ([]) [0, 1, 2, 3, 4, 5, 6, 7, 8, 9, 10, 11, 12, 13, 14, 15, 16, 17, 18, 19, 20, 21, 22, 23, 24, 25, 26, 27, 28] rfl (by kernel_rfl); (case hpk => (repeat (first | exact Pcs.blk (by infer_instance) | exact Pcs.nil | (apply Pcs.cons; infer_instance) | apply Pcs.app)))) | (apply wpC_drawX (id := 12) ([]) [0, 1, 2, 3, 4, 5, 6, 7] rfl (by kernel_rfl); (case hpk => (repeat (first | exact Pcs.blk (by infer_instance) | exact Pcs.nil | (apply Pcs.cons; infer_instance) | apply Pcs.app))))) | (show Then _ _ _ _ _ _ _; first | refine then_normal ?_ | refine then_ret ?_ | refine then_exit ?_) | (show InBlock _ _ _ _ _ _; first | refine inBlock_normal ?_ | refine inBlock_ret ?_ | refine inBlock_same ?_ | refine b_other ?_) | (show LoopPost _ _ _ _ _ _; first | refine loop_ret ?_ | refine loop_exit ?_) | (show wpD _ _ _ _ _ _ _ _; first | refine wpD_nil ?_ | refine d_rdp ?_ | refine d_rdm ?_ | refine d_sks ?_ | refine d_tt ?_ | refine d_ff ?_ | (refine d_cmp (fun _ => ?_) (fun _ => ?_) <;> (first | (exfalso; omega) | contradiction | skip)) | (refine d_cb (fun _ => ?_) (fun _ => ?_) <;> (first | (exfalso; omega) | contradiction | skip)) | refine d_look (fun _ _ => ?_) (fun _ => ?_) | refine d_idx (fun _ _ _ _ _ _ _ => ?_) | refine d_exs ?_ | refine d_exn ?_ | (refine d_p (fun _ => ?_) (fun _ => ?_) <;> (first | (exfalso; omega) | contradiction | skip)) | (refine d_g (fun _ => ?_) (fun _ => ?_) <;> (first | (exfalso; omega) | contradiction | skip))) | (show (_ ∨ Subs _ _) ∧ _; first | refine d_sub ?_ | refine d_cov ?_) | (show RetP _ _ _ _ _ _ _ _; first | refine r_1 ?_))
      all_goals first | (exfalso; omega) | skip
      refine wpC_loopA (κ := Nat) [4, 11, 69, 70, 71, 72, 73, 74, 75, 76, 77] (fun k => [(69, .int .i64 (k : Int))]) (fun _ => (r.hp a d ++ I) ++ F) (fun k => k ≤ ls.length ∧ ∀ s ∈ (ls.map SlR.c).take k, mayE s.en) (fun k => ls.length - k) 0 ⟨Nat.zero_le _, by simp⟩ ⟨rfl, trivial⟩ q_drp ?_
      clear hr hge hk
      rintro k ρz ⟨hk, h4⟩
      cases hr : ls[k]? with
      | some s =>
        have hlt := (List.getElem?_eq_some_iff.1 hr).1
        have hrc : (ls.map SlR.c)[k]? = some s.c := by rw [List.getElem?_map, hr]; rfl
        have htk : (ls.map SlR.c).take (k + 1) = (ls.map SlR.c).take k ++ [s.c] := by rw [List.take_add_one, hrc]; rfl
        obtain ⟨hei, hes⟩ := hL.e s (List.mem_of_getElem? hr)
        have hel := hes.len
        repeat' (first | (show wpO _ _ _ _ _ _ _; first | refine wpO_nil ?_ | (show wpO _ _ _ (⟨_, .binOp _ _ _ _ _, _, _, _, _⟩ :: _) _ _ _; first | refine s_tt ?_ | refine s_ff ?_ | refine s_rdp ?_ | (refine s_cmp (fun _ => ?_) (fun _ => ?_) <;> (first | (exfalso; omega) | contradiction | skip)) | (refine s_cb (fun _ => ?_) (fun _ => ?_) <;> (first | (exfalso; omega) | contradiction | skip)) | refine s_sks ?_ | (refine s_g (fun _ => ?_) (fun _ => ?_) <;> (first | (exfalso; omega) | contradiction | skip))) | (show wpO _ _ _ (⟨_, .lookup _ _ _ _, _, _, _, _⟩ :: _) _ _ _; first | refine s_rdm ?_ | refine s_look (fun _ _ => ?_) (fun _ => ?_) | refine s_sks ?_ | (refine s_g (fun _ => ?_) (fun _ => ?_) <;> (first | (exfalso; omega) | contradiction | skip))) | (show wpO _ _ _ (⟨_, .indexAddr _ _ _, _, _, _, _⟩ :: _) _ _ _; first | refine s_rdp ?_ | refine s_idx (fun _ _ _ _ _ _ _ => ?_) | refine s_sks ?_ | (refine s_g (fun _ => ?_) (fun _ => ?_) <;> (first | (exfalso; omega) | contradiction | skip))) | (show wpO _ _ _ (⟨_, .pick _ _ _, _, _, _, _⟩ :: _) _ _ _; first | refine s_rdp ?_ | (refine s_p (fun _ => ?_) (fun _ => ?_) <;> (first | (exfalso; omega) | contradiction | skip)) | refine s_sks ?_ | (refine s_g (fun _ => ?_) (fun _ => ?_) <;> (first | (exfalso; omega) | contradiction | skip))) | refine s_rdp ?_ | refine s_rdm ?_ | refine s_exq ?_ | refine s_exm ?_ | refine s_sks ?_ | refine s_skn ?_ | (refine s_g (fun _ => ?_) (fun _ => ?_) <;> (first | (exfalso; omega) | contradiction | skip))) | (show Ex _ _ _ _ _; first | (show Ex _ ⟨_, .call ⟨.value (.func _), _, _⟩, _, _, _, _⟩ _ _ _; refine e_call ?_; first | (apply p_pcs; apply pcheck _ (x := s.en) hei hel; (try case hS => assumption); (case hpcs => (repeat (first | exact Pcs.blk (by infer_instance) | exact Pcs.nil | (apply Pcs.cons; infer_instance) | apply Pcs.app))))) | (show Ex _ ⟨_, .alloc _, _, _, _, _⟩ _ _ _; first | (refine e_allocA ?_; intro _) | (refine e_alloc1 ?_; intro _)) | (refine ex_makeMap ?_; intro _) | (show Ex _ ⟨_, .store _ _ _, _, _, _, _⟩ _ _ _; first | refine e_store1 ?_ | refine e_storeA ?_ | (refine e_storeO ?_; intro _ _)) | (show Ex _ ⟨_, .mapUpdate _ _ _ _, _, _, _, _⟩ _ _ _; refine e_mapUpdate ?_; intro _ _ _)) | (show wpC _ _ _ _ _ _; first | refine wpC_seq ?_ | refine wpC_region ?_ | refine c_true ?_ | refine c_false ?_ | (refine c_b (fun _ => ?_) (fun _ => ?_) <;> (first | (exfalso; omega) | contradiction | skip)) | refine wpC_block ?_ | refine wpC_ret ?_ | refine wpC_skip ?_ | refine wpC_exit ?_ | refine wpC_label ?_ | (apply wpC_drawX (id := 5) ([]) [0, 1, 2, 3, 4, 5, 6, 7, 8, 9, 10, 11, 12, 13, 14, 15, 16, 17, 18, 19, 20, 21, 22, 23, 24, 25, 26, 27, 28] rfl (by kernel_rfl); (case hpk => (repeat (first | exact Pcs.blk (by infer_instance) | exact Pcs.nil | (apply Pcs.cons; infer_instance) | apply Pcs.app)))) | (apply wpC_drawX (id := 12) ([]) [0, 1, 2, 3, 4, 5, 6, 7] rfl (by kernel_rfl); (case hpk => (repeat (first | exact Pcs.blk (by infer_instance) | exact Pcs.nil | (apply Pcs.cons; infer_instance) | apply Pcs.app))))) | (show Then _ _ _ _ _ _ _; first | refine then_normal ?_ | refine then_ret ?_ | refine then_exit ?_) | (show InBlock _ _ _ _ _ _; first | refine inBlock_normal ?_ | refine inBlock_ret ?_ | refine inBlock_same ?_ | refine b_other ?_) | (show LoopPost _ _ _ _ _ _; first | refine loop_ret ?_ | refine loop_exit ?_) | (show wpD _ _ _ _ _ _ _ _; first | refine wpD_nil ?_ | refine d_rdp ?_ | refine d_rdm ?_ | refine d_sks ?_ | refine d_tt ?_ | refine d_ff ?_ | (refine d_cmp (fun _ => ?_) (fun _ => ?_) <;> (first | (exfalso; omega) | contradiction | skip)) | (refine d_cb (fun _ => ?_) (fun _ => ?_) <;> (first | (exfalso; omega) | contradiction | skip)) | refine d_look (fun _ _ => ?_) (fun _ => ?_) | refine d_idx (fun _ _ _ _ _ _ _ => ?_) | refine d_exs ?_ | refine d_exn ?_ | (refine d_p (fun _ => ?_) (fun _ => ?_) <;> (first | (exfalso; omega) | contradiction | skip)) | (refine d_g (fun _ => ?_) (fun _ => ?_) <;> (first | (exfalso; omega) | contradiction | skip))) | (show (_ ∨ Subs _ _) ∧ _; first | refine d_sub ?_ | refine d_cov ?_) | (show RetP _ _ _ _ _ _ _ _; first | refine r_1 ?_) | assumption | intro _)
        all_goals first
          | (exfalso; omega)
          | (rw [wrong_4 hg1 hg3 (List.mem_of_getElem? hrc) (show ¬ mayE s.en.c by assumption)] at hK; exact q_drop hK)
          | exact lp_end (k + 1) (by show ls.length - (k + 1) < ls.length - k; omega) ⟨hlt, by
              rw [htk]; intro t ht
              rcases List.mem_append.1 ht with ht | ht
              · exact h4 t ht
              · rw [List.mem_singleton.1 ht]; show mayE s.en.c; assumption⟩
          | trace_state
      | none =>
        have hge : ls.length ≤ k := List.getElem?_eq_none_iff.1 hr
        have hg4 : good4 (ls.map SlR.c) := by
          rw [List.take_of_length_le (by rw [List.length_map]; exact hge)] at h4
          exact h4
        rw [wrong_0 hg1 hg3 hg4] at hK
        repeat' (first | (show wpO _ _ _ _ _ _ _; first | refine wpO_nil ?_ | (show wpO _ _ _ (⟨_, .binOp _ _ _ _ _, _, _, _, _⟩ :: _) _ _ _; first | refine s_tt ?_ | refine s_ff ?_ | refine s_rdp ?_ | (refine s_cmp (fun _ => ?_) (fun _ => ?_) <;> (first | (exfalso; omega) | contradiction | skip)) | (refine s_cb (fun _ => ?_) (fun _ => ?_) <;> (first | (exfalso; omega) | contradiction | skip)) | refine s_sks ?_ | (refine s_g (fun _ => ?_) (fun _ => ?_) <;> (first | (exfalso; omega) | contradiction | skip))) | (show wpO _ _ _ (⟨_, .lookup _ _ _ _, _, _, _, _⟩ :: _) _ _ _; first | refine s_rdm ?_ | refine s_look (fun _ _ => ?_) (fun _ => ?_) | refine s_sks ?_ | (refine s_g (fun _ => ?_) (fun _ => ?_) <;> (first | (exfalso; omega) | contradiction | skip))) | (show wpO _ _ _ (⟨_, .indexAddr _ _ _, _, _, _, _⟩ :: _) _ _ _; first | refine s_rdp ?_ | refine s_idx (fun _ _ _ _ _ _ _ => ?_) | refine s_sks ?_ | (refine s_g (fun _ => ?_) (fun _ => ?_) <;> (first | (exfalso; omega) | contradiction | skip))) | (show wpO _ _ _ (⟨_, .pick _ _ _, _, _, _, _⟩ :: _) _ _ _; first | refine s_rdp ?_ | (refine s_p (fun _ => ?_) (fun _ => ?_) <;> (first | (exfalso; omega) | contradiction | skip)) | refine s_sks ?_ | (refine s_g (fun _ => ?_) (fun _ => ?_) <;> (first | (exfalso; omega) | contradiction | skip))) | refine s_rdp ?_ | refine s_rdm ?_ | refine s_exq ?_ | refine s_exm ?_ | refine s_sks ?_ | refine s_skn ?_ | (refine s_g (fun _ => ?_) (fun _ => ?_) <;> (first | (exfalso; omega) | contradiction | skip))) | (show Ex _ _ _ _ _; first | (show Ex _ ⟨_, .alloc _, _, _, _, _⟩ _ _ _; first | (refine e_allocA ?_; intro _) | (refine e_alloc1 ?_; intro _)) | (refine ex_makeMap ?_; intro _) | (show Ex _ ⟨_, .store _ _ _, _, _, _, _⟩ _ _ _; first | refine e_store1 ?_ | refine e_storeA ?_ | (refine e_storeO ?_; intro _ _)) | (show Ex _ ⟨_, .mapUpdate _ _ _ _, _, _, _, _⟩ _ _ _; refine e_mapUpdate ?_; intro _ _ _)) | (show wpC _ _ _ _ _ _; first | refine wpC_seq ?_ | refine wpC_region ?_ | refine c_true ?_ | refine c_false ?_ | (refine c_b (fun _ => ?_) (fun _ => ?_) <;> (first | (exfalso; omega) | contradiction | skip)) | refine wpC_block ?_ | refine wpC_ret ?_ | refine wpC_skip ?_ | refine wpC_exit ?_ | refine wpC_label ?_ | (apply wpC_drawX (id := 5) ([]) [0, 1, 2, 3, 4, 5, 6, 7, 8, 9, 10, 11, 12, 13, 14, 15, 16, 17, 18, 19, 20, 21, 22, 23, 24, 25, 26, 27, 28] rfl (by kernel_rfl); (case hpk => (repeat (first | exact Pcs.blk (by infer_instance) | exact Pcs.nil | (apply Pcs.cons; infer_instance) | apply Pcs.app)))) | (apply wpC_drawX (id := 12) ([]) [0, 1, 2, 3, 4, 5, 6, 7] rfl (by kernel_rfl); (case hpk => (repeat (first | exact Pcs.blk (by infer_instance) | exact Pcs.nil | (apply Pcs.cons; infer_instance) | apply Pcs.app))))) | (show Then _ _ _ _ _ _ _; first | refine then_normal ?_ | refine then_ret ?_ | refine then_exit ?_) | (show InBlock _ _ _ _ _ _; first | refine inBlock_normal ?_ | refine inBlock_ret ?_ | refine inBlock_same ?_ | refine b_other ?_) | (show LoopPost _ _ _ _ _ _; first | refine loop_ret ?_ | refine loop_exit ?_) | (show wpD _ _ _ _ _ _ _ _; first | refine wpD_nil ?_ | refine d_rdp ?_ | refine d_rdm ?_ | refine d_sks ?_ | refine d_tt ?_ | refine d_ff ?_ | (refine d_cmp (fun _ => ?_) (fun _ => ?_) <;> (first | (exfalso; omega) | contradiction | skip)) | (refine d_cb (fun _ => ?_) (fun _ => ?_) <;> (first | (exfalso; omega) | contradiction | skip)) | refine d_look (fun _ _ => ?_) (fun _ => ?_) | refine d_idx (fun _ _ _ _ _ _ _ => ?_) | refine d_exs ?_ | refine d_exn ?_ | (refine d_p (fun _ => ?_) (fun _ => ?_) <;> (first | (exfalso; omega) | contradiction | skip)) | (refine d_g (fun _ => ?_) (fun _ => ?_) <;> (first | (exfalso; omega) | contradiction | skip))) | (show (_ ∨ Subs _ _) ∧ _; first | refine d_sub ?_ | refine d_cov ?_) | (show RetP _ _ _ _ _ _ _ _; first | refine r_1 ?_))
        all_goals first | (exfalso; omega) | exact q_drop hK | trace_state
end Go.Vl

namespace Go.Vl
open Go.Proofs Classical
set_option maxHeartbeats 4000000 in
set_option maxRecDepth 100000 in
theorem aget_lb {lb : List (Int × SlR)} {s : Int} : aget (lb.map fun p => (p.1, p.2.c)) s = (aget lb s).map SlR.c := by
  rw [← aget_map (fun _ v => SlR.c v) lb s]
structure BgI where
  done : List (Int × SlR)
  last : Option (Int × SlR)
  left : List (Int × SlR)
  o : Obj
  m : Int
structure BgS where
  k : Nat
  ses : Array MapEntry
  sclk : Nat
  lo : List Opn
abbrev cOf (lb : List (Int × SlR)) : List (Int × Sl) := lb.map fun p => (p.1, p.2.c)
set_option maxHeartbeats 4000000 in
set_option maxRecDepth 100000 in
theorem isLast_add {fr m : Int} {done : List (Int × SlR)} {p : Int × SlR} (h : IsLast fr (cOf done) m) : IsLast fr (cOf (done ++ [p])) (max m p.1) := by
  have := isLast_fold (cOf [p]) (cOf done) m h
  rw [show cOf done ++ cOf [p] = cOf (done ++ [p]) from (List.map_append ..).symm] at this
  exact this
set_option maxHeartbeats 4000000 in
set_option maxRecDepth 100000 in
theorem cOf_perm {a b : List (Int × SlR)} (h : a.Perm b) : (cOf a).Perm (cOf b) := h.map _
structure FillOK (a : Ld) (M : Hp) (s : BgS) : Prop where
  map : MapK (Value.int .i64) pv s.ses s.sclk (s.lo.map fun x => (x.slot, x.o))
  L : s.lo.map Opn.c = fillS a.came a.fr s.k
  ch : ∀ x ∈ s.lo, x.ch = false ∧ x.v = noV
  li : ∀ x ∈ s.lo, EnIn M x.en ∧ EnSz x.en.c
  lt : ∀ x ∈ s.lo, x.slot < a.fr + (s.k : Int)
set_option maxHeartbeats 4000000 in
set_option maxRecDepth 100000 in
theorem cnt_noV : cnt5 noV = 0 := rfl
set_option maxHeartbeats 4000000 in
set_option maxRecDepth 100000 in
theorem fillS_slot {came : List (Int × Sl)} {nx : Int} : ∀ {k : Nat} {x : Ol}, x ∈ fillS came nx k → nx ≤ x.slot ∧ x.slot < nx + (k : Int)
  | 0, x, h => by cases h
  | k + 1, x, h => by
    rcases List.mem_append.1 h with h | h
    · have := fillS_slot h; omega
    · rw [List.mem_singleton.1 h]; simp only; omega
set_option maxHeartbeats 4000000 in
set_option maxRecDepth 100000 in
theorem fillS_srt {came : List (Int × Sl)} {nx : Int} : ∀ {k : Nat}, (fillS came nx k).Pairwise fun x y => x.slot < y.slot
  | 0 => .nil
  | k + 1 => by
    refine List.pairwise_append.2 ⟨fillS_srt, List.pairwise_singleton _ _, fun x hx y hy => ?_⟩
    rw [List.mem_singleton.1 hy]
    exact (fillS_slot hx).2
set_option maxHeartbeats 4000000 in
set_option maxRecDepth 100000 in
theorem FillOK.step {a : Ld} {M : Hp} {s : BgS} (h : FillOK a M s) {en : EnR} {o : Nat} {es : Array MapEntry} {clk : Nat} (he : en.c = entOf a.came (a.fr + (s.k : Int))) (hi : EnIn M en) (hz : EnSz en.c)
    (hM : MapK (Value.int .i64) pv es clk (aput (s.lo.map fun x => (x.slot, x.o)) (a.fr + (s.k : Int)) o)) : FillOK a M ⟨s.k + 1, es, clk, s.lo ++ [⟨a.fr + (s.k : Int), o, en, noV, false⟩]⟩ := by
  have hn : aget (s.lo.map fun x => (x.slot, x.o)) (a.fr + (s.k : Int)) = none := by
    rw [aget_none]
    intro p hp
    obtain ⟨x, hx, rfl⟩ := List.mem_map.1 hp
    have := h.lt x hx
    simp only; omega
  rw [aput_new hn] at hM
  refine ⟨by simpa using hM, ?_, ?_, ?_, ?_⟩
  · rw [List.map_append, h.L]
    show _ = fillS a.came a.fr s.k ++ _
    rw [← he]
    rfl
  · intro x hx
    rcases List.mem_append.1 hx with hx | hx
    · exact h.ch x hx
    · rw [List.mem_singleton.1 hx]; exact ⟨rfl, rfl⟩
  · intro x hx
    rcases List.mem_append.1 hx with hx | hx
    · exact h.li x hx
    · rw [List.mem_singleton.1 hx]; exact ⟨hi, hz⟩
  · intro x hx
    rcases List.mem_append.1 hx with hx | hx
    · have := h.lt x hx; simp only; omega
    · rw [List.mem_singleton.1 hx]; simp only; omega
set_option maxHeartbeats 4000000 in
set_option maxRecDepth 100000 in
theorem begin_ok {a : Ld} {r : LdR} {s : BgS} (hr : r.ok a) (hi : a.L = []) (hnx : a.next = a.fr) (h : FillOK a r.M s) (hk : s.k = a.more) : LdR.ok ⟨r.m1, r.m2, r.bes, r.bclk, s.ses, s.sclk, r.lb, s.lo, r.M⟩ (beginA a) := by
  have hl := isLast_lastS a.fr a.came
  have hm : (a.more : Int) ≤ 4097 ∧ a.fr + (a.more : Int) ≤ 1099511627777 := by
    unfold Ld.more
    have f1 := hr.a.f1
    rcases hl.at_ with g | ⟨p, hp, g⟩
    · omega
    · have := hr.a.key p hp; omega
  refine ⟨hr.best, h.map, hr.came, ?_, ?_, hr.bi, h.li, ?_⟩
  · show s.lo.map Opn.c = a.L ++ fillS a.came a.next a.more
    rw [hi, hnx, ← hk, h.L]; rfl
  · intro x hx
    obtain ⟨h1, h2⟩ := h.ch x hx
    rw [h1, h2, cnt_noV]
    unfold maj
    simp
  · have ha := hr.a
    refine ⟨ha.n1, ha.n5, ha.f0, ha.f1, ?_, ?_, ha.key, ha.nod, ?_, ?_, fun h => (by cases h)⟩
    · show a.fr ≤ a.next + (a.more : Int); omega
    · show a.next + (a.more : Int) ≤ _; omega
    · show (a.L ++ fillS a.came a.next a.more).Pairwise _
      rw [hi]; exact fillS_srt
    · intro x hx
      have hx : x ∈ a.L ++ fillS a.came a.next a.more := hx
      rw [hi, List.nil_append] at hx
      have := fillS_slot hx
      show a.fr ≤ x.slot ∧ x.slot < a.next + (a.more : Int)
      omega
set_option maxHeartbeats 4000000 in
set_option maxRecDepth 100000 in
theorem slV_en (s : SlR) : s.cells.toArray.extract 3 (3 + 56) = s.en.cells.toArray := by
  rw [List.extract_toArray]
  rfl
set_option maxHeartbeats 4000000 in
set_option maxRecDepth 100000 in
theorem fld51 : fld Try.prog 51 2 = some (3, some 56) := by decide +kernel
section
variable {e : World} {ρ : Fr} {H : Hp} {d : Option Nat} {ty : TypeId} {pos : String} {af : Array Edge} {g : Option (Nat × Bool)}
set_option maxHeartbeats 4000000 in
set_option maxRecDepth 100000 in
theorem rd_fieldEn {x : Operand} (s : SlR) (hx : ev ρ x = slV s) : Rd Try.prog e ρ H ⟨d, .field 51 x 2, ty, pos, af, g⟩ (.agg s.en.cells.toArray) := by
  rw [← slV_en]
  exact rd_fieldN hx fld51
end
abbrev zeroSR : SlR := ⟨0, ⟨0, 0⟩, zeroE, [], []⟩
end Go.Vl
