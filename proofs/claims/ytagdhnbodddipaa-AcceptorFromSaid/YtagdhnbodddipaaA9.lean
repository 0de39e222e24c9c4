/-
  The document's acceptor: its methods.
-/
import Derived.Test.YtagdhnbodddipaaA8
namespace Go.Vl
open Go.Proofs
attribute [local irreducible] wpC wpO wpD Ex Rd callsK RetP Drop valK
set_option maxHeartbeats 4000000 in
set_option maxRecDepth 100000 in
theorem rslot_E (e : World) {n : Int} {c : Bool} {F : Hp} {K : Value → Hp → Prop} (h : decide (slotOK n) = c) (hK : K (.bool c) F) : callsK Try.prog e 36 #[.int .i64 n] F K := rslot_spec e (by rw [h]; exact hK)
set_option maxHeartbeats 4000000 in
set_option maxRecDepth 100000 in
theorem rcheck_E (e : World) {b : Bal} {c : Bool} {F : Hp} {K : Value → Hp → Prop} (h : decide b.ok = c) (hK : K (.bool c) F) : callsK Try.prog e 18 #[.agg b.cells.toArray] F K := rcheck_spec e (by rw [h]; exact hK)
set_option maxHeartbeats 4000000 in
set_option maxRecDepth 100000 in
theorem rcompare_E (e : World) {a b : Bal} {c : Int} {F : Hp} {K : Value → Hp → Prop} (h : balCmp a b = c) (hK : K (.int .i64 c) F) : callsK Try.prog e 16 #[.agg a.cells.toArray, .agg b.cells.toArray] F K := rcompare_spec e (by rw [h]; exact hK)
set_option maxHeartbeats 4000000 in
set_option maxRecDepth 100000 in
theorem rat_R (e : World) {d : Nat} {a : Ac} {n : Int} {H F : Hp} {K : Value → Hp → Prop} (hA : RfO a d H) (hl : a.L.length * 528 ≤ 140737488355328)
    (h1 : ∀ s : SlR, s.c ∈ a.L → s.slot = n → EnIn H s.en → K (.tuple #[slV s, .bool true]) (H ++ F)) (h0 : (∀ x ∈ a.L, x.slot ≠ n) → K (.tuple #[slV ⟨0, ⟨0, 0⟩, zeroE, [], []⟩, .bool false]) (H ++ F)) :
    callsK Try.prog e 70 #[pv d, .int .i64 n] (H ++ F) K := by
  obtain ⟨v, ls, Bs, Pl, rfl, hls, hS, hP⟩ := hA
  have hin := slsIn hS
  have hll : ls.length = a.L.length := by rw [← hls, List.length_map]
  refine calls_body (N := 34) (args := [pv d, .int .i64 n]) Try.func70 rfl rfl rfl (by simp) ?_
  repeat' ((fail_if_success (show wpC _ (.loop _) _ _ _ _)); first | (show wpO _ _ _ _ _ _ _; first | refine wpO_nil ?_ | (show wpO _ _ _ (⟨_, .binOp _ _ _ _ _, _, _, _, _⟩ :: _) _ _ _; first | refine s_tt ?_ | refine s_ff ?_ | refine s_rdp ?_ | (refine s_cmp (fun _ => ?_) (fun _ => ?_) <;> (first | (exfalso; omega) | contradiction | skip)) | (refine s_cb (fun _ => ?_) (fun _ => ?_) <;> (first | (exfalso; omega) | contradiction | skip))) | (show wpO _ _ _ (⟨_, .indexAddr _ _ _, _, _, _, _⟩ :: _) _ _ _; first | refine s_rdp ?_ | refine s_idx (fun _ _ _ _ _ _ _ => ?_)) | refine s_rdp ?_ | refine s_rdm ?_ | refine s_exq ?_ | refine s_exm ?_) | (show Ex _ _ _ _ _; first | (show Ex _ ⟨_, .alloc _, _, _, _, _⟩ _ _ _; first | (refine e_allocA ?_; intro _) | (refine e_alloc1 ?_; intro _)) | (show Ex _ ⟨_, .store _ _ _, _, _, _, _⟩ _ _ _; first | refine e_store1 ?_ | refine e_storeA ?_ | (refine e_storeO ?_; intro _ _))) | (show wpC _ _ _ _ _ _; first | refine wpC_seq ?_ | refine wpC_region ?_ | refine c_true ?_ | refine c_false ?_ | (refine c_b (fun _ => ?_) (fun _ => ?_) <;> (first | (exfalso; omega) | contradiction | skip)) | refine wpC_block ?_ | refine wpC_ret ?_ | refine wpC_skip ?_ | refine wpC_exit ?_ | refine wpC_label ?_) | (show Then _ _ _ _ _ _ _; first | refine then_normal ?_ | refine then_ret ?_ | refine then_exit ?_) | (show InBlock _ _ _ _ _ _; first | refine inBlock_normal ?_ | refine inBlock_ret ?_ | refine inBlock_same ?_ | refine b_other ?_) | (show LoopPost _ _ _ _ _ _; first | refine loop_ret ?_ | refine loop_exit ?_) | (show RetP _ _ _ _ _ _ _ _; first | refine r_C1 ?_ | refine r_DC ?_))
  rename_i bz
  refine wpC_loopA (κ := Nat) [5, 6, 7, 8, 9, 10, 11, 12, 13, 14, 15, 16, 17, 18, 19, 20, 21, 22, 23, 24, 25, 26, 27, 28, 29, 30, 31, 32] (fun i => [(6, .int .i64 (i : Int))]) (fun _ => [(bz, cellsO (SlR.mk 0 ⟨0, 0⟩ zeroE [] []).cells 52)] ++ ((rfb d a.prom a.first v ++ (Bs ++ Pl)) ++ F))
    (fun i => i ≤ ls.length ∧ ∀ x ∈ ls.take i, x.slot ≠ n) (fun i => ls.length - i) 0 ⟨Nat.zero_le _, by simp⟩ ⟨rfl, trivial⟩ q_drp ?_
  rintro i ρx ⟨hi, hno⟩
  cases hr : ls[i]? with
  | none =>
    have hge : ls.length ≤ i := List.getElem?_eq_none_iff.1 hr
    rw [List.take_of_length_le hge] at hno
    repeat' (first | refine r_C1 ?_ | (show wpO _ _ _ _ _ _ _; first | refine wpO_nil ?_ | (show wpO _ _ _ (⟨_, .binOp _ _ _ _ _, _, _, _, _⟩ :: _) _ _ _; first | refine s_tt ?_ | refine s_ff ?_ | refine s_rdp ?_ | (refine s_cmp (fun _ => ?_) (fun _ => ?_) <;> (first | (exfalso; omega) | contradiction | skip)) | (refine s_cb (fun _ => ?_) (fun _ => ?_) <;> (first | (exfalso; omega) | contradiction | skip))) | (show wpO _ _ _ (⟨_, .indexAddr _ _ _, _, _, _, _⟩ :: _) _ _ _; first | refine s_rdp ?_ | refine s_idx (fun _ _ _ _ _ _ _ => ?_)) | refine s_rdp ?_ | refine s_rdm ?_ | refine s_exq ?_ | refine s_exm ?_) | (show Ex _ _ _ _ _; first | (show Ex _ ⟨_, .alloc _, _, _, _, _⟩ _ _ _; first | (refine e_allocA ?_; intro _) | (refine e_alloc1 ?_; intro _)) | (show Ex _ ⟨_, .store _ _ _, _, _, _, _⟩ _ _ _; first | refine e_store1 ?_ | refine e_storeA ?_ | (refine e_storeO ?_; intro _ _))) | (show wpC _ _ _ _ _ _; first | refine wpC_seq ?_ | refine wpC_region ?_ | refine c_true ?_ | refine c_false ?_ | (refine c_b (fun _ => ?_) (fun _ => ?_) <;> (first | (exfalso; omega) | contradiction | skip)) | refine wpC_block ?_ | refine wpC_ret ?_ | refine wpC_skip ?_ | refine wpC_exit ?_ | refine wpC_label ?_) | (show Then _ _ _ _ _ _ _; first | refine then_normal ?_ | refine then_ret ?_ | refine then_exit ?_) | (show InBlock _ _ _ _ _ _; first | refine inBlock_normal ?_ | refine inBlock_ret ?_ | refine inBlock_same ?_ | refine b_other ?_) | (show LoopPost _ _ _ _ _ _; first | refine loop_ret ?_ | refine loop_exit ?_) | (show RetP _ _ _ _ _ _ _ _; first | refine r_C1 ?_ | refine r_DC ?_))
    refine q_drop (h0 fun x hx => ?_)
    rw [← hls] at hx
    obtain ⟨s, hs, rfl⟩ := List.mem_map.1 hx
    exact hno s hs
  | some s =>
    have hlt := (List.getElem?_eq_some_iff.1 hr).1
    have hsm : s ∈ ls := List.mem_of_getElem? hr
    have htk : ∀ x ∈ ls.take (i + 1), x ∈ ls.take i ∨ x = s := fun x hx => by
      rw [List.take_add_one, hr] at hx
      rcases List.mem_append.1 hx with hx | hx
      · exact .inl hx
      · exact .inr (by simpa using hx)
    repeat' (first | refine r_C1 ?_ | (show wpO _ _ _ _ _ _ _; first | refine wpO_nil ?_ | (show wpO _ _ _ (⟨_, .binOp _ _ _ _ _, _, _, _, _⟩ :: _) _ _ _; first | refine s_tt ?_ | refine s_ff ?_ | refine s_rdp ?_ | (refine s_cmp (fun _ => ?_) (fun _ => ?_) <;> (first | (exfalso; omega) | contradiction | skip)) | (refine s_cb (fun _ => ?_) (fun _ => ?_) <;> (first | (exfalso; omega) | contradiction | skip))) | (show wpO _ _ _ (⟨_, .indexAddr _ _ _, _, _, _, _⟩ :: _) _ _ _; first | refine s_rdp ?_ | refine s_idx (fun _ _ _ _ _ _ _ => ?_)) | refine s_rdp ?_ | refine s_rdm ?_ | refine s_exq ?_ | refine s_exm ?_) | (show Ex _ _ _ _ _; first | (show Ex _ ⟨_, .alloc _, _, _, _, _⟩ _ _ _; first | (refine e_allocA ?_; intro _) | (refine e_alloc1 ?_; intro _)) | (show Ex _ ⟨_, .store _ _ _, _, _, _, _⟩ _ _ _; first | refine e_store1 ?_ | refine e_storeA ?_ | (refine e_storeO ?_; intro _ _))) | (show wpC _ _ _ _ _ _; first | refine wpC_seq ?_ | refine wpC_region ?_ | refine c_true ?_ | refine c_false ?_ | (refine c_b (fun _ => ?_) (fun _ => ?_) <;> (first | (exfalso; omega) | contradiction | skip)) | refine wpC_block ?_ | refine wpC_ret ?_ | refine wpC_skip ?_ | refine wpC_exit ?_ | refine wpC_label ?_) | (show Then _ _ _ _ _ _ _; first | refine then_normal ?_ | refine then_ret ?_ | refine then_exit ?_) | (show InBlock _ _ _ _ _ _; first | refine inBlock_normal ?_ | refine inBlock_ret ?_ | refine inBlock_same ?_ | refine b_other ?_) | (show LoopPost _ _ _ _ _ _; first | refine loop_ret ?_ | refine loop_exit ?_) | (show RetP _ _ _ _ _ _ _ _; first | refine r_C1 ?_ | refine r_DC ?_))
    · have he : s.slot = n := ‹_›
      exact q_drop (h1 s (by rw [← hls]; exact List.mem_map.2 ⟨s, hsm, rfl⟩) he ((hP s hsm).more fun x hx => List.mem_append_right _ (List.mem_append_right _ hx)))
    · rename_i he
      exact lp_end (i + 1) (by omega) ⟨hlt, fun x hx => (htk x hx).elim (hno x) (fun h => by rw [h]; exact he)⟩
structure RaS where
  i : Nat
  v : Value
  Bs : Hp
  ls : List SlR
set_option maxHeartbeats 4000000 in
set_option maxRecDepth 100000 in
theorem rall0 (e : World) {d : Nat} {prom : Bal} {first : Int} {v : Value} {ls : List SlR} {Bs : Hp} {n : Int} {F : Hp} {K : Value → Hp → Prop} (hS : SlO 52 59 v ls.length (ls.map SlR.cells).flatten Bs) (hl : ls.length * 528 ≤ 140737488355328)
    (hK : ∀ (u : Value) (qs : List SlR) (Bu : Hp), SlO 52 59 u qs.length (qs.map SlR.cells).flatten Bu → qs.map SlR.c = fromS (ls.map SlR.c) n → (∀ s ∈ qs, s ∈ ls) → K u (Bu ++ ((rfb d prom first v ++ Bs) ++ F))) :
    callsK Try.prog e 30 #[pv d, .int .i64 n] ((rfb d prom first v ++ Bs) ++ F) K := by
  have hin := slsIn hS
  refine calls_body (N := 37) (args := [pv d, .int .i64 n]) Try.func30 rfl rfl rfl (by simp) ?_
  repeat' ((fail_if_success (show wpC _ (.loop _) _ _ _ _)); first | (show wpO _ _ _ _ _ _ _; first | refine wpO_nil ?_ | (show wpO _ _ _ (⟨_, .binOp _ _ _ _ _, _, _, _, _⟩ :: _) _ _ _; first | refine s_tt ?_ | refine s_ff ?_ | refine s_rdp ?_ | (refine s_cmp (fun _ => ?_) (fun _ => ?_) <;> (first | (exfalso; omega) | contradiction | skip)) | (refine s_cb (fun _ => ?_) (fun _ => ?_) <;> (first | (exfalso; omega) | contradiction | skip))) | (show wpO _ _ _ (⟨_, .indexAddr _ _ _, _, _, _, _⟩ :: _) _ _ _; first | refine s_rdp ?_ | refine s_idx (fun _ _ _ _ _ _ _ => ?_)) | refine s_rdp ?_ | refine s_rdm ?_ | refine s_exq ?_ | refine s_exm ?_) | (show Ex _ _ _ _ _; first | (show Ex _ ⟨_, .buildSlice _ _ _, _, _, _, _⟩ _ _ _; first | (refine e_buildSlice ?_; intro _) | (refine e_buildNil ?_; intro _ _ _)) | (show Ex _ ⟨_, .call ⟨.builtin .append, _, _⟩, _, _, _, _⟩ _ _ _; (first | refine e_append ?_ | refine e_appendIn ?_); intro _ _ _)) | (show wpC _ _ _ _ _ _; first | refine wpC_seq ?_ | refine wpC_region ?_ | refine c_true ?_ | refine c_false ?_ | (refine c_b (fun _ => ?_) (fun _ => ?_) <;> (first | (exfalso; omega) | contradiction | skip)) | refine wpC_block ?_ | refine wpC_ret ?_ | refine wpC_skip ?_ | refine wpC_exit ?_ | refine wpC_label ?_) | (show Then _ _ _ _ _ _ _; first | refine then_normal ?_ | refine then_ret ?_ | refine then_exit ?_) | (show InBlock _ _ _ _ _ _; first | refine inBlock_normal ?_ | refine inBlock_ret ?_ | refine inBlock_same ?_ | refine b_other ?_) | (show LoopPost _ _ _ _ _ _; first | refine loop_ret ?_ | refine loop_exit ?_) | (show RetP _ _ _ _ _ _ _ _; first | refine r_1 ?_))
  have hS0 := hS
  clear hS
  refine wpC_loopA (κ := RaS) [5, 6, 7, 8, 9, 10, 11, 12, 13, 14, 15, 16, 17, 18, 19, 20, 21, 22, 23, 24, 25, 26, 27, 28, 29, 30, 31, 32, 33, 34, 35] (fun s => [(5, s.v), (6, .int .i64 (s.i : Int))]) (fun s => s.Bs ++ ((rfb d prom first v ++ Bs) ++ F))
    (fun s => s.i ≤ ls.length ∧ s.ls.map SlR.c = fromS ((ls.take s.i).map SlR.c) n ∧ (∀ x ∈ s.ls, x ∈ ls) ∧ SlO 52 59 s.v s.ls.length (s.ls.map SlR.cells).flatten s.Bs) (fun s => ls.length - s.i) ⟨0, .slice none 0 0, [], []⟩ ⟨Nat.zero_le _, rfl, (fun x hx => by cases hx), SlO.nil 52 59⟩ ⟨rfl, rfl, trivial⟩ q_drp ?_
  rintro ⟨i, u, Bu, qs⟩ ρx ⟨hi, hqs, hsub, hu⟩
  simp only at hi hqs hsub hu ⊢
  have hlsl : qs.length ≤ i := by
    have := congrArg List.length hqs
    rw [List.length_map] at this
    rw [this]
    exact Nat.le_trans (fromS_len _ _) (by rw [List.length_map, List.length_take]; omega)
  cases hr : ls[i]? with
  | none =>
    have hge : ls.length ≤ i := List.getElem?_eq_none_iff.1 hr
    rw [List.take_of_length_le hge] at hqs
    repeat' (first | (show wpO _ _ _ _ _ _ _; first | refine wpO_nil ?_ | (show wpO _ _ _ (⟨_, .binOp _ _ _ _ _, _, _, _, _⟩ :: _) _ _ _; first | refine s_tt ?_ | refine s_ff ?_ | refine s_rdp ?_ | (refine s_cmp (fun _ => ?_) (fun _ => ?_) <;> (first | (exfalso; omega) | contradiction | skip)) | (refine s_cb (fun _ => ?_) (fun _ => ?_) <;> (first | (exfalso; omega) | contradiction | skip))) | (show wpO _ _ _ (⟨_, .indexAddr _ _ _, _, _, _, _⟩ :: _) _ _ _; first | refine s_rdp ?_ | refine s_idx (fun _ _ _ _ _ _ _ => ?_)) | refine s_rdp ?_ | refine s_rdm ?_ | refine s_exq ?_ | refine s_exm ?_) | (show Ex _ _ _ _ _; first | (show Ex _ ⟨_, .buildSlice _ _ _, _, _, _, _⟩ _ _ _; first | (refine e_buildSlice ?_; intro _) | (refine e_buildNil ?_; intro _ _ _)) | (show Ex _ ⟨_, .call ⟨.builtin .append, _, _⟩, _, _, _, _⟩ _ _ _; (first | refine e_append ?_ | refine e_appendIn ?_); intro _ _ _)) | (show wpC _ _ _ _ _ _; first | refine wpC_seq ?_ | refine wpC_region ?_ | refine c_true ?_ | refine c_false ?_ | (refine c_b (fun _ => ?_) (fun _ => ?_) <;> (first | (exfalso; omega) | contradiction | skip)) | refine wpC_block ?_ | refine wpC_ret ?_ | refine wpC_skip ?_ | refine wpC_exit ?_ | refine wpC_label ?_) | (show Then _ _ _ _ _ _ _; first | refine then_normal ?_ | refine then_ret ?_ | refine then_exit ?_) | (show InBlock _ _ _ _ _ _; first | refine inBlock_normal ?_ | refine inBlock_ret ?_ | refine inBlock_same ?_ | refine b_other ?_) | (show LoopPost _ _ _ _ _ _; first | refine loop_ret ?_ | refine loop_exit ?_) | (show RetP _ _ _ _ _ _ _ _; first | refine r_1 ?_))
    exact q_drop (hK u qs Bu hu hqs hsub)
  | some s =>
    have hlt := (List.getElem?_eq_some_iff.1 hr).1
    have hsm : s ∈ ls := List.mem_of_getElem? hr
    have htk : fromS ((ls.take (i + 1)).map SlR.c) n = fromS ((ls.take i).map SlR.c) n ++ (if n ≤ s.slot then [s.c] else []) := by
      unfold fromS
      rw [List.take_add_one, hr, List.map_append, List.filter_append]
      by_cases h : n ≤ s.slot <;> simp [h]
    repeat' (first | (show wpO _ _ _ _ _ _ _; first | refine wpO_nil ?_ | (show wpO _ _ _ (⟨_, .binOp _ _ _ _ _, _, _, _, _⟩ :: _) _ _ _; first | refine s_tt ?_ | refine s_ff ?_ | refine s_rdp ?_ | (refine s_cmp (fun _ => ?_) (fun _ => ?_) <;> (first | (exfalso; omega) | contradiction | skip)) | (refine s_cb (fun _ => ?_) (fun _ => ?_) <;> (first | (exfalso; omega) | contradiction | skip))) | (show wpO _ _ _ (⟨_, .indexAddr _ _ _, _, _, _, _⟩ :: _) _ _ _; first | refine s_rdp ?_ | refine s_idx (fun _ _ _ _ _ _ _ => ?_)) | refine s_rdp ?_ | refine s_rdm ?_ | refine s_exq ?_ | refine s_exm ?_) | (show Ex _ _ _ _ _; first | (show Ex _ ⟨_, .buildSlice _ _ _, _, _, _, _⟩ _ _ _; first | (refine e_buildSlice ?_; intro _) | (refine e_buildNil ?_; intro _ _ _)) | (show Ex _ ⟨_, .call ⟨.builtin .append, _, _⟩, _, _, _, _⟩ _ _ _; (first | refine e_append ?_ | refine e_appendIn ?_); intro _ _ _)) | (show wpC _ _ _ _ _ _; first | refine wpC_seq ?_ | refine wpC_region ?_ | refine c_true ?_ | refine c_false ?_ | (refine c_b (fun _ => ?_) (fun _ => ?_) <;> (first | (exfalso; omega) | contradiction | skip)) | refine wpC_block ?_ | refine wpC_ret ?_ | refine wpC_skip ?_ | refine wpC_exit ?_ | refine wpC_label ?_) | (show Then _ _ _ _ _ _ _; first | refine then_normal ?_ | refine then_ret ?_ | refine then_exit ?_) | (show InBlock _ _ _ _ _ _; first | refine inBlock_normal ?_ | refine inBlock_ret ?_ | refine inBlock_same ?_ | refine b_other ?_) | (show LoopPost _ _ _ _ _ _; first | refine loop_ret ?_ | refine loop_exit ?_) | (show RetP _ _ _ _ _ _ _ _; first | refine r_1 ?_))
    · rename_i hcmp bx w' Bw' hw'
      refine lp_end ⟨i + 1, w', Bw', qs ++ [s]⟩ (by simp only; omega) ⟨hlt, ?_, ?_, hw'.cast (by simp) (by simp)⟩
      · simp only
        rw [htk, List.map_append, hqs, if_pos (by omega)]
        rfl
      · intro z hz
        rcases List.mem_append.1 hz with hz | hz
        · exact hsub z hz
        · obtain rfl := List.mem_singleton.1 hz
          exact hsm
    · rename_i hcmp
      exact lp_end ⟨i + 1, u, Bu, qs⟩ (by simp only; omega) ⟨hlt, by simp only; rw [htk, if_neg (by omega), List.append_nil]; exact hqs, hsub, hu⟩
set_option maxHeartbeats 4000000 in
set_option maxRecDepth 100000 in
theorem rall_R (e : World) {d : Nat} {a : Ac} {n : Int} {H F : Hp} {K : Value → Hp → Prop} (hA : RfO a d H) (hl : a.L.length * 528 ≤ 140737488355328)
    (hK : ∀ v Bv, RdL (fromS a.L n) v (Bv ++ H) → K v (Bv ++ (H ++ F))) :
    callsK Try.prog e 30 #[pv d, .int .i64 n] (H ++ F) K := by
  obtain ⟨v, ls, Bs, Pl, rfl, hls, hS, hP⟩ := hA
  have hll : ls.length = a.L.length := by rw [← hls, List.length_map]
  refine callsK_perm (by rw [← List.append_assoc, List.append_assoc (rfb d a.prom a.first v ++ Bs)]) (rall0 e (F := Pl ++ F) hS (by omega) fun u qs Bu h1 h2 h3 => ?_)
  have := hK u Bu ⟨qs, by rw [h2, hls], (slsIn h1).more fun x hx => List.mem_append_left _ hx, fun s hs => (hP s (h3 s hs)).more fun x hx => List.mem_append_right _ (List.mem_append_right _ (List.mem_append_right _ hx))⟩
  simpa [List.append_assoc] using this
set_option maxHeartbeats 4000000 in
set_option maxRecDepth 100000 in
theorem rforget_R (e : World) {d : Nat} {a : Ac} {n : Int} {H F : Hp} {K : Value → Hp → Prop} (hA : RfO a d H) (hl : a.L.length * 528 ≤ 140737488355328)
    (hK : ∀ H', RfO (a.forget n).2 d H' → K (.int .i64 (a.forget n).1) (H' ++ F)) :
    callsK Try.prog e 72 #[pv d, .int .i64 n] (H ++ F) K := by
  obtain ⟨v, ls, Bs, Pl, rfl, hls, hS, hP⟩ := hA
  have hll : ls.length = a.L.length := by rw [← hls, List.length_map]
  have hl' : ls.length * 528 ≤ 140737488355328 := by omega
  by_cases hs : slotOK n
  · have hsd : decide (slotOK n) = true := decide_eq_true hs
    have hK' : ∀ (u : Value) (qs : List SlR) (Bu : Hp), SlO 52 59 u qs.length (qs.map SlR.cells).flatten Bu → qs.map SlR.c = fromS (ls.map SlR.c) n → (∀ s ∈ qs, s ∈ ls) → K (.int .i64 0) ((rfb d a.prom (if a.first < n then n else a.first) u ++ (Bu ++ Pl)) ++ F) := fun u qs Bu h1 h2 h3 => by
      have := hK (rfb d a.prom (if a.first < n then n else a.first) u ++ (Bu ++ Pl)) (by
        unfold Ac.forget
        rw [if_neg (by simpa using hs)]
        exact ⟨u, qs, Bu, Pl, rfl, by rw [h2, hls], h1, fun s hs => hP s (h3 s hs)⟩)
      unfold Ac.forget at this
      rw [if_neg (by simpa using hs)] at this
      exact this
    clear hK
    refine calls_body (N := 23) (args := [pv d, .int .i64 n]) Try.func72 rfl rfl rfl (by simp) ?_
    repeat' (first | (show wpO _ _ _ _ _ _ _; first | refine wpO_nil ?_ | refine s_rdp ?_ | refine s_rdm ?_ | refine s_exq ?_ | refine s_exm ?_) | (show Ex _ _ _ _ _; first | (show Ex _ ⟨_, .call ⟨.value (.func _), _, _⟩, _, _, _, _⟩ _ _ _; refine e_call ?_; first | (apply rslot_E _ hsd) | (apply p_pcs; apply rall0 _ hS hl'; (try case hS => assumption); (case hpcs => (repeat (first | exact Pcs.blk (by infer_instance) | exact Pcs.nil | (apply Pcs.cons; infer_instance) | apply Pcs.app))))) | (show Ex _ ⟨_, .store _ _ _, _, _, _, _⟩ _ _ _; first | refine e_store1 ?_ | refine e_storeA ?_ | (refine e_storeO ?_; intro _ _))) | (show wpC _ _ _ _ _ _; first | refine wpC_seq ?_ | refine wpC_region ?_ | refine c_true ?_ | refine c_false ?_ | (refine c_b (fun _ => ?_) (fun _ => ?_) <;> (first | (exfalso; omega) | contradiction | skip)) | refine wpC_ret ?_ | refine wpC_skip ?_ | refine wpC_label ?_) | (show Then _ _ _ _ _ _ _; first | refine then_normal ?_ | refine then_ret ?_) | (show RetP _ _ _ _ _ _ _ _; first | refine r_1 ?_) | assumption | intro _)
    all_goals
      rename_i u qs Bu h1 h2 h3
      have hk := hK' u qs Bu h1 h2 h3
      first | exact q_drop hk | (have hx : (if a.first < n then n else a.first) = a.first := by split <;> omega) | (have hx : (if a.first < n then n else a.first) = n := by split <;> omega)
  · have hsd : decide (slotOK n) = false := decide_eq_false hs
    have hk := hK (rfb d a.prom a.first v ++ (Bs ++ Pl)) (by unfold Ac.forget; rw [if_pos hs]; exact ⟨v, ls, Bs, Pl, rfl, hls, hS, hP⟩)
    unfold Ac.forget at hk
    rw [if_pos hs] at hk
    refine calls_body (N := 23) (args := [pv d, .int .i64 n]) Try.func72 rfl rfl rfl (by simp) ?_
    repeat' (first | (show wpO _ _ _ _ _ _ _; first | refine wpO_nil ?_ | refine s_rdp ?_ | refine s_rdm ?_ | refine s_exq ?_ | refine s_exm ?_) | (show Ex _ _ _ _ _; first | (show Ex _ ⟨_, .call ⟨.value (.func _), _, _⟩, _, _, _, _⟩ _ _ _; refine e_call ?_; first | (apply rslot_E _ hsd)) | (show Ex _ ⟨_, .store _ _ _, _, _, _, _⟩ _ _ _; first | refine e_store1 ?_ | refine e_storeA ?_ | (refine e_storeO ?_; intro _ _))) | (show wpC _ _ _ _ _ _; first | refine wpC_seq ?_ | refine wpC_region ?_ | refine c_true ?_ | refine c_false ?_ | (refine c_b (fun _ => ?_) (fun _ => ?_) <;> (first | (exfalso; omega) | contradiction | skip)) | refine wpC_ret ?_ | refine wpC_skip ?_ | refine wpC_label ?_) | (show Then _ _ _ _ _ _ _; first | refine then_normal ?_ | refine then_ret ?_) | (show RetP _ _ _ _ _ _ _ _; first | refine r_1 ?_) | assumption | intro _)
    exact q_drop hk
end Go.Vl
