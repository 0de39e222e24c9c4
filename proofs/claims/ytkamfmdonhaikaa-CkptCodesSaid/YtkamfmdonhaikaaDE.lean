/-
  A disk's names, in order.
-/
import Derived.Test.YtkamfmdonhaikaaDC
import Derived.Test.YtkamfmdonhaikaaTks
namespace Go.Vl
open Go.Proofs
attribute [local irreducible] wpC wpO wpD Ex Rd callsK RetP Drop valK
set_option maxHeartbeats 4000000 in
set_option maxRecDepth 100000 in
theorem fnames_spec (e : World) {m clk : Nat} {es : Array MapEntry} {l : List Fl} {F : Hp} {K : Value → Hp → Prop} (hM : MapF es clk l) (hl : l.length ≤ 1024)
    (hK : ∀ v Bs (ks : List ByteArray), ks.Perm (l.map fun f => f.nm) → ks.Pairwise (fun a b => bToL a ≤ bToL b) → SlO 9 1 v ks.length (ks.map Value.string) Bs → K v (Bs ++ ([(m, .map es clk)] ++ F))) :
    callsK Try.prog e 60 #[.map (some m)] ([(m, .map es clk)] ++ F) K := by
  refine calls_body (N := 6) (args := [.map (some m)]) Try.func60 rfl rfl rfl (by simp) ?_
  repeat' (first | (show wpO _ _ _ _ _ _ _; first | refine wpO_nil ?_ | refine s_rdp ?_ | refine s_rdm ?_ | refine s_exq ?_ | refine s_exm ?_) | (show Ex _ _ _ _ _; first | (show Ex _ ⟨_, .call ⟨.value (.func _), _, _⟩, _, _, _, _⟩ _ _ _; refine e_call ?_; first | (apply keys_spec _) | (apply p_pcs; apply sortedS_spec _ hM (by rw [List.length_map]; omega); (try case hS => assumption); (case hpcs => (repeat (first | exact Pcs.blk (by infer_instance) | exact Pcs.nil | (apply Pcs.cons; infer_instance) | apply Pcs.app)))))) | (show wpC _ _ _ _ _ _; first | refine wpC_seq ?_ | refine wpC_region ?_ | refine wpC_ret ?_ | refine wpC_skip ?_ | refine wpC_label ?_) | (show Then _ _ _ _ _ _ _; first | refine then_normal ?_ | refine then_ret ?_) | (show RetP _ _ _ _ _ _ _ _; first | refine r_1 ?_) | assumption | intro _)
  rename_i v Bs ks hp hs hS
  rw [names_kp] at hp
  exact q_drop (hK v Bs ks hp hs hS)
set_option maxHeartbeats 4000000 in
set_option maxRecDepth 100000 in
theorem names_D (e : World) {d m : Nat} {x : Dk} {room : Int} {F : Hp} {K : Value → Hp → Prop} (hx : x.ok room)
    (hK : ∀ b v Bs (ks : List ByteArray), ks.Perm (x.ds.L.map Prod.fst) → ks.Pairwise (fun a b => bToL a ≤ bToL b) → SlO 9 1 v ks.length (ks.map Value.string) Bs →
      K (.func (.func 61) #[] #[.pointer (some ⟨b, 0, none⟩)]) (([(b, cellsO [v] 88)] ++ Bs) ++ (x.hp d m room ++ F))) :
    callsK Try.prog e 30 #[pv d] (x.hp d m room ++ F) K := by
  have hM := hx.map
  have hl := hx.len
  refine calls_body (N := 13) (args := [pv d]) Try.func30 rfl rfl rfl (by simp) ?_
  repeat' (first | (show wpO _ _ _ _ _ _ _; first | refine wpO_nil ?_ | refine s_rdp ?_ | refine s_rdm ?_ | refine s_exq ?_ | refine s_exm ?_) | (show Ex _ _ _ _ _; first | (show Ex _ ⟨_, .call ⟨.value (.func _), _, _⟩, _, _, _, _⟩ _ _ _; refine e_call ?_; first | (apply p_pcs; apply none_f; (try case hS => assumption); (case hpcs => (repeat (first | exact Pcs.blk (by infer_instance) | exact Pcs.nil | (apply Pcs.cons; infer_instance) | apply Pcs.app)))) | (apply p_pcs; apply fnames_spec _ hM hl; (try case hS => assumption); (case hpcs => (repeat (first | exact Pcs.blk (by infer_instance) | exact Pcs.nil | (apply Pcs.cons; infer_instance) | apply Pcs.app))))) | (show Ex _ ⟨_, .alloc _, _, _, _, _⟩ _ _ _; first | (refine e_allocA ?_; intro _) | (refine e_alloc1 ?_; intro _)) | (show Ex _ ⟨_, .store _ _ _, _, _, _, _⟩ _ _ _; first | refine e_store1 ?_ | refine e_storeA ?_ | (refine e_storeO ?_; intro _ _))) | (show wpC _ _ _ _ _ _; first | refine wpC_seq ?_ | refine wpC_region ?_ | refine c_true ?_ | refine c_false ?_ | (refine c_b (fun _ => ?_) (fun _ => ?_) <;> (first | (exfalso; omega) | contradiction | skip)) | refine wpC_ret ?_ | refine wpC_skip ?_ | refine wpC_label ?_) | (show Then _ _ _ _ _ _ _; first | refine then_normal ?_ | refine then_ret ?_) | (show RetP _ _ _ _ _ _ _ _; first | refine r_1 ?_) | assumption | intro _)
  rename_i b v Bs ks hp hs hS
  have hp2 : ks.Perm (x.ds.L.map Prod.fst) := by simpa [Function.comp_def] using hp
  exact q_drop (hK b v Bs ks hp2 hs hS)
set_option maxHeartbeats 4000000 in
set_option maxRecDepth 100000 in
theorem names_iter (e : World) {b : Nat} {v : Value} {Bs : Hp} {ks : List ByteArray} (hS : SlO 9 1 v ks.length (ks.map Value.string) Bs) (hl : ks.length ≤ 4611686018427387904) :
    Iter Try.prog e 61 #[] #[.pointer (some ⟨b, 0, none⟩)] ([(b, cellsO [v] 88)] ++ Bs) (fun s => s = ks.map fun k => [Value.string k]) := by
  intro yv inv stop K T hY h0 hall hstop
  have hfl : ∀ ks : List ByteArray, (ks.map strC).flatten = ks.map Value.string := fun ks => by
    induction ks with
    | nil => rfl
    | cons a l ih => simp [ih]
  refine calls_body (N := 16) (args := [yv, .pointer (some ⟨b, 0, none⟩)]) Try.func61 rfl rfl rfl (by simp) ?_
  repeat' (first | (show wpO _ _ _ _ _ _ _; first | refine wpO_nil ?_ | (show wpO _ _ _ (⟨_, .binOp _ _ _ _ _, _, _, _, _⟩ :: _) _ _ _; first | refine s_tt ?_ | refine s_ff ?_ | refine s_rdp ?_ | (refine s_cmp (fun _ => ?_) (fun _ => ?_) <;> (first | (exfalso; omega) | contradiction | skip)) | (refine s_cb (fun _ => ?_) (fun _ => ?_) <;> (first | (exfalso; omega) | contradiction | skip))) | (show wpO _ _ _ (⟨_, .indexAddr _ _ _, _, _, _, _⟩ :: _) _ _ _; first | refine s_rdp ?_ | refine s_idx (fun _ _ _ _ _ _ _ => ?_)) | refine s_rdp ?_ | refine s_rdm ?_ | refine s_exq ?_ | refine s_exm ?_) | (show wpC _ _ _ _ _ _; first | refine wpC_seq ?_ | refine wpC_region ?_ | refine c_true ?_ | refine c_false ?_ | (refine c_b (fun _ => ?_) (fun _ => ?_) <;> (first | (exfalso; omega) | contradiction | skip)) | refine wpC_block ?_ | refine wpC_ret ?_ | refine wpC_skip ?_ | refine wpC_exit ?_ | refine wpC_label ?_) | (show Then _ _ _ _ _ _ _; first | refine then_normal ?_ | refine then_ret ?_ | refine then_exit ?_) | (show InBlock _ _ _ _ _ _; first | refine inBlock_normal ?_ | refine inBlock_ret ?_ | refine inBlock_same ?_ | refine b_other ?_) | (show LoopPost _ _ _ _ _ _; first | refine loop_ret ?_ | refine loop_exit ?_) | (show RetP _ _ _ _ _ _ _ _; first | refine r_0 ?_))
  refine wpC_loopA (κ := Nat × Hp) [4, 7, 8, 9, 10, 11, 12, 13, 14, 15] (fun k => [(7, .int .i64 (k.1 : Int))]) (fun k => [(b, cellsO [v] 88)] ++ (Bs ++ k.2))
    (fun k => k.1 ≤ ks.length ∧ inv ((ks.take k.1).map fun r => [Value.string r]) k.2) (fun k => ks.length - k.1) (0, T) ⟨Nat.zero_le _, by simpa using h0⟩ ⟨rfl, trivial⟩ q_drp ?_
  rintro ⟨i, T⟩ ρx ⟨hi, hinv⟩
  simp only at hi hinv ⊢
  by_cases hlt : i < ks.length
  · have hlr : (ks.map strC).length = ks.length := List.length_map _
    obtain ⟨g, cap, cur, rfl, rfl, hrow⟩ := SlO.at (rows := ks.map strC) (by rw [hlr, hfl]; exact hS) (by intro r hr; obtain ⟨x, _, rfl⟩ := List.mem_map.1 hr; rfl) (i := i) (r := [Value.string ks[i]]) (by simp [hlt])
    have htk : (ks.take (i + 1)).map (fun r => [Value.string r]) = ((ks.take i).map fun r => [Value.string r]) ++ [[Value.string ks[i]]] := by
      rw [List.take_add_one, List.getElem?_eq_getElem hlt]; simp only [List.map_append, Option.toList, List.map_cons, List.map_nil]
    have hx : ∃ rest, (fun s => s = ks.map fun r => [Value.string r]) (((ks.take i).map fun r => [Value.string r]) ++ [Value.string ks[i]] :: rest) := by
      refine ⟨(ks.drop (i + 1)).map fun r => [Value.string r], ?_⟩
      show _ = _
      conv => rhs; rw [← List.take_append_drop i ks, List.map_append, List.drop_eq_getElem_cons hlt]
      rfl
    generalize ks[i] = x at *
    repeat' ((fail_if_success (show wpO _ _ _ (⟨_, .call ⟨.value (.tmp _), _, _⟩, _, _, _, _⟩ :: _) _ _ _)); first | (show wpO _ _ _ _ _ _ _; first | refine wpO_nil ?_ | (show wpO _ _ _ (⟨_, .binOp _ _ _ _ _, _, _, _, _⟩ :: _) _ _ _; first | refine s_tt ?_ | refine s_ff ?_ | refine s_rdp ?_ | (refine s_cmp (fun _ => ?_) (fun _ => ?_) <;> (first | (exfalso; omega) | contradiction | skip)) | (refine s_cb (fun _ => ?_) (fun _ => ?_) <;> (first | (exfalso; omega) | contradiction | skip))) | (show wpO _ _ _ (⟨_, .indexAddr _ _ _, _, _, _, _⟩ :: _) _ _ _; first | refine s_rdp ?_ | refine s_idx (fun _ _ _ _ _ _ _ => ?_)) | refine s_rdp ?_ | refine s_rdm ?_ | refine s_exq ?_ | refine s_exm ?_) | (show wpC _ _ _ _ _ _; first | refine wpC_seq ?_ | refine wpC_region ?_ | refine c_true ?_ | refine c_false ?_ | (refine c_b (fun _ => ?_) (fun _ => ?_) <;> (first | (exfalso; omega) | contradiction | skip)) | refine wpC_block ?_ | refine wpC_ret ?_ | refine wpC_skip ?_ | refine wpC_exit ?_ | refine wpC_label ?_) | (show Then _ _ _ _ _ _ _; first | refine then_normal ?_ | refine then_ret ?_ | refine then_exit ?_) | (show InBlock _ _ _ _ _ _; first | refine inBlock_normal ?_ | refine inBlock_ret ?_ | refine inBlock_same ?_ | refine b_other ?_) | (show LoopPost _ _ _ _ _ _; first | refine loop_ret ?_ | refine loop_exit ?_) | (show RetP _ _ _ _ _ _ _ _; first | refine r_0 ?_))
    refine s_yield hY hx hinv (fun T' hi' => ?_) (fun T' hs' => ?_)
    · repeat' (first | (show wpO _ _ _ _ _ _ _; first | refine wpO_nil ?_ | (show wpO _ _ _ (⟨_, .binOp _ _ _ _ _, _, _, _, _⟩ :: _) _ _ _; first | refine s_tt ?_ | refine s_ff ?_ | refine s_rdp ?_ | (refine s_cmp (fun _ => ?_) (fun _ => ?_) <;> (first | (exfalso; omega) | contradiction | skip)) | (refine s_cb (fun _ => ?_) (fun _ => ?_) <;> (first | (exfalso; omega) | contradiction | skip))) | (show wpO _ _ _ (⟨_, .indexAddr _ _ _, _, _, _, _⟩ :: _) _ _ _; first | refine s_rdp ?_ | refine s_idx (fun _ _ _ _ _ _ _ => ?_)) | refine s_rdp ?_ | refine s_rdm ?_ | refine s_exq ?_ | refine s_exm ?_) | (show wpC _ _ _ _ _ _; first | refine wpC_seq ?_ | refine wpC_region ?_ | refine c_true ?_ | refine c_false ?_ | (refine c_b (fun _ => ?_) (fun _ => ?_) <;> (first | (exfalso; omega) | contradiction | skip)) | refine wpC_block ?_ | refine wpC_ret ?_ | refine wpC_skip ?_ | refine wpC_exit ?_ | refine wpC_label ?_) | (show Then _ _ _ _ _ _ _; first | refine then_normal ?_ | refine then_ret ?_ | refine then_exit ?_) | (show InBlock _ _ _ _ _ _; first | refine inBlock_normal ?_ | refine inBlock_ret ?_ | refine inBlock_same ?_ | refine b_other ?_) | (show LoopPost _ _ _ _ _ _; first | refine loop_ret ?_ | refine loop_exit ?_) | (show RetP _ _ _ _ _ _ _ _; first | refine r_0 ?_))
      exact lp_end (i + 1, T') (by simp; omega) ⟨hlt, by simp only; rw [htk]; exact hi'⟩
    · repeat' (first | (show wpO _ _ _ _ _ _ _; first | refine wpO_nil ?_ | (show wpO _ _ _ (⟨_, .binOp _ _ _ _ _, _, _, _, _⟩ :: _) _ _ _; first | refine s_tt ?_ | refine s_ff ?_ | refine s_rdp ?_ | (refine s_cmp (fun _ => ?_) (fun _ => ?_) <;> (first | (exfalso; omega) | contradiction | skip)) | (refine s_cb (fun _ => ?_) (fun _ => ?_) <;> (first | (exfalso; omega) | contradiction | skip))) | (show wpO _ _ _ (⟨_, .indexAddr _ _ _, _, _, _, _⟩ :: _) _ _ _; first | refine s_rdp ?_ | refine s_idx (fun _ _ _ _ _ _ _ => ?_)) | refine s_rdp ?_ | refine s_rdm ?_ | refine s_exq ?_ | refine s_exm ?_) | (show wpC _ _ _ _ _ _; first | refine wpC_seq ?_ | refine wpC_region ?_ | refine c_true ?_ | refine c_false ?_ | (refine c_b (fun _ => ?_) (fun _ => ?_) <;> (first | (exfalso; omega) | contradiction | skip)) | refine wpC_block ?_ | refine wpC_ret ?_ | refine wpC_skip ?_ | refine wpC_exit ?_ | refine wpC_label ?_) | (show Then _ _ _ _ _ _ _; first | refine then_normal ?_ | refine then_ret ?_ | refine then_exit ?_) | (show InBlock _ _ _ _ _ _; first | refine inBlock_normal ?_ | refine inBlock_ret ?_ | refine inBlock_same ?_ | refine b_other ?_) | (show LoopPost _ _ _ _ _ _; first | refine loop_ret ?_ | refine loop_exit ?_) | (show RetP _ _ _ _ _ _ _ _; first | refine r_0 ?_))
      exact q_drop (hstop _ hs')
  · obtain rfl : i = ks.length := by omega
    repeat' (first | (show wpO _ _ _ _ _ _ _; first | refine wpO_nil ?_ | (show wpO _ _ _ (⟨_, .binOp _ _ _ _ _, _, _, _, _⟩ :: _) _ _ _; first | refine s_tt ?_ | refine s_ff ?_ | refine s_rdp ?_ | (refine s_cmp (fun _ => ?_) (fun _ => ?_) <;> (first | (exfalso; omega) | contradiction | skip)) | (refine s_cb (fun _ => ?_) (fun _ => ?_) <;> (first | (exfalso; omega) | contradiction | skip))) | (show wpO _ _ _ (⟨_, .indexAddr _ _ _, _, _, _, _⟩ :: _) _ _ _; first | refine s_rdp ?_ | refine s_idx (fun _ _ _ _ _ _ _ => ?_)) | refine s_rdp ?_ | refine s_rdm ?_ | refine s_exq ?_ | refine s_exm ?_) | (show wpC _ _ _ _ _ _; first | refine wpC_seq ?_ | refine wpC_region ?_ | refine c_true ?_ | refine c_false ?_ | (refine c_b (fun _ => ?_) (fun _ => ?_) <;> (first | (exfalso; omega) | contradiction | skip)) | refine wpC_block ?_ | refine wpC_ret ?_ | refine wpC_skip ?_ | refine wpC_exit ?_ | refine wpC_label ?_) | (show Then _ _ _ _ _ _ _; first | refine then_normal ?_ | refine then_ret ?_ | refine then_exit ?_) | (show InBlock _ _ _ _ _ _; first | refine inBlock_normal ?_ | refine inBlock_ret ?_ | refine inBlock_same ?_ | refine b_other ?_) | (show LoopPost _ _ _ _ _ _; first | refine loop_ret ?_ | refine loop_exit ?_) | (show RetP _ _ _ _ _ _ _ _; first | refine r_0 ?_))
    refine q_drop (hall _ T rfl (by simpa using hinv))
end Go.Vl
