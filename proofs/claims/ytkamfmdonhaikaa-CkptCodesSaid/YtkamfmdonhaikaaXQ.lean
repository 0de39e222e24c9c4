import Derived.Test.YtkamfmdonhaikaaWR
import Derived.Test.YtkamfmdonhaikaaDE
import Derived.Test.YtkamfmdonhaikaaDG
/-
  The program's has, state, clear.
-/
namespace Go.Vl
open Go.Proofs Go.RowKit
section
variable {C : Cx} {ops : Array Oper} {Q : Post} {rest : List Oper} {ρ : Fr} {ds : List Nat} {H : Hp} {d : Nat} {ty t yt : TypeId} {pos : String} {af : Array Edge} {g : Option (Nat × Bool)} {x y : Operand} {a b : ByteArray}
set_option maxHeartbeats 4000000 in
set_option maxRecDepth 100000 in
theorem s_strEqT (h : wpO C ops Q rest (upd ρ d (.bool true)) ds H) (hab : a = b) (hx : ev ρ x = .string a := by exact rfl) (hy : ev ρ y = .string b := by exact rfl) (hw : wantV C.N ops ρ ⟨some d, .binOp .eql t x y yt, ty, pos, af, g⟩ = true := by exact rfl) (hd : Nat.blt d C.N = true := by exact rfl) : wpO C ops Q (⟨some d, .binOp .eql t x y yt, ty, pos, af, g⟩ :: rest) ρ ds H := by
  refine wpO_rds hw hd (rd_binV ?_) h
  rw [hx, hy]
  show some (Value.bool (decide (a = b))) = _
  rw [decide_eq_true hab]
set_option maxHeartbeats 4000000 in
set_option maxRecDepth 100000 in
theorem s_strEqF (h : wpO C ops Q rest (upd ρ d (.bool false)) ds H) (hab : ¬ a = b) (hx : ev ρ x = .string a := by exact rfl) (hy : ev ρ y = .string b := by exact rfl) (hw : wantV C.N ops ρ ⟨some d, .binOp .eql t x y yt, ty, pos, af, g⟩ = true := by exact rfl) (hd : Nat.blt d C.N = true := by exact rfl) : wpO C ops Q (⟨some d, .binOp .eql t x y yt, ty, pos, af, g⟩ :: rest) ρ ds H := by
  refine wpO_rds hw hd (rd_binV ?_) h
  rw [hx, hy]
  show some (Value.bool (decide (a = b))) = _
  rw [decide_eq_false hab]
end
attribute [local irreducible] wpC wpO wpD Ex Rd callsK RetP Drop valK
set_option maxHeartbeats 4000000 in
set_option maxRecDepth 100000 in
theorem has_D (e : World) {n : ByteArray} {F : Hp} {d m : Nat} {x : Dk} {room : Int} {K : Value → Hp → Prop} (hx : x.ok room) (h1 : hasA x.ds.L n → K (.bool true) (x.hp d m room ++ F)) (h0 : ¬ hasA x.ds.L n → K (.bool false) (x.hp d m room ++ F)) :
    callsK Try.prog e 96 #[pv d, .string n] (x.hp d m room ++ F) K := by
  have hxl := hx.len
  refine calls_body (N := 12) (args := [pv d, .string n]) Try.func96 rfl rfl rfl (by simp) ?_
  repeat' ((fail_if_success (show wpC _ (.rangeFunc _ _ _ _) _ _ _ _)); first | (show wpO _ _ _ _ _ _ _; first | refine wpO_nil ?_ | (show wpO _ _ _ (⟨_, .binOp _ _ _ _ _, _, _, _, _⟩ :: _) _ _ _; first | refine s_tt ?_ | refine s_ff ?_ | refine s_rdp ?_ | (refine s_cmp (fun _ => ?_) (fun _ => ?_) <;> (first | (exfalso; omega) | contradiction | skip)) | (refine s_cb (fun _ => ?_) (fun _ => ?_) <;> (first | (exfalso; omega) | contradiction | skip))) | refine s_rdp ?_ | refine s_rdm ?_ | refine s_exq ?_ | refine s_exm ?_) | (show Ex _ _ _ _ _; first | (show Ex _ ⟨_, .call ⟨.value (.func _), _, _⟩, _, _, _, _⟩ _ _ _; refine e_call ?_; first | (apply p_pcs; apply names_D _ hx; (try case hS => assumption); (case hpcs => (repeat (first | exact Pcs.blk (by infer_instance) | exact Pcs.nil | (apply Pcs.cons; infer_instance) | apply Pcs.app))))) | (show Ex _ ⟨_, .alloc _, _, _, _, _⟩ _ _ _; first | (refine e_allocA ?_; intro _) | (refine e_alloc1 ?_; intro _)) | (show Ex _ ⟨_, .box _ _, _, _, _, _⟩ _ _ _; first | (refine e_boxA ?_; intro _) | (refine e_box1 ?_; intro _)) | (show Ex _ ⟨_, .store _ _ _, _, _, _, _⟩ _ _ _; first | refine e_store1 ?_ | refine e_storeA ?_ | (refine e_storeO ?_; intro _ _))) | (show wpC _ _ _ _ _ _; first | refine wpC_seq ?_ | refine wpC_region ?_ | refine c_true ?_ | refine c_false ?_ | (refine c_b (fun _ => ?_) (fun _ => ?_) <;> (first | (exfalso; omega) | contradiction | skip)) | refine wpC_block ?_ | refine wpC_ret ?_ | refine wpC_skip ?_ | refine wpC_label ?_) | (show Then _ _ _ _ _ _ _; first | refine then_normal ?_ | refine then_ret ?_) | (show InBlock _ _ _ _ _ _; first | refine inBlock_normal ?_ | refine inBlock_ret ?_ | refine inBlock_same ?_ | refine b_other ?_) | (show RetP _ _ _ _ _ _ _ _; first | refine r_C1 ?_ | refine r_DC ?_) | assumption | intro _)
  rename_i b3 b4 nb v Bs ks hp hs hS
  have hkl : ks.length ≤ 1024 := by rw [hp.length_eq]; simpa using hxl
  have hmem : hasA x.ds.L n ↔ n ∈ ks := by
    rw [hp.mem_iff, List.mem_map]
    exact Iff.rfl
  refine wpC_rangeIter (B := [(nb, cellsO [v] 88)] ++ Bs) (T0 := (b4, cellsO [.bool false] 4) :: ([(b3, cellsO [.string n] 9)] ++ (x.hp d m room ++ F))) (S := fun s => s = ks.map fun r => [Value.string r]) (ps := [8])
    (fun done T => T = (b4, cellsO [.bool false] 4) :: ([(b3, cellsO [.string n] 9)] ++ (x.hp d m room ++ F)) ∧ n ∉ ks.take done.length)
    (fun z T => z = .ret ∧ n ∈ ks ∧ T = (b4, cellsO [.bool true] 4) :: ([(b3, cellsO [.string n] 9)] ++ (x.hp d m room ++ F)))
    (names_iter _ hS (by omega)) (perm_pcs (by (repeat (first | exact Pcs.blk (by infer_instance) | exact Pcs.nil | (apply Pcs.cons; infer_instance) | apply Pcs.app)))) rfl rfl rfl rfl (by kernel_rfl) rfl ?_ ⟨rfl, by simp⟩ ?_ ?_ ?_
  · rintro s rfl y hy
    obtain ⟨r, _, rfl⟩ := List.mem_map.1 hy
    rfl
  · rintro done y _ A l rc ⟨rest, hrest⟩ ⟨rfl, hnot⟩
    have hn : done.length < ks.length := by have := congrArg List.length hrest; simp at this; omega
    have hy : y = [Value.string ks[done.length]] := by
      have := congrArg (fun L => L[done.length]?) hrest
      simpa [hn] using this
    subst hy
    have hgi : ks[done.length]? = some ks[done.length] := by simp [hn]
    have hd1 : ∀ y : List Value, (done ++ [y]).length = done.length + 1 := fun y => by simp
    have htk : ks.take (done.length + 1) = ks.take done.length ++ [ks[done.length]] := by rw [List.take_add_one, hgi]; rfl
    have hmk : ks[done.length] ∈ ks := List.getElem_mem hn
    generalize ks[done.length] = s at *
    by_cases hsn : s = n
    · subst hsn
      repeat' (first | (show wpO _ _ _ _ _ _ _; first | refine wpO_nil ?_ | (show wpO _ _ _ (⟨_, .binOp _ _ _ _ _, _, _, _, _⟩ :: _) _ _ _; first | refine s_tt ?_ | refine s_ff ?_ | refine s_rdp ?_ | (refine s_cmp (fun _ => ?_) (fun _ => ?_) <;> (first | (exfalso; omega) | contradiction | skip)) | (refine s_cb (fun _ => ?_) (fun _ => ?_) <;> (first | (exfalso; omega) | contradiction | skip))) | refine s_rdp ?_ | refine s_rdm ?_ | refine s_exq ?_ | refine s_exm ?_) | (show Ex _ _ _ _ _; first | (show Ex _ ⟨_, .alloc _, _, _, _, _⟩ _ _ _; first | (refine e_allocA ?_; intro _) | (refine e_alloc1 ?_; intro _)) | (show Ex _ ⟨_, .box _ _, _, _, _, _⟩ _ _ _; first | (refine e_boxA ?_; intro _) | (refine e_box1 ?_; intro _)) | (show Ex _ ⟨_, .store _ _ _, _, _, _, _⟩ _ _ _; first | refine e_store1 ?_ | refine e_storeA ?_ | (refine e_storeO ?_; intro _ _))) | (show wpC _ _ _ _ _ _; first | refine wpC_seq ?_ | refine wpC_region ?_ | refine c_true ?_ | refine c_false ?_ | (refine c_b (fun _ => ?_) (fun _ => ?_) <;> (first | (exfalso; omega) | contradiction | skip)) | refine wpC_block ?_ | refine wpC_ret ?_ | refine wpC_skip ?_ | refine wpC_label ?_) | (show Then _ _ _ _ _ _ _; first | refine then_normal ?_ | refine then_ret ?_) | (show InBlock _ _ _ _ _ _; first | refine inBlock_normal ?_ | refine inBlock_ret ?_ | refine inBlock_same ?_ | refine b_other ?_) | (show RetP _ _ _ _ _ _ _ _; first | refine r_C1 ?_ | refine r_DC ?_))
      refine ⟨rfl, rfl, _, none, drp_pk, ?_⟩
      repeat' ((fail_if_success (show wpO _ _ _ (⟨_, .binOp _ 9 _ _ _, _, _, _, _⟩ :: _) _ _ _)); first | (show wpO _ _ _ _ _ _ _; first | refine wpO_nil ?_ | (show wpO _ _ _ (⟨_, .binOp _ _ _ _ _, _, _, _, _⟩ :: _) _ _ _; first | refine s_tt ?_ | refine s_ff ?_ | refine s_rdp ?_ | (refine s_cmp (fun _ => ?_) (fun _ => ?_) <;> (first | (exfalso; omega) | contradiction | skip)) | (refine s_cb (fun _ => ?_) (fun _ => ?_) <;> (first | (exfalso; omega) | contradiction | skip))) | refine s_rdp ?_ | refine s_rdm ?_ | refine s_exq ?_ | refine s_exm ?_) | (show Ex _ _ _ _ _; first | (show Ex _ ⟨_, .alloc _, _, _, _, _⟩ _ _ _; first | (refine e_allocA ?_; intro _) | (refine e_alloc1 ?_; intro _)) | (show Ex _ ⟨_, .box _ _, _, _, _, _⟩ _ _ _; first | (refine e_boxA ?_; intro _) | (refine e_box1 ?_; intro _)) | (show Ex _ ⟨_, .store _ _ _, _, _, _, _⟩ _ _ _; first | refine e_store1 ?_ | refine e_storeA ?_ | (refine e_storeO ?_; intro _ _))) | (show wpC _ _ _ _ _ _; first | refine wpC_seq ?_ | refine wpC_region ?_ | refine c_true ?_ | refine c_false ?_ | (refine c_b (fun _ => ?_) (fun _ => ?_) <;> (first | (exfalso; omega) | contradiction | skip)) | refine wpC_block ?_ | refine wpC_ret ?_ | refine wpC_skip ?_ | refine wpC_label ?_) | (show Then _ _ _ _ _ _ _; first | refine then_normal ?_ | refine then_ret ?_) | (show InBlock _ _ _ _ _ _; first | refine inBlock_normal ?_ | refine inBlock_ret ?_ | refine inBlock_same ?_ | refine b_other ?_) | (show RetP _ _ _ _ _ _ _ _; first | refine r_C1 ?_ | refine r_DC ?_))
      refine s_strEqT ?_ rfl
      repeat' (first | (show wpO _ _ _ _ _ _ _; first | refine wpO_nil ?_ | (show wpO _ _ _ (⟨_, .binOp _ _ _ _ _, _, _, _, _⟩ :: _) _ _ _; first | refine s_tt ?_ | refine s_ff ?_ | refine s_rdp ?_ | (refine s_cmp (fun _ => ?_) (fun _ => ?_) <;> (first | (exfalso; omega) | contradiction | skip)) | (refine s_cb (fun _ => ?_) (fun _ => ?_) <;> (first | (exfalso; omega) | contradiction | skip))) | refine s_rdp ?_ | refine s_rdm ?_ | refine s_exq ?_ | refine s_exm ?_) | (show Ex _ _ _ _ _; first | (show Ex _ ⟨_, .alloc _, _, _, _, _⟩ _ _ _; first | (refine e_allocA ?_; intro _) | (refine e_alloc1 ?_; intro _)) | (show Ex _ ⟨_, .box _ _, _, _, _, _⟩ _ _ _; first | (refine e_boxA ?_; intro _) | (refine e_box1 ?_; intro _)) | (show Ex _ ⟨_, .store _ _ _, _, _, _, _⟩ _ _ _; first | refine e_store1 ?_ | refine e_storeA ?_ | (refine e_storeO ?_; intro _ _))) | (show wpC _ _ _ _ _ _; first | refine wpC_seq ?_ | refine wpC_region ?_ | refine c_true ?_ | refine c_false ?_ | (refine c_b (fun _ => ?_) (fun _ => ?_) <;> (first | (exfalso; omega) | contradiction | skip)) | refine wpC_block ?_ | refine wpC_ret ?_ | refine wpC_skip ?_ | refine wpC_label ?_) | (show Then _ _ _ _ _ _ _; first | refine then_normal ?_ | refine then_ret ?_) | (show InBlock _ _ _ _ _ _; first | refine inBlock_normal ?_ | refine inBlock_ret ?_ | refine inBlock_same ?_ | refine b_other ?_) | (show RetP _ _ _ _ _ _ _ _; first | refine r_C1 ?_ | refine r_DC ?_))
      exact ⟨none, _, ⟨rfl, hmk, rfl⟩, q_drp⟩
    · have hnot' : n ∉ ks.take (done.length + 1) := by
        rw [htk]
        simp only [List.mem_append, List.mem_singleton]
        rintro (h | h)
        · exact hnot h
        · exact hsn h.symm
      repeat' (first | (show wpO _ _ _ _ _ _ _; first | refine wpO_nil ?_ | (show wpO _ _ _ (⟨_, .binOp _ _ _ _ _, _, _, _, _⟩ :: _) _ _ _; first | refine s_tt ?_ | refine s_ff ?_ | refine s_rdp ?_ | (refine s_cmp (fun _ => ?_) (fun _ => ?_) <;> (first | (exfalso; omega) | contradiction | skip)) | (refine s_cb (fun _ => ?_) (fun _ => ?_) <;> (first | (exfalso; omega) | contradiction | skip))) | refine s_rdp ?_ | refine s_rdm ?_ | refine s_exq ?_ | refine s_exm ?_) | (show Ex _ _ _ _ _; first | (show Ex _ ⟨_, .alloc _, _, _, _, _⟩ _ _ _; first | (refine e_allocA ?_; intro _) | (refine e_alloc1 ?_; intro _)) | (show Ex _ ⟨_, .box _ _, _, _, _, _⟩ _ _ _; first | (refine e_boxA ?_; intro _) | (refine e_box1 ?_; intro _)) | (show Ex _ ⟨_, .store _ _ _, _, _, _, _⟩ _ _ _; first | refine e_store1 ?_ | refine e_storeA ?_ | (refine e_storeO ?_; intro _ _))) | (show wpC _ _ _ _ _ _; first | refine wpC_seq ?_ | refine wpC_region ?_ | refine c_true ?_ | refine c_false ?_ | (refine c_b (fun _ => ?_) (fun _ => ?_) <;> (first | (exfalso; omega) | contradiction | skip)) | refine wpC_block ?_ | refine wpC_ret ?_ | refine wpC_skip ?_ | refine wpC_label ?_) | (show Then _ _ _ _ _ _ _; first | refine then_normal ?_ | refine then_ret ?_) | (show InBlock _ _ _ _ _ _; first | refine inBlock_normal ?_ | refine inBlock_ret ?_ | refine inBlock_same ?_ | refine b_other ?_) | (show RetP _ _ _ _ _ _ _ _; first | refine r_C1 ?_ | refine r_DC ?_))
      refine ⟨rfl, rfl, _, none, drp_pk, ?_⟩
      repeat' ((fail_if_success (show wpO _ _ _ (⟨_, .binOp _ 9 _ _ _, _, _, _, _⟩ :: _) _ _ _)); first | (show wpO _ _ _ _ _ _ _; first | refine wpO_nil ?_ | (show wpO _ _ _ (⟨_, .binOp _ _ _ _ _, _, _, _, _⟩ :: _) _ _ _; first | refine s_tt ?_ | refine s_ff ?_ | refine s_rdp ?_ | (refine s_cmp (fun _ => ?_) (fun _ => ?_) <;> (first | (exfalso; omega) | contradiction | skip)) | (refine s_cb (fun _ => ?_) (fun _ => ?_) <;> (first | (exfalso; omega) | contradiction | skip))) | refine s_rdp ?_ | refine s_rdm ?_ | refine s_exq ?_ | refine s_exm ?_) | (show Ex _ _ _ _ _; first | (show Ex _ ⟨_, .alloc _, _, _, _, _⟩ _ _ _; first | (refine e_allocA ?_; intro _) | (refine e_alloc1 ?_; intro _)) | (show Ex _ ⟨_, .box _ _, _, _, _, _⟩ _ _ _; first | (refine e_boxA ?_; intro _) | (refine e_box1 ?_; intro _)) | (show Ex _ ⟨_, .store _ _ _, _, _, _, _⟩ _ _ _; first | refine e_store1 ?_ | refine e_storeA ?_ | (refine e_storeO ?_; intro _ _))) | (show wpC _ _ _ _ _ _; first | refine wpC_seq ?_ | refine wpC_region ?_ | refine c_true ?_ | refine c_false ?_ | (refine c_b (fun _ => ?_) (fun _ => ?_) <;> (first | (exfalso; omega) | contradiction | skip)) | refine wpC_block ?_ | refine wpC_ret ?_ | refine wpC_skip ?_ | refine wpC_label ?_) | (show Then _ _ _ _ _ _ _; first | refine then_normal ?_ | refine then_ret ?_) | (show InBlock _ _ _ _ _ _; first | refine inBlock_normal ?_ | refine inBlock_ret ?_ | refine inBlock_same ?_ | refine b_other ?_) | (show RetP _ _ _ _ _ _ _ _; first | refine r_C1 ?_ | refine r_DC ?_))
      refine s_strEqF ?_ hsn
      repeat' (first | (show wpO _ _ _ _ _ _ _; first | refine wpO_nil ?_ | (show wpO _ _ _ (⟨_, .binOp _ _ _ _ _, _, _, _, _⟩ :: _) _ _ _; first | refine s_tt ?_ | refine s_ff ?_ | refine s_rdp ?_ | (refine s_cmp (fun _ => ?_) (fun _ => ?_) <;> (first | (exfalso; omega) | contradiction | skip)) | (refine s_cb (fun _ => ?_) (fun _ => ?_) <;> (first | (exfalso; omega) | contradiction | skip))) | refine s_rdp ?_ | refine s_rdm ?_ | refine s_exq ?_ | refine s_exm ?_) | (show Ex _ _ _ _ _; first | (show Ex _ ⟨_, .alloc _, _, _, _, _⟩ _ _ _; first | (refine e_allocA ?_; intro _) | (refine e_alloc1 ?_; intro _)) | (show Ex _ ⟨_, .box _ _, _, _, _, _⟩ _ _ _; first | (refine e_boxA ?_; intro _) | (refine e_box1 ?_; intro _)) | (show Ex _ ⟨_, .store _ _ _, _, _, _, _⟩ _ _ _; first | refine e_store1 ?_ | refine e_storeA ?_ | (refine e_storeO ?_; intro _ _))) | (show wpC _ _ _ _ _ _; first | refine wpC_seq ?_ | refine wpC_region ?_ | refine c_true ?_ | refine c_false ?_ | (refine c_b (fun _ => ?_) (fun _ => ?_) <;> (first | (exfalso; omega) | contradiction | skip)) | refine wpC_block ?_ | refine wpC_ret ?_ | refine wpC_skip ?_ | refine wpC_label ?_) | (show Then _ _ _ _ _ _ _; first | refine then_normal ?_ | refine then_ret ?_) | (show InBlock _ _ _ _ _ _; first | refine inBlock_normal ?_ | refine inBlock_ret ?_ | refine inBlock_same ?_ | refine b_other ?_) | (show RetP _ _ _ _ _ _ _ _; first | refine r_C1 ?_ | refine r_DC ?_))
      exact ⟨none, _, ⟨rfl, by rw [hd1]; exact hnot'⟩, q_drp⟩
  · rintro D all _ rfl ⟨rfl, hnot⟩
    rw [List.length_map, List.take_length] at hnot
    repeat' (first | (show wpO _ _ _ _ _ _ _; first | refine wpO_nil ?_ | (show wpO _ _ _ (⟨_, .binOp _ _ _ _ _, _, _, _, _⟩ :: _) _ _ _; first | refine s_tt ?_ | refine s_ff ?_ | refine s_rdp ?_ | (refine s_cmp (fun _ => ?_) (fun _ => ?_) <;> (first | (exfalso; omega) | contradiction | skip)) | (refine s_cb (fun _ => ?_) (fun _ => ?_) <;> (first | (exfalso; omega) | contradiction | skip))) | refine s_rdp ?_ | refine s_rdm ?_ | refine s_exq ?_ | refine s_exm ?_) | (show Ex _ _ _ _ _; first | (show Ex _ ⟨_, .alloc _, _, _, _, _⟩ _ _ _; first | (refine e_allocA ?_; intro _) | (refine e_alloc1 ?_; intro _)) | (show Ex _ ⟨_, .box _ _, _, _, _, _⟩ _ _ _; first | (refine e_boxA ?_; intro _) | (refine e_box1 ?_; intro _)) | (show Ex _ ⟨_, .store _ _ _, _, _, _, _⟩ _ _ _; first | refine e_store1 ?_ | refine e_storeA ?_ | (refine e_storeO ?_; intro _ _))) | (show wpC _ _ _ _ _ _; first | refine wpC_seq ?_ | refine wpC_region ?_ | refine c_true ?_ | refine c_false ?_ | (refine c_b (fun _ => ?_) (fun _ => ?_) <;> (first | (exfalso; omega) | contradiction | skip)) | refine wpC_block ?_ | refine wpC_ret ?_ | refine wpC_skip ?_ | refine wpC_label ?_) | (show Then _ _ _ _ _ _ _; first | refine then_normal ?_ | refine then_ret ?_) | (show InBlock _ _ _ _ _ _; first | refine inBlock_normal ?_ | refine inBlock_ret ?_ | refine inBlock_same ?_ | refine b_other ?_) | (show RetP _ _ _ _ _ _ _ _; first | refine r_C1 ?_ | refine r_DC ?_))
    exact q_drop (h0 (fun h => hnot (hmem.1 h)))
  · rintro D z _ ⟨rfl, hm, rfl⟩
    simp only
    repeat' (first | (show wpO _ _ _ _ _ _ _; first | refine wpO_nil ?_ | (show wpO _ _ _ (⟨_, .binOp _ _ _ _ _, _, _, _, _⟩ :: _) _ _ _; first | refine s_tt ?_ | refine s_ff ?_ | refine s_rdp ?_ | (refine s_cmp (fun _ => ?_) (fun _ => ?_) <;> (first | (exfalso; omega) | contradiction | skip)) | (refine s_cb (fun _ => ?_) (fun _ => ?_) <;> (first | (exfalso; omega) | contradiction | skip))) | refine s_rdp ?_ | refine s_rdm ?_ | refine s_exq ?_ | refine s_exm ?_) | (show Ex _ _ _ _ _; first | (show Ex _ ⟨_, .alloc _, _, _, _, _⟩ _ _ _; first | (refine e_allocA ?_; intro _) | (refine e_alloc1 ?_; intro _)) | (show Ex _ ⟨_, .box _ _, _, _, _, _⟩ _ _ _; first | (refine e_boxA ?_; intro _) | (refine e_box1 ?_; intro _)) | (show Ex _ ⟨_, .store _ _ _, _, _, _, _⟩ _ _ _; first | refine e_store1 ?_ | refine e_storeA ?_ | (refine e_storeO ?_; intro _ _))) | (show wpC _ _ _ _ _ _; first | refine wpC_seq ?_ | refine wpC_region ?_ | refine c_true ?_ | refine c_false ?_ | (refine c_b (fun _ => ?_) (fun _ => ?_) <;> (first | (exfalso; omega) | contradiction | skip)) | refine wpC_block ?_ | refine wpC_ret ?_ | refine wpC_skip ?_ | refine wpC_label ?_) | (show Then _ _ _ _ _ _ _; first | refine then_normal ?_ | refine then_ret ?_) | (show InBlock _ _ _ _ _ _; first | refine inBlock_normal ?_ | refine inBlock_ret ?_ | refine inBlock_same ?_ | refine b_other ?_) | (show RetP _ _ _ _ _ _ _ _; first | refine r_C1 ?_ | refine r_DC ?_))
    exact q_drop (h1 (hmem.2 hm))
abbrev nowN : ByteArray := ⟨#[99, 107, 112, 116]⟩
abbrev newN : ByteArray := ⟨#[99, 107, 112, 116, 46, 110, 101, 119]⟩
set_option maxHeartbeats 4000000 in
set_option maxRecDepth 100000 in
theorem nowN_ok : okN nowN := ⟨by decide, by decide⟩
set_option maxHeartbeats 4000000 in
set_option maxRecDepth 100000 in
theorem newN_ok : okN newN := ⟨by decide, by decide⟩
set_option maxHeartbeats 4000000 in
set_option maxRecDepth 100000 in
theorem readA_cases (s : DS) : (s.down = true ∧ readA s nowN = ([], 7)) ∨ (s.down = false ∧ ((s.L.find? (fun a => decide (a.1 = nowN)) = none ∧ readA s nowN = ([], 4)) ∨ ∃ a, s.L.find? (fun a => decide (a.1 = nowN)) = some a ∧ readA s nowN = (a.2.1, 0))) := by
  unfold readA
  by_cases h : s.down = true
  · rw [if_pos h]; exact .inl ⟨h, rfl⟩
  · rw [if_neg h, if_neg (fun h2 => h2 nowN_ok)]
    refine .inr ⟨by simpa using h, ?_⟩
    split
    · exact .inl ⟨‹_›, rfl⟩
    · exact .inr ⟨_, ‹_›, rfl⟩
set_option maxHeartbeats 4000000 in
set_option maxRecDepth 100000 in
theorem state_D (e : World) {F : Hp} {d m : Nat} {x : Dk} {room : Int} {K : Value → Hp → Prop} (hx : x.ok room) (hb : tot x.l ≤ 140737488355328) (h7 : x.down = true → K (.int .i64 7) (x.hp d m room ++ F)) (h0 : x.down = false → K (.int .i64 0) (x.hp d m room ++ F)) :
    callsK Try.prog e 53 #[pv d] (x.hp d m room ++ F) K := by
  obtain ⟨bs, r, hr, hc⟩ : ∃ bs r, readA x.ds nowN = (bs, r) ∧ ((x.down = true ∧ r = 7) ∨ (x.down = false ∧ (r = 4 ∨ r = 0))) := by
    rcases readA_cases x.ds with ⟨h, h2⟩ | ⟨h, ⟨_, h2⟩ | ⟨a, _, h2⟩⟩
    · exact ⟨_, _, h2, .inl ⟨h, rfl⟩⟩
    · exact ⟨_, _, h2, .inr ⟨h, .inl rfl⟩⟩
    · exact ⟨_, _, h2, .inr ⟨h, .inr rfl⟩⟩
  refine calls_body (N := 13) (args := [pv d]) Try.func53 rfl rfl rfl (by simp) ?_
  rcases hc with ⟨h, rfl⟩ | ⟨h, rfl | rfl⟩
  · repeat' (first | (show wpO _ _ _ _ _ _ _; first | refine wpO_nil ?_ | (show wpO _ _ _ (⟨_, .binOp _ _ _ _ _, _, _, _, _⟩ :: _) _ _ _; first | refine s_tt ?_ | refine s_ff ?_ | refine s_rdp ?_ | (refine s_cmp (fun _ => ?_) (fun _ => ?_) <;> (first | (exfalso; omega) | contradiction | skip)) | (refine s_cb (fun _ => ?_) (fun _ => ?_) <;> (first | (exfalso; omega) | contradiction | skip))) | refine s_rdp ?_ | refine s_rdm ?_ | refine s_exq ?_ | refine s_exm ?_) | (show Ex _ _ _ _ _; first | (show Ex _ ⟨_, .call ⟨.value (.func _), _, _⟩, _, _, _, _⟩ _ _ _; refine e_call ?_; first | (apply p_pcs; apply read_E _ hx hb hr; (try case hS => assumption); (case hpcs => (repeat (first | exact Pcs.blk (by infer_instance) | exact Pcs.nil | (apply Pcs.cons; infer_instance) | apply Pcs.app)))))) | (show wpC _ _ _ _ _ _; first | refine wpC_seq ?_ | refine wpC_region ?_ | refine c_true ?_ | refine c_false ?_ | (refine c_b (fun _ => ?_) (fun _ => ?_) <;> (first | (exfalso; omega) | contradiction | skip)) | refine wpC_ret ?_ | refine wpC_skip ?_ | refine wpC_label ?_) | (show Then _ _ _ _ _ _ _; first | refine then_normal ?_ | refine then_ret ?_) | (show RetP _ _ _ _ _ _ _ _; first | refine r_1 ?_) | assumption | intro _)
    exact q_drop (h7 h)
  · repeat' (first | (show wpO _ _ _ _ _ _ _; first | refine wpO_nil ?_ | (show wpO _ _ _ (⟨_, .binOp _ _ _ _ _, _, _, _, _⟩ :: _) _ _ _; first | refine s_tt ?_ | refine s_ff ?_ | refine s_rdp ?_ | (refine s_cmp (fun _ => ?_) (fun _ => ?_) <;> (first | (exfalso; omega) | contradiction | skip)) | (refine s_cb (fun _ => ?_) (fun _ => ?_) <;> (first | (exfalso; omega) | contradiction | skip))) | refine s_rdp ?_ | refine s_rdm ?_ | refine s_exq ?_ | refine s_exm ?_) | (show Ex _ _ _ _ _; first | (show Ex _ ⟨_, .call ⟨.value (.func _), _, _⟩, _, _, _, _⟩ _ _ _; refine e_call ?_; first | (apply p_pcs; apply read_E _ hx hb hr; (try case hS => assumption); (case hpcs => (repeat (first | exact Pcs.blk (by infer_instance) | exact Pcs.nil | (apply Pcs.cons; infer_instance) | apply Pcs.app)))))) | (show wpC _ _ _ _ _ _; first | refine wpC_seq ?_ | refine wpC_region ?_ | refine c_true ?_ | refine c_false ?_ | (refine c_b (fun _ => ?_) (fun _ => ?_) <;> (first | (exfalso; omega) | contradiction | skip)) | refine wpC_ret ?_ | refine wpC_skip ?_ | refine wpC_label ?_) | (show Then _ _ _ _ _ _ _; first | refine then_normal ?_ | refine then_ret ?_) | (show RetP _ _ _ _ _ _ _ _; first | refine r_1 ?_) | assumption | intro _)
    exact q_drop (h0 h)
  · repeat' (first | (show wpO _ _ _ _ _ _ _; first | refine wpO_nil ?_ | (show wpO _ _ _ (⟨_, .binOp _ _ _ _ _, _, _, _, _⟩ :: _) _ _ _; first | refine s_tt ?_ | refine s_ff ?_ | refine s_rdp ?_ | (refine s_cmp (fun _ => ?_) (fun _ => ?_) <;> (first | (exfalso; omega) | contradiction | skip)) | (refine s_cb (fun _ => ?_) (fun _ => ?_) <;> (first | (exfalso; omega) | contradiction | skip))) | refine s_rdp ?_ | refine s_rdm ?_ | refine s_exq ?_ | refine s_exm ?_) | (show Ex _ _ _ _ _; first | (show Ex _ ⟨_, .call ⟨.value (.func _), _, _⟩, _, _, _, _⟩ _ _ _; refine e_call ?_; first | (apply p_pcs; apply read_E _ hx hb hr; (try case hS => assumption); (case hpcs => (repeat (first | exact Pcs.blk (by infer_instance) | exact Pcs.nil | (apply Pcs.cons; infer_instance) | apply Pcs.app)))))) | (show wpC _ _ _ _ _ _; first | refine wpC_seq ?_ | refine wpC_region ?_ | refine c_true ?_ | refine c_false ?_ | (refine c_b (fun _ => ?_) (fun _ => ?_) <;> (first | (exfalso; omega) | contradiction | skip)) | refine wpC_ret ?_ | refine wpC_skip ?_ | refine wpC_label ?_) | (show Then _ _ _ _ _ _ _; first | refine then_normal ?_ | refine then_ret ?_) | (show RetP _ _ _ _ _ _ _ _; first | refine r_1 ?_) | assumption | intro _)
    exact q_drop (h0 h)
noncomputable def clrA (s : DS) : Int × DS := by classical exact if hasA s.L newN then s.remove newN else (0, s)
set_option maxHeartbeats 4000000 in
set_option maxRecDepth 100000 in
theorem clear_D (e : World) {F : Hp} {d m : Nat} {x : Dk} {room : Int} {K : Value → Hp → Prop} (hx : x.ok room) (hb : tot x.l ≤ 140737488355328) (hK : ∀ x' : Dk, x'.ok room → x'.ds.E (clrA x.ds).2 → K (.int .i64 (clrA x.ds).1) (x'.hp d m room ++ F)) :
    callsK Try.prog e 55 #[pv d] (x.hp d m room ++ F) K := by
  unfold clrA at hK
  refine calls_body (N := 7) (args := [pv d]) Try.func55 rfl rfl rfl (by simp) ?_
  by_cases h : hasA x.ds.L newN
  · rw [if_pos h] at hK
    repeat' (first | (show wpO _ _ _ _ _ _ _; first | refine wpO_nil ?_ | refine s_rdp ?_ | refine s_rdm ?_ | refine s_exq ?_ | refine s_exm ?_) | (show Ex _ _ _ _ _; first | (show Ex _ ⟨_, .call ⟨.value (.func _), _, _⟩, _, _, _, _⟩ _ _ _; refine e_call ?_; first | (apply p_pcs; apply has_D _ hx; (try case hS => assumption); (case hpcs => (repeat (first | exact Pcs.blk (by infer_instance) | exact Pcs.nil | (apply Pcs.cons; infer_instance) | apply Pcs.app)))) | (apply p_pcs; apply remove_D _ hx hb; (try case hS => assumption); (case hpcs => (repeat (first | exact Pcs.blk (by infer_instance) | exact Pcs.nil | (apply Pcs.cons; infer_instance) | apply Pcs.app)))))) | (show wpC _ _ _ _ _ _; first | refine wpC_seq ?_ | refine wpC_region ?_ | refine c_true ?_ | refine c_false ?_ | (refine c_b (fun _ => ?_) (fun _ => ?_) <;> (first | (exfalso; omega) | contradiction | skip)) | refine wpC_ret ?_ | refine wpC_skip ?_ | refine wpC_label ?_) | (show Then _ _ _ _ _ _ _; first | refine then_normal ?_ | refine then_ret ?_) | (show RetP _ _ _ _ _ _ _ _; first | refine r_1 ?_) | assumption | intro _)
    all_goals first | (exfalso; exact absurd h ‹_›) | exact q_drop (hK _ ‹_› ‹_›) | trace_state
  · rw [if_neg h] at hK
    repeat' (first | (show wpO _ _ _ _ _ _ _; first | refine wpO_nil ?_ | refine s_rdp ?_ | refine s_rdm ?_ | refine s_exq ?_ | refine s_exm ?_) | (show Ex _ _ _ _ _; first | (show Ex _ ⟨_, .call ⟨.value (.func _), _, _⟩, _, _, _, _⟩ _ _ _; refine e_call ?_; first | (apply p_pcs; apply has_D _ hx; (try case hS => assumption); (case hpcs => (repeat (first | exact Pcs.blk (by infer_instance) | exact Pcs.nil | (apply Pcs.cons; infer_instance) | apply Pcs.app)))) | (apply p_pcs; apply remove_D _ hx hb; (try case hS => assumption); (case hpcs => (repeat (first | exact Pcs.blk (by infer_instance) | exact Pcs.nil | (apply Pcs.cons; infer_instance) | apply Pcs.app)))))) | (show wpC _ _ _ _ _ _; first | refine wpC_seq ?_ | refine wpC_region ?_ | refine c_true ?_ | refine c_false ?_ | (refine c_b (fun _ => ?_) (fun _ => ?_) <;> (first | (exfalso; omega) | contradiction | skip)) | refine wpC_ret ?_ | refine wpC_skip ?_ | refine wpC_label ?_) | (show Then _ _ _ _ _ _ _; first | refine then_normal ?_ | refine then_ret ?_) | (show RetP _ _ _ _ _ _ _ _; first | refine r_1 ?_) | assumption | intro _)
    all_goals first | (exfalso; exact h ‹_›) | exact q_drop (hK x hx (.rfl _)) | trace_state
end Go.Vl

/-
  The program's Save.
-/
namespace Go.Vl
open Go.Proofs Go.RowKit
def thenD (r : Int × DS) (f : DS → Int × DS) : Int × DS := if r.1 ≠ 0 then r else f r.2
noncomputable def putA (room : Int) (s : DS) (y : List UInt8) : Int × DS := thenD (thenD (thenD (clrA s) fun t => t.append room newN y) fun t => t.sync newN) fun t => t.rename newN nowN
noncomputable def saveA (room : Int) (s : DS) (slot : Int) (bs : List UInt8) : Int × DS :=
  if (encP slot bs).2 ≠ 0 then ((encP slot bs).2, s) else if s.down = true then (7, s) else putA room s (encP slot bs).1
set_option maxHeartbeats 4000000 in
set_option maxRecDepth 100000 in
theorem then_err {r : Int × DS} {f : DS → Int × DS} (h : r.1 ≠ 0) : thenD r f = r := if_pos h
set_option maxHeartbeats 4000000 in
set_option maxRecDepth 100000 in
theorem then_ok {r : Int × DS} {f : DS → Int × DS} (h : r.1 = 0) : thenD r f = f r.2 := if_neg (fun h2 => h2 h)
set_option maxHeartbeats 4000000 in
set_option maxRecDepth 100000 in
theorem run_ok {room : Int} {s : DS} (h : s.ok room) (o : OpD) (hk : o.k = 0) : (s.run room o).2.ok room := h.run o (by rw [hk]; decide)
set_option maxHeartbeats 4000000 in
set_option maxRecDepth 100000 in
theorem rem_ok {room : Int} {s : DS} (h : s.ok room) (n : ByteArray) : (s.remove n).2.ok room ∧ totA (s.remove n).2.L ≤ totA s.L := by
  have h1 := run_ok h ⟨3, n, n, none, 0, [], 0, 0⟩ rfl
  have h2 := DS.run_tot (room := room) s ⟨3, n, n, none, 0, [], 0, 0⟩
  exact ⟨h1, h2⟩
set_option maxHeartbeats 4000000 in
set_option maxRecDepth 100000 in
theorem syn_ok {room : Int} {s : DS} (h : s.ok room) (n : ByteArray) : (s.sync n).2.ok room ∧ totA (s.sync n).2.L ≤ totA s.L := by
  have h1 := run_ok h ⟨1, n, n, none, 0, [], 0, 0⟩ rfl
  have h2 := DS.run_tot (room := room) s ⟨1, n, n, none, 0, [], 0, 0⟩
  exact ⟨h1, h2⟩
set_option maxHeartbeats 4000000 in
set_option maxRecDepth 100000 in
theorem ren_ok {room : Int} {s : DS} (h : s.ok room) (n m : ByteArray) : (s.rename n m).2.ok room ∧ totA (s.rename n m).2.L ≤ totA s.L := by
  have h1 := run_ok h ⟨4, n, m, none, 0, [], 0, 0⟩ rfl
  have h2 := DS.run_tot (room := room) s ⟨4, n, m, none, 0, [], 0, 0⟩
  exact ⟨h1, h2⟩
set_option maxHeartbeats 4000000 in
set_option maxRecDepth 100000 in
theorem app_ok {room : Int} {s : DS} (h : s.ok room) (n : ByteArray) (bs : List UInt8) : (s.append room n bs).2.ok room ∧ totA (s.append room n bs).2.L ≤ totA s.L + bs.length := by
  have h1 := run_ok h ⟨0, n, n, none, 0, bs, 0, 0⟩ rfl
  have h2 := DS.run_tot (room := room) s ⟨0, n, n, none, 0, bs, 0, 0⟩
  exact ⟨h1, h2⟩
set_option maxHeartbeats 4000000 in
set_option maxRecDepth 100000 in
theorem clr_ok {room : Int} {s : DS} (h : s.ok room) : (clrA s).2.ok room ∧ totA (clrA s).2.L ≤ totA s.L := by
  unfold clrA
  split
  · exact rem_ok h _
  · exact ⟨h, Nat.le_refl _⟩
set_option maxHeartbeats 4000000 in
set_option maxRecDepth 100000 in
theorem clr_E {s t : DS} (h : s.E t) : (clrA s).1 = (clrA t).1 ∧ (clrA s).2.E (clrA t).2 := by
  unfold clrA
  rw [propext (hasA_perm h.L newN)]
  split
  · exact DS.remove_E h _
  · exact ⟨rfl, h⟩
set_option maxHeartbeats 4000000 in
set_option maxRecDepth 100000 in
theorem enc_bytes (slot : Int) (bs : List UInt8) : (encP slot bs).1.length ≤ 1048600 := by
  unfold encP
  split
  · exact Nat.zero_le _
  · split
    · exact Nat.zero_le _
    · have hel := enc_len (slot := slot) (data := bs) (by omega) (by omega) (by omega)
      have hlb := lenB_len (bs := vb (zz slot) ++ lenB bs) (by omega)
      show (frameP _).length ≤ _
      unfold frameP
      rw [List.length_append]
      have : (fourP (sumP (vb (zz slot) ++ lenB bs))).length = 4 := rfl
      omega
attribute [local irreducible] wpC wpO wpD Ex Rd callsK RetP Drop valK
abbrev dbx (b d : Nat) : Hp := [(b, cellsO [pv d] 24)]
set_option maxHeartbeats 4000000 in
set_option maxRecDepth 100000 in
theorem save1_D (e : World) {F : Hp} {b d m : Nat} {x : Dk} {room : Int} {K : Value → Hp → Prop} (hx : x.ok room) (hb : tot x.l ≤ 140737488355328) (h7 : x.down = true → K (.int .i64 7) ((dbx b d ++ x.hp d m room) ++ F)) (h0 : x.down = false → K (.int .i64 0) ((dbx b d ++ x.hp d m room) ++ F)) :
    callsK Try.prog e 52 #[pv b] ((dbx b d ++ x.hp d m room) ++ F) K := by
  refine calls_body (N := 4) (args := [pv b]) Try.func52 rfl rfl rfl (by simp) ?_
  repeat' (first | (show wpO _ _ _ _ _ _ _; first | refine wpO_nil ?_ | refine s_rdp ?_ | refine s_rdm ?_ | refine s_exq ?_ | refine s_exm ?_) | (show Ex _ _ _ _ _; first | (show Ex _ ⟨_, .call ⟨.value (.func _), _, _⟩, _, _, _, _⟩ _ _ _; refine e_call ?_; first | (apply p_pcs; apply state_D _ hx hb; (try case hS => assumption); (case hpcs => (repeat (first | exact Pcs.blk (by infer_instance) | exact Pcs.nil | (apply Pcs.cons; infer_instance) | apply Pcs.app)))))) | (show wpC _ _ _ _ _ _; first | refine wpC_seq ?_ | refine wpC_region ?_ | refine wpC_ret ?_ | refine wpC_skip ?_ | refine wpC_label ?_) | (show Then _ _ _ _ _ _ _; first | refine then_normal ?_ | refine then_ret ?_) | (show RetP _ _ _ _ _ _ _ _; first | refine r_1 ?_) | assumption | intro _)
  all_goals first | exact q_drop (h7 ‹_›) | exact q_drop (h0 ‹_›)
set_option maxHeartbeats 4000000 in
set_option maxRecDepth 100000 in
theorem save2_D (e : World) {F : Hp} {b d m : Nat} {x : Dk} {room : Int} {K : Value → Hp → Prop} (hx : x.ok room) (hb : tot x.l ≤ 140737488355328) (hK : ∀ x' : Dk, x'.ok room → x'.ds.E (clrA x.ds).2 → K (.int .i64 (clrA x.ds).1) ((dbx b d ++ x'.hp d m room) ++ F)) :
    callsK Try.prog e 54 #[pv b] ((dbx b d ++ x.hp d m room) ++ F) K := by
  refine calls_body (N := 4) (args := [pv b]) Try.func54 rfl rfl rfl (by simp) ?_
  repeat' (first | (show wpO _ _ _ _ _ _ _; first | refine wpO_nil ?_ | refine s_rdp ?_ | refine s_rdm ?_ | refine s_exq ?_ | refine s_exm ?_) | (show Ex _ _ _ _ _; first | (show Ex _ ⟨_, .call ⟨.value (.func _), _, _⟩, _, _, _, _⟩ _ _ _; refine e_call ?_; first | (apply p_pcs; apply clear_D _ hx hb; (try case hS => assumption); (case hpcs => (repeat (first | exact Pcs.blk (by infer_instance) | exact Pcs.nil | (apply Pcs.cons; infer_instance) | apply Pcs.app)))))) | (show wpC _ _ _ _ _ _; first | refine wpC_seq ?_ | refine wpC_region ?_ | refine wpC_ret ?_ | refine wpC_skip ?_ | refine wpC_label ?_) | (show Then _ _ _ _ _ _ _; first | refine then_normal ?_ | refine then_ret ?_) | (show RetP _ _ _ _ _ _ _ _; first | refine r_1 ?_) | assumption | intro _)
  all_goals exact q_drop (hK _ ‹_› ‹_›)
set_option maxHeartbeats 4000000 in
set_option maxRecDepth 100000 in
theorem save3_D (e : World) {F Fn : Hp} {b c d m : Nat} {v : Value} {bs : List UInt8} {x : Dk} {room : Int} {K : Value → Hp → Prop} (hx : x.ok room) (hr : room ≤ 9223372036854775807) (hin : InSl Fn 1 (bs.map byC) v) (hb : bs.length ≤ 9223372036854775807) (hcap : (bs.length : Int) + tot x.l ≤ room → bs.length + tot x.l ≤ 140737488355328)
    (hK : ∀ x' : Dk, x'.ok room → x'.ds.E (x.ds.append room newN bs).2 → K (.int .i64 (x.ds.append room newN bs).1) ((dbx b d ++ ([(c, cellsO [v] 22)] ++ (Fn ++ x'.hp d m room))) ++ F)) :
    callsK Try.prog e 56 #[pv b, pv c] ((dbx b d ++ ([(c, cellsO [v] 22)] ++ (Fn ++ x.hp d m room))) ++ F) K := by
  obtain ⟨a1, c1, rfl⟩ := inSl_valB hin
  refine calls_body (N := 6) (args := [pv b, pv c]) Try.func56 rfl rfl rfl (by simp) ?_
  repeat' (first | (show wpO _ _ _ _ _ _ _; first | refine wpO_nil ?_ | refine s_rdp ?_ | refine s_rdm ?_ | refine s_exq ?_ | refine s_exm ?_) | (show Ex _ _ _ _ _; first | (show Ex _ ⟨_, .call ⟨.value (.func _), _, _⟩, _, _, _, _⟩ _ _ _; refine e_call ?_; first | (apply p_pcs; apply append_D _ hx hr hin hb hcap; (try case hS => assumption); (case hpcs => (repeat (first | exact Pcs.blk (by infer_instance) | exact Pcs.nil | (apply Pcs.cons; infer_instance) | apply Pcs.app)))))) | (show wpC _ _ _ _ _ _; first | refine wpC_seq ?_ | refine wpC_region ?_ | refine wpC_ret ?_ | refine wpC_skip ?_ | refine wpC_label ?_) | (show Then _ _ _ _ _ _ _; first | refine then_normal ?_ | refine then_ret ?_) | (show RetP _ _ _ _ _ _ _ _; first | refine r_1 ?_) | assumption | intro _)
  all_goals exact q_drop (hK _ ‹_› ‹_›)
set_option maxHeartbeats 4000000 in
set_option maxRecDepth 100000 in
theorem save4_D (e : World) {F : Hp} {b d m : Nat} {x : Dk} {room : Int} {K : Value → Hp → Prop} (hx : x.ok room) (hb : tot x.l ≤ 140737488355328) (hK : ∀ x' : Dk, x'.ok room → x'.ds.E (x.ds.sync newN).2 → K (.int .i64 (x.ds.sync newN).1) ((dbx b d ++ x'.hp d m room) ++ F)) :
    callsK Try.prog e 57 #[pv b] ((dbx b d ++ x.hp d m room) ++ F) K := by
  refine calls_body (N := 4) (args := [pv b]) Try.func57 rfl rfl rfl (by simp) ?_
  repeat' (first | (show wpO _ _ _ _ _ _ _; first | refine wpO_nil ?_ | refine s_rdp ?_ | refine s_rdm ?_ | refine s_exq ?_ | refine s_exm ?_) | (show Ex _ _ _ _ _; first | (show Ex _ ⟨_, .call ⟨.value (.func _), _, _⟩, _, _, _, _⟩ _ _ _; refine e_call ?_; first | (apply p_pcs; apply sync_D _ hx hb; (try case hS => assumption); (case hpcs => (repeat (first | exact Pcs.blk (by infer_instance) | exact Pcs.nil | (apply Pcs.cons; infer_instance) | apply Pcs.app)))))) | (show wpC _ _ _ _ _ _; first | refine wpC_seq ?_ | refine wpC_region ?_ | refine wpC_ret ?_ | refine wpC_skip ?_ | refine wpC_label ?_) | (show Then _ _ _ _ _ _ _; first | refine then_normal ?_ | refine then_ret ?_) | (show RetP _ _ _ _ _ _ _ _; first | refine r_1 ?_) | assumption | intro _)
  all_goals exact q_drop (hK _ ‹_› ‹_›)
set_option maxHeartbeats 4000000 in
set_option maxRecDepth 100000 in
theorem save5_D (e : World) {F : Hp} {b d m : Nat} {x : Dk} {room : Int} {K : Value → Hp → Prop} (hx : x.ok room) (hK : ∀ x' : Dk, x'.ok room → x'.ds.E (x.ds.rename newN nowN).2 → K (.int .i64 (x.ds.rename newN nowN).1) ((dbx b d ++ x'.hp d m room) ++ F)) :
    callsK Try.prog e 58 #[pv b] ((dbx b d ++ x.hp d m room) ++ F) K := by
  refine calls_body (N := 4) (args := [pv b]) Try.func58 rfl rfl rfl (by simp) ?_
  repeat' (first | (show wpO _ _ _ _ _ _ _; first | refine wpO_nil ?_ | refine s_rdp ?_ | refine s_rdm ?_ | refine s_exq ?_ | refine s_exm ?_) | (show Ex _ _ _ _ _; first | (show Ex _ ⟨_, .call ⟨.value (.func _), _, _⟩, _, _, _, _⟩ _ _ _; refine e_call ?_; first | (apply p_pcs; apply rename_D _ hx; (try case hS => assumption); (case hpcs => (repeat (first | exact Pcs.blk (by infer_instance) | exact Pcs.nil | (apply Pcs.cons; infer_instance) | apply Pcs.app)))))) | (show wpC _ _ _ _ _ _; first | refine wpC_seq ?_ | refine wpC_region ?_ | refine wpC_ret ?_ | refine wpC_skip ?_ | refine wpC_label ?_) | (show Then _ _ _ _ _ _ _; first | refine then_normal ?_ | refine then_ret ?_) | (show RetP _ _ _ _ _ _ _ _; first | refine r_1 ?_) | assumption | intro _)
  all_goals exact q_drop (hK _ ‹_› ‹_›)
end Go.Vl

/-
  The program's Save.
-/
namespace Go.Vl
open Go.Proofs Go.RowKit
set_option maxHeartbeats 4000000 in
set_option maxRecDepth 100000 in
theorem callsK_dropK {P : Program} {e : World} {f : FuncId} {args : Array Value} {H : Hp} {K : Value → Hp → Prop} (h : callsK P e f args H (Drop K)) : callsK P e f args H K := fun w hw => CallsIn.mono (h w hw) fun x w' hx => by
  cases x with
  | returned v => obtain ⟨H', k, R', G, hp, hk⟩ := hx; exact ⟨R', (k.perm hp).left, hk⟩
  | _ => exact hx
attribute [local irreducible] wpC wpO wpD Ex Rd callsK RetP Drop valK
abbrev svF (f : FuncId) (b : Nat) : Value := .func (.func f) #[] #[pv b]
abbrev sv3 (b c : Nat) : Value := .func (.func 56) #[] #[pv b, pv c]
abbrev svL (b c : Nat) : List Value := [svF 52 b, svF 54 b, sv3 b c, svF 57 b, svF 58 b]
set_option maxHeartbeats 4000000 in
set_option maxRecDepth 100000 in
theorem saveall_D (e : World) {y : List UInt8} {v : Value} {By F : Hp} {b3 b7 bk d m : Nat} {x : Dk} {room : Int} {K : Value → Hp → Prop} (hx : x.ok room) (hr : room ≤ 9223372036854775807) (hin : InSl By 1 (y.map byC) v) (hyl : y.length ≤ 1048600) (hcap : tot x.l + 1048600 ≤ 140737488355328)
    (h7 : x.down = true → K (.int .i64 7) (x.hp d m room ++ F)) (h0 : x.down = false → ∀ x' : Dk, x'.ok room → x'.ds.E (putA room x.ds y).2 → K (.int .i64 (putA room x.ds y).1) (x'.hp d m room ++ F)) :
    callsK Try.prog e 51 #[.slice (some ⟨bk, 0, none⟩) 5 5] (([(bk, cellsO (svL b3 b7) 51)] ++ (dbx b3 d ++ ([(b7, cellsO [v] 22)] ++ (By ++ x.hp d m room)))) ++ F) K := by
  have ht : tot x.l = totA x.ds.L := tot_totA x.l
  have hf1 : ∀ f ∈ svL b3 b7, f.oneCell' = true := by
    intro f hf
    simp only [List.mem_cons, List.not_mem_nil, or_false] at hf
    rcases hf with rfl | rfl | rfl | rfl | rfl <;> rfl
  refine callsK_dropK (p_pcs (first_spec (fs := svL b3 b7) (bk := bk) (H := (dbx b3 d ++ ([(b7, cellsO [v] 22)] ++ (By ++ x.hp d m room))) ++ F) e hf1 (by simp) ?_) (R := (dbx b3 d ++ ([(b7, cellsO [v] 22)] ++ (By ++ x.hp d m room))) ++ F) (by (repeat (first | exact Pcs.blk (by infer_instance) | exact Pcs.nil | (apply Pcs.cons; infer_instance) | apply Pcs.app))))
  simp only [firstK]
  refine val_func rfl (by kernel_rfl) rfl ?_
  apply p_pcs
  apply (save1_D _ hx (by omega))
  (case hpcs => (repeat (first | exact Pcs.blk (by infer_instance) | exact Pcs.nil | (apply Pcs.cons; infer_instance) | apply Pcs.app)))
  · intro hd
    exact ⟨7, dbx b3 d ++ (x.hp d m room ++ F), rfl, q_drp, fun _ => q_drop (h7 hd), fun h => absurd h (by decide)⟩
  intro hd
  refine ⟨0, dbx b3 d ++ (x.hp d m room ++ ([(b7, cellsO [v] 22)] ++ (By ++ F))), rfl, q_drp, fun h => absurd rfl h, fun _ => ?_⟩
  have hK := h0 hd
  unfold putA at hK
  obtain ⟨k1, t1⟩ := clr_ok hx.s
  refine val_func rfl (by kernel_rfl) rfl ?_
  apply p_pcs
  apply (save2_D _ hx (by omega))
  (case hpcs => (repeat (first | exact Pcs.blk (by infer_instance) | exact Pcs.nil | (apply Pcs.cons; infer_instance) | apply Pcs.app)))
  intro x1 hx1 hE1
  have e1 := hE1.L
  generalize hc1 : clrA x.ds = r1 at *
  refine ⟨r1.1, dbx b3 d ++ (x1.hp d m room ++ ([(b7, cellsO [v] 22)] ++ (By ++ F))), rfl, q_drp, fun hne => ?_, fun heq => ?_⟩
  · have := hK x1 hx1
    rw [then_err (r := r1) hne, then_err (r := r1) hne, then_err (r := r1) hne] at this
    exact q_drop (this hE1)
  rw [then_ok (r := r1) heq] at hK
  have u1 : tot x1.l = totA r1.2.L := by rw [tot_totA]; exact totA_perm e1
  obtain ⟨k2, t2⟩ := app_ok k1 newN y
  obtain ⟨a2, b2⟩ := DS.append_E (room := room) hE1 hx1.s.names newN y
  refine val_func rfl (by kernel_rfl) rfl ?_
  apply p_pcs
  apply (save3_D _ hx1 hr hin (by omega) (fun _ => by omega))
  (case hpcs => (repeat (first | exact Pcs.blk (by infer_instance) | exact Pcs.nil | (apply Pcs.cons; infer_instance) | apply Pcs.app)))
  intro x2 hx2 hE2
  rw [a2]
  have hE2 := hE2.trans b2
  generalize r1.2.append room newN y = r2 at *
  refine ⟨r2.1, dbx b3 d ++ (x2.hp d m room ++ F), rfl, q_drp, fun hne => ?_, fun heq => ?_⟩
  · have := hK x2 hx2
    rw [then_err (r := r2) hne, then_err (r := r2) hne] at this
    exact q_drop (this hE2)
  rw [then_ok (r := r2) heq] at hK
  have u2 : tot x2.l = totA r2.2.L := by rw [tot_totA]; exact totA_perm hE2.L
  obtain ⟨k3, t3⟩ := syn_ok k2 newN
  obtain ⟨a3, b3'⟩ := DS.sync_E hE2 newN
  refine val_func rfl (by kernel_rfl) rfl ?_
  apply p_pcs
  apply (save4_D _ hx2 (by omega))
  (case hpcs => (repeat (first | exact Pcs.blk (by infer_instance) | exact Pcs.nil | (apply Pcs.cons; infer_instance) | apply Pcs.app)))
  intro x3 hx3 hE3
  rw [a3]
  have hE3 := hE3.trans b3'
  generalize r2.2.sync newN = r3 at *
  refine ⟨r3.1, dbx b3 d ++ (x3.hp d m room ++ F), rfl, q_drp, fun hne => ?_, fun heq => ?_⟩
  · have := hK x3 hx3
    rw [then_err (r := r3) hne] at this
    exact q_drop (this hE3)
  rw [then_ok (r := r3) heq] at hK
  obtain ⟨a4, b4⟩ := DS.rename_E hE3 newN nowN
  refine val_func rfl (by kernel_rfl) rfl ?_
  apply p_pcs
  apply (save5_D _ hx3)
  (case hpcs => (repeat (first | exact Pcs.blk (by infer_instance) | exact Pcs.nil | (apply Pcs.cons; infer_instance) | apply Pcs.app)))
  intro x4 hx4 hE4
  rw [a4]
  have hE4 := hE4.trans b4
  generalize r3.2.rename newN nowN = r4 at *
  refine ⟨r4.1, dbx b3 d ++ (x4.hp d m room ++ F), rfl, q_drp, fun hne => q_drop (hK x4 hx4 hE4), fun heq => ?_⟩
  have := hK x4 hx4 hE4
  rw [heq] at this
  exact q_drop this
set_option maxHeartbeats 4000000 in
set_option maxRecDepth 100000 in
theorem save_D (e : World) {slot : Int} {bs : List UInt8} {v : Value} {Fn F : Hp} {d m : Nat} {x : Dk} {room : Int} {K : Value → Hp → Prop} (hx : x.ok room) (hr : room ≤ 9223372036854775807) (hin : InSl Fn 1 (bs.map byC) v) (hl : bs.length ≤ 140737488355000) (hcap : tot x.l + 1048600 ≤ 140737488355328)
    (hK : ∀ x' : Dk, x'.ok room → x'.ds.E (saveA room x.ds slot bs).2 → K (.int .i64 (saveA room x.ds slot bs).1) ((x'.hp d m room ++ Fn) ++ F)) :
    callsK Try.prog e 24 #[pv d, .int .i64 slot, v] ((x.hp d m room ++ Fn) ++ F) K := by
  obtain ⟨a, c, rfl⟩ := inSl_valB hin
  have hyl := enc_bytes slot bs
  have ht : tot x.l = totA x.ds.L := tot_totA x.l
  unfold saveA at hK
  refine calls_body (N := 25) (args := [pv d, .int .i64 slot, .slice a bs.length c]) Try.func24 rfl rfl rfl (by simp) ?_
  repeat' ((fail_if_success (show Ex _ ⟨none, _, _, _, _, _⟩ _ _ _)); first | (show wpO _ _ _ _ _ _ _; first | refine wpO_nil ?_ | (show wpO _ _ _ (⟨_, .binOp _ _ _ _ _, _, _, _, _⟩ :: _) _ _ _; first | refine s_tt ?_ | refine s_ff ?_ | refine s_rdp ?_ | (refine s_cmp (fun _ => ?_) (fun _ => ?_) <;> (first | (exfalso; omega) | contradiction | skip)) | (refine s_cb (fun _ => ?_) (fun _ => ?_) <;> (first | (exfalso; omega) | contradiction | skip))) | refine s_rdp ?_ | refine s_rdm ?_ | refine s_exq ?_ | refine s_exm ?_) | (show Ex _ _ _ _ _; first | (show Ex _ ⟨_, .call ⟨.value (.func _), _, _⟩, _, _, _, _⟩ _ _ _; refine e_call ?_; first | (apply p_pcs; apply encode_spec _ hin hl; (try case hS => assumption); (case hpcs => (repeat (first | exact Pcs.blk (by infer_instance) | exact Pcs.nil | (apply Pcs.cons; infer_instance) | apply Pcs.app))))) | (show Ex _ ⟨_, .alloc _, _, _, _, _⟩ _ _ _; first | (refine e_allocA ?_; intro _) | (refine e_alloc1 ?_; intro _)) | (show Ex _ ⟨_, .box _ _, _, _, _, _⟩ _ _ _; first | (refine e_boxA ?_; intro _) | (refine e_box1 ?_; intro _)) | (show Ex _ ⟨_, .store _ _ _, _, _, _, _⟩ _ _ _; first | refine e_store1 ?_ | refine e_storeA ?_ | (refine e_storeO ?_; intro _ _)) | (show Ex _ ⟨_, .buildSlice _ _ _, _, _, _, _⟩ _ _ _; first | (refine e_buildSlice ?_; intro _) | (refine e_buildNil ?_; intro _ _ _))) | (show wpC _ _ _ _ _ _; first | refine wpC_seq ?_ | refine wpC_region ?_ | refine c_true ?_ | refine c_false ?_ | (refine c_b (fun _ => ?_) (fun _ => ?_) <;> (first | (exfalso; omega) | contradiction | skip)) | refine wpC_ret ?_ | refine wpC_skip ?_ | refine wpC_label ?_) | (show Then _ _ _ _ _ _ _; first | refine then_normal ?_ | refine then_ret ?_) | (show RetP _ _ _ _ _ _ _ _; first | refine r_1 ?_) | assumption | intro _)
  rename_i b3 vy By gy b7
  obtain ⟨ya, yc, rfl⟩ := SlO.val gy
  have gyi := bytIn gy
  generalize encP slot bs = y at *
  obtain ⟨y, er⟩ := y
  simp only at hK gy gyi hyl ⊢
  by_cases h1 : er ≠ 0
  · rw [if_pos h1] at hK
    repeat' (first | (show wpO _ _ _ _ _ _ _; first | refine wpO_nil ?_ | (show wpO _ _ _ (⟨_, .binOp _ _ _ _ _, _, _, _, _⟩ :: _) _ _ _; first | refine s_tt ?_ | refine s_ff ?_ | refine s_rdp ?_ | (refine s_cmp (fun _ => ?_) (fun _ => ?_) <;> (first | (exfalso; omega) | contradiction | skip)) | (refine s_cb (fun _ => ?_) (fun _ => ?_) <;> (first | (exfalso; omega) | contradiction | skip))) | refine s_rdp ?_ | refine s_rdm ?_ | refine s_exq ?_ | refine s_exm ?_) | (show Ex _ _ _ _ _; first | (show Ex _ ⟨_, .alloc _, _, _, _, _⟩ _ _ _; first | (refine e_allocA ?_; intro _) | (refine e_alloc1 ?_; intro _)) | (show Ex _ ⟨_, .box _ _, _, _, _, _⟩ _ _ _; first | (refine e_boxA ?_; intro _) | (refine e_box1 ?_; intro _)) | (show Ex _ ⟨_, .store _ _ _, _, _, _, _⟩ _ _ _; first | refine e_store1 ?_ | refine e_storeA ?_ | (refine e_storeO ?_; intro _ _)) | (show Ex _ ⟨_, .buildSlice _ _ _, _, _, _, _⟩ _ _ _; first | (refine e_buildSlice ?_; intro _) | (refine e_buildNil ?_; intro _ _ _))) | (show wpC _ _ _ _ _ _; first | refine wpC_seq ?_ | refine wpC_region ?_ | refine c_true ?_ | refine c_false ?_ | (refine c_b (fun _ => ?_) (fun _ => ?_) <;> (first | (exfalso; omega) | contradiction | skip)) | refine wpC_ret ?_ | refine wpC_skip ?_ | refine wpC_label ?_) | (show Then _ _ _ _ _ _ _; first | refine then_normal ?_ | refine then_ret ?_) | (show RetP _ _ _ _ _ _ _ _; first | refine r_1 ?_))
    all_goals first | exact q_drop (hK x hx (.rfl _)) | (exfalso; omega) | trace_state
  · rw [if_neg h1] at hK
    repeat' (first | (show wpO _ _ _ _ _ _ _; first | refine wpO_nil ?_ | (show wpO _ _ _ (⟨_, .binOp _ _ _ _ _, _, _, _, _⟩ :: _) _ _ _; first | refine s_tt ?_ | refine s_ff ?_ | refine s_rdp ?_ | (refine s_cmp (fun _ => ?_) (fun _ => ?_) <;> (first | (exfalso; omega) | contradiction | skip)) | (refine s_cb (fun _ => ?_) (fun _ => ?_) <;> (first | (exfalso; omega) | contradiction | skip))) | refine s_rdp ?_ | refine s_rdm ?_ | refine s_exq ?_ | refine s_exm ?_) | (show Ex _ _ _ _ _; first | (show Ex _ ⟨_, .call ⟨.value (.func _), _, _⟩, _, _, _, _⟩ _ _ _; refine e_call ?_; first | (apply p_pcs; apply saveall_D _ hx hr gyi hyl hcap; (try case hS => assumption); (case hpcs => (repeat (first | exact Pcs.blk (by infer_instance) | exact Pcs.nil | (apply Pcs.cons; infer_instance) | apply Pcs.app))))) | (show Ex _ ⟨_, .alloc _, _, _, _, _⟩ _ _ _; first | (refine e_allocA ?_; intro _) | (refine e_alloc1 ?_; intro _)) | (show Ex _ ⟨_, .box _ _, _, _, _, _⟩ _ _ _; first | (refine e_boxA ?_; intro _) | (refine e_box1 ?_; intro _)) | (show Ex _ ⟨_, .store _ _ _, _, _, _, _⟩ _ _ _; first | refine e_store1 ?_ | refine e_storeA ?_ | (refine e_storeO ?_; intro _ _)) | (show Ex _ ⟨_, .buildSlice _ _ _, _, _, _, _⟩ _ _ _; first | (refine e_buildSlice ?_; intro _) | (refine e_buildNil ?_; intro _ _ _))) | (show wpC _ _ _ _ _ _; first | refine wpC_seq ?_ | refine wpC_region ?_ | refine c_true ?_ | refine c_false ?_ | (refine c_b (fun _ => ?_) (fun _ => ?_) <;> (first | (exfalso; omega) | contradiction | skip)) | refine wpC_ret ?_ | refine wpC_skip ?_ | refine wpC_label ?_) | (show Then _ _ _ _ _ _ _; first | refine then_normal ?_ | refine then_ret ?_) | (show RetP _ _ _ _ _ _ _ _; first | refine r_1 ?_) | assumption | intro _)
    all_goals first | (exfalso; omega) | skip
    · rename_i hd
      rw [if_pos hd] at hK
      exact q_drop (hK x hx (.rfl _))
    · rename_i hd x' hx' hE'
      rw [if_neg (show ¬ x.ds.down = true from by rw [show x.ds.down = false from hd]; decide)] at hK
      exact q_drop (hK x' hx' hE')
end Go.Vl

/-
  The program's Load.
-/
namespace Go.Vl
open Go.Proofs Go.RowKit
noncomputable def loadA (s : DS) : (Int × List UInt8 × Int) × DS :=
  if s.down = true then ((0, [], 7), s) else if (clrA s).1 ≠ 0 then ((0, [], (clrA s).1), (clrA s).2)
  else if (readA (clrA s).2 nowN).2 ≠ 0 then ((0, [], (readA (clrA s).2 nowN).2), (clrA s).2) else (decP (readA (clrA s).2 nowN).1, (clrA s).2)
set_option maxHeartbeats 4000000 in
set_option maxRecDepth 100000 in
theorem mem_totA {a : Ab} : ∀ {L : List Ab}, a ∈ L → a.2.1.length ≤ totA L
  | b :: L, h => by
    rw [totA_cons]
    rcases List.mem_cons.1 h with rfl | h
    · omega
    · have := mem_totA h
      omega
set_option maxHeartbeats 4000000 in
set_option maxRecDepth 100000 in
theorem readA_len (s : DS) (n : ByteArray) : (readA s n).1.length ≤ totA s.L := by
  unfold readA
  split
  · exact Nat.zero_le _
  · split
    · exact Nat.zero_le _
    · split
      · exact Nat.zero_le _
      · exact mem_totA (List.mem_of_find?_eq_some ‹_›)
attribute [local irreducible] wpC wpO wpD Ex Rd callsK RetP Drop valK
set_option maxHeartbeats 4000000 in
set_option maxRecDepth 100000 in
theorem load1_D (e : World) {F : Hp} {b d m : Nat} {x : Dk} {room : Int} {K : Value → Hp → Prop} (hx : x.ok room) (hb : tot x.l ≤ 140737488355328) (h7 : x.down = true → K (.int .i64 7) ((dbx b d ++ x.hp d m room) ++ F)) (h0 : x.down = false → K (.int .i64 0) ((dbx b d ++ x.hp d m room) ++ F)) :
    callsK Try.prog e 78 #[pv b] ((dbx b d ++ x.hp d m room) ++ F) K := by
  refine calls_body (N := 4) (args := [pv b]) Try.func78 rfl rfl rfl (by simp) ?_
  repeat' (first | (show wpO _ _ _ _ _ _ _; first | refine wpO_nil ?_ | refine s_rdp ?_ | refine s_rdm ?_ | refine s_exq ?_ | refine s_exm ?_) | (show Ex _ _ _ _ _; first | (show Ex _ ⟨_, .call ⟨.value (.func _), _, _⟩, _, _, _, _⟩ _ _ _; refine e_call ?_; first | (apply p_pcs; apply state_D _ hx hb; (try case hS => assumption); (case hpcs => (repeat (first | exact Pcs.blk (by infer_instance) | exact Pcs.nil | (apply Pcs.cons; infer_instance) | apply Pcs.app)))))) | (show wpC _ _ _ _ _ _; first | refine wpC_seq ?_ | refine wpC_region ?_ | refine wpC_ret ?_ | refine wpC_skip ?_ | refine wpC_label ?_) | (show Then _ _ _ _ _ _ _; first | refine then_normal ?_ | refine then_ret ?_) | (show RetP _ _ _ _ _ _ _ _; first | refine r_1 ?_) | assumption | intro _)
  all_goals first | exact q_drop (h7 ‹_›) | exact q_drop (h0 ‹_›)
set_option maxHeartbeats 4000000 in
set_option maxRecDepth 100000 in
theorem load2_D (e : World) {F : Hp} {b d m : Nat} {x : Dk} {room : Int} {K : Value → Hp → Prop} (hx : x.ok room) (hb : tot x.l ≤ 140737488355328) (hK : ∀ x' : Dk, x'.ok room → x'.ds.E (clrA x.ds).2 → K (.int .i64 (clrA x.ds).1) ((dbx b d ++ x'.hp d m room) ++ F)) :
    callsK Try.prog e 79 #[pv b] ((dbx b d ++ x.hp d m room) ++ F) K := by
  refine calls_body (N := 4) (args := [pv b]) Try.func79 rfl rfl rfl (by simp) ?_
  repeat' (first | (show wpO _ _ _ _ _ _ _; first | refine wpO_nil ?_ | refine s_rdp ?_ | refine s_rdm ?_ | refine s_exq ?_ | refine s_exm ?_) | (show Ex _ _ _ _ _; first | (show Ex _ ⟨_, .call ⟨.value (.func _), _, _⟩, _, _, _, _⟩ _ _ _; refine e_call ?_; first | (apply p_pcs; apply clear_D _ hx hb; (try case hS => assumption); (case hpcs => (repeat (first | exact Pcs.blk (by infer_instance) | exact Pcs.nil | (apply Pcs.cons; infer_instance) | apply Pcs.app)))))) | (show wpC _ _ _ _ _ _; first | refine wpC_seq ?_ | refine wpC_region ?_ | refine wpC_ret ?_ | refine wpC_skip ?_ | refine wpC_label ?_) | (show Then _ _ _ _ _ _ _; first | refine then_normal ?_ | refine then_ret ?_) | (show RetP _ _ _ _ _ _ _ _; first | refine r_1 ?_) | assumption | intro _)
  all_goals exact q_drop (hK _ ‹_› ‹_›)
abbrev ldL (b : Nat) : List Value := [svF 78 b, svF 79 b]
set_option maxHeartbeats 4000000 in
set_option maxRecDepth 100000 in
theorem loadall_D (e : World) {F : Hp} {b1 bk d m : Nat} {x : Dk} {room : Int} {K : Value → Hp → Prop} (hx : x.ok room) (hcap : tot x.l ≤ 140737488355328)
    (h7 : x.down = true → K (.int .i64 7) ((dbx b1 d ++ x.hp d m room) ++ F)) (h0 : x.down = false → ∀ x' : Dk, x'.ok room → x'.ds.E (clrA x.ds).2 → K (.int .i64 (clrA x.ds).1) ((dbx b1 d ++ x'.hp d m room) ++ F)) :
    callsK Try.prog e 51 #[.slice (some ⟨bk, 0, none⟩) 2 2] (([(bk, cellsO (ldL b1) 51)] ++ (dbx b1 d ++ x.hp d m room)) ++ F) K := by
  have hf1 : ∀ f ∈ ldL b1, f.oneCell' = true := by
    intro f hf
    simp only [List.mem_cons, List.not_mem_nil, or_false] at hf
    rcases hf with rfl | rfl <;> rfl
  refine callsK_dropK (p_pcs (first_spec (fs := ldL b1) (bk := bk) (H := (dbx b1 d ++ x.hp d m room) ++ F) e hf1 (by simp) ?_) (R := (dbx b1 d ++ x.hp d m room) ++ F) (by (repeat (first | exact Pcs.blk (by infer_instance) | exact Pcs.nil | (apply Pcs.cons; infer_instance) | apply Pcs.app))))
  simp only [firstK]
  refine val_func rfl (by kernel_rfl) rfl ?_
  apply p_pcs
  apply (load1_D _ hx hcap)
  (case hpcs => (repeat (first | exact Pcs.blk (by infer_instance) | exact Pcs.nil | (apply Pcs.cons; infer_instance) | apply Pcs.app)))
  · intro hd
    exact ⟨7, dbx b1 d ++ (x.hp d m room ++ F), rfl, q_drp, fun _ => q_drop (h7 hd), fun h => absurd h (by decide)⟩
  intro hd
  refine ⟨0, dbx b1 d ++ (x.hp d m room ++ F), rfl, q_drp, fun h => absurd rfl h, fun _ => ?_⟩
  have hK := h0 hd
  refine val_func rfl (by kernel_rfl) rfl ?_
  apply p_pcs
  apply (load2_D _ hx hcap)
  (case hpcs => (repeat (first | exact Pcs.blk (by infer_instance) | exact Pcs.nil | (apply Pcs.cons; infer_instance) | apply Pcs.app)))
  intro x1 hx1 hE1
  generalize clrA x.ds = r1 at *
  refine ⟨r1.1, dbx b1 d ++ (x1.hp d m room ++ F), rfl, q_drp, fun hne => q_drop (hK x1 hx1 hE1), fun heq => ?_⟩
  have := hK x1 hx1 hE1
  rw [heq] at this
  exact q_drop this
set_option maxHeartbeats 4000000 in
set_option maxRecDepth 100000 in
theorem load_D (e : World) {F : Hp} {d m : Nat} {x : Dk} {room : Int} {K : Value → Hp → Prop} (hx : x.ok room) (hcap : tot x.l ≤ 140737488355000)
    (hK : ∀ x' : Dk, x'.ok room → x'.ds.E (loadA x.ds).2 → ∀ v B, BytO v (loadA x.ds).1.2.1 B → K (.tuple #[.int .i64 (loadA x.ds).1.1, v, .int .i64 (loadA x.ds).1.2.2]) (B ++ (x'.hp d m room ++ F))) :
    callsK Try.prog e 41 #[pv d] (x.hp d m room ++ F) K := by
  have ht : tot x.l = totA x.ds.L := tot_totA x.l
  have hno : BytO (.slice none 0 0) [] [] := SlO.nil 5 1
  unfold loadA at hK
  refine calls_body (N := 28) (args := [pv d]) Try.func41 rfl rfl rfl (by simp) ?_
  obtain ⟨k1, t1⟩ := clr_ok hx.s
  cases hd : x.down with
  | true =>
    rw [if_pos (show x.ds.down = true from hd)] at hK
    repeat' (first | (show wpO _ _ _ _ _ _ _; first | refine wpO_nil ?_ | (show wpO _ _ _ (⟨_, .binOp _ _ _ _ _, _, _, _, _⟩ :: _) _ _ _; first | refine s_tt ?_ | refine s_ff ?_ | refine s_rdp ?_ | (refine s_cmp (fun _ => ?_) (fun _ => ?_) <;> (first | (exfalso; omega) | contradiction | skip)) | (refine s_cb (fun _ => ?_) (fun _ => ?_) <;> (first | (exfalso; omega) | contradiction | skip))) | refine s_rdp ?_ | refine s_rdm ?_ | refine s_exq ?_ | refine s_exm ?_) | (show Ex _ _ _ _ _; first | (show Ex _ ⟨_, .call ⟨.value (.func _), _, _⟩, _, _, _, _⟩ _ _ _; refine e_call ?_; first | (apply p_pcs; apply loadall_D _ hx (by omega); (try case hS => assumption); (case hpcs => (repeat (first | exact Pcs.blk (by infer_instance) | exact Pcs.nil | (apply Pcs.cons; infer_instance) | apply Pcs.app))))) | (show Ex _ ⟨_, .box _ _, _, _, _, _⟩ _ _ _; first | (refine e_boxA ?_; intro _) | (refine e_box1 ?_; intro _)) | (show Ex _ ⟨_, .buildSlice _ _ _, _, _, _, _⟩ _ _ _; first | (refine e_buildSlice ?_; intro _) | (refine e_buildNil ?_; intro _ _ _))) | (show wpC _ _ _ _ _ _; first | refine wpC_seq ?_ | refine wpC_region ?_ | refine c_true ?_ | refine c_false ?_ | (refine c_b (fun _ => ?_) (fun _ => ?_) <;> (first | (exfalso; omega) | contradiction | skip)) | refine wpC_ret ?_ | refine wpC_skip ?_ | refine wpC_label ?_) | (show Then _ _ _ _ _ _ _; first | refine then_normal ?_ | refine then_ret ?_) | (show RetP _ _ _ _ _ _ _ _; first | refine r_3 ?_) | assumption | intro _)
    all_goals first | exact q_drop (hK x hx (.rfl _) _ _ hno) | (exfalso; simp_all; done) | trace_state
  | false =>
    rw [if_neg (show ¬ x.ds.down = true from by rw [show x.ds.down = false from hd]; decide)] at hK
    by_cases h1 : (clrA x.ds).1 ≠ 0
    · rw [if_pos h1] at hK
      repeat' (first | (show wpO _ _ _ _ _ _ _; first | refine wpO_nil ?_ | (show wpO _ _ _ (⟨_, .binOp _ _ _ _ _, _, _, _, _⟩ :: _) _ _ _; first | refine s_tt ?_ | refine s_ff ?_ | refine s_rdp ?_ | (refine s_cmp (fun _ => ?_) (fun _ => ?_) <;> (first | (exfalso; omega) | contradiction | skip)) | (refine s_cb (fun _ => ?_) (fun _ => ?_) <;> (first | (exfalso; omega) | contradiction | skip))) | refine s_rdp ?_ | refine s_rdm ?_ | refine s_exq ?_ | refine s_exm ?_) | (show Ex _ _ _ _ _; first | (show Ex _ ⟨_, .call ⟨.value (.func _), _, _⟩, _, _, _, _⟩ _ _ _; refine e_call ?_; first | (apply p_pcs; apply loadall_D _ hx (by omega); (try case hS => assumption); (case hpcs => (repeat (first | exact Pcs.blk (by infer_instance) | exact Pcs.nil | (apply Pcs.cons; infer_instance) | apply Pcs.app))))) | (show Ex _ ⟨_, .box _ _, _, _, _, _⟩ _ _ _; first | (refine e_boxA ?_; intro _) | (refine e_box1 ?_; intro _)) | (show Ex _ ⟨_, .buildSlice _ _ _, _, _, _, _⟩ _ _ _; first | (refine e_buildSlice ?_; intro _) | (refine e_buildNil ?_; intro _ _ _))) | (show wpC _ _ _ _ _ _; first | refine wpC_seq ?_ | refine wpC_region ?_ | refine c_true ?_ | refine c_false ?_ | (refine c_b (fun _ => ?_) (fun _ => ?_) <;> (first | (exfalso; omega) | contradiction | skip)) | refine wpC_ret ?_ | refine wpC_skip ?_ | refine wpC_label ?_) | (show Then _ _ _ _ _ _ _; first | refine then_normal ?_ | refine then_ret ?_) | (show RetP _ _ _ _ _ _ _ _; first | refine r_3 ?_) | assumption | intro _)
      all_goals first | exact q_drop (hK _ ‹_› ‹_› _ _ hno) | (exfalso; simp_all; done) | trace_state
    · rw [if_neg h1] at hK
      repeat' ((fail_if_success (show wpC _ (.seq (.region 4 _ _) _) _ _ _ _)); first | (show wpO _ _ _ _ _ _ _; first | refine wpO_nil ?_ | (show wpO _ _ _ (⟨_, .binOp _ _ _ _ _, _, _, _, _⟩ :: _) _ _ _; first | refine s_tt ?_ | refine s_ff ?_ | refine s_rdp ?_ | (refine s_cmp (fun _ => ?_) (fun _ => ?_) <;> (first | (exfalso; omega) | contradiction | skip)) | (refine s_cb (fun _ => ?_) (fun _ => ?_) <;> (first | (exfalso; omega) | contradiction | skip))) | refine s_rdp ?_ | refine s_rdm ?_ | refine s_exq ?_ | refine s_exm ?_) | (show Ex _ _ _ _ _; first | (show Ex _ ⟨_, .call ⟨.value (.func _), _, _⟩, _, _, _, _⟩ _ _ _; refine e_call ?_; first | (apply p_pcs; apply loadall_D _ hx (by omega); (try case hS => assumption); (case hpcs => (repeat (first | exact Pcs.blk (by infer_instance) | exact Pcs.nil | (apply Pcs.cons; infer_instance) | apply Pcs.app))))) | (show Ex _ ⟨_, .box _ _, _, _, _, _⟩ _ _ _; first | (refine e_boxA ?_; intro _) | (refine e_box1 ?_; intro _)) | (show Ex _ ⟨_, .buildSlice _ _ _, _, _, _, _⟩ _ _ _; first | (refine e_buildSlice ?_; intro _) | (refine e_buildNil ?_; intro _ _ _))) | (show wpC _ _ _ _ _ _; first | refine wpC_seq ?_ | refine wpC_region ?_ | refine c_true ?_ | refine c_false ?_ | (refine c_b (fun _ => ?_) (fun _ => ?_) <;> (first | (exfalso; omega) | contradiction | skip)) | refine wpC_ret ?_ | refine wpC_skip ?_ | refine wpC_label ?_) | (show Then _ _ _ _ _ _ _; first | refine then_normal ?_ | refine then_ret ?_) | (show RetP _ _ _ _ _ _ _ _; first | refine r_3 ?_) | assumption | intro _)
      all_goals first | (exfalso; simp_all; done) | skip
      rename_i b1 bk _ x' hx' hE' q
      have hrl := readA_len (clrA x.ds).2 nowN
      have hre := readA_E hE' hx'.s.names nowN
      have htx : tot x'.l = totA (clrA x.ds).2.L := by rw [tot_totA]; exact totA_perm hE'.L
      clear k1
      generalize clrA x.ds = r1 at *
      generalize readA r1.2 nowN = rd at *
      obtain ⟨y, er⟩ := rd
      simp only at hK hrl
      have ht3 : tot x'.l ≤ 140737488355328 := by omega
      by_cases h2 : er ≠ 0
      · rw [if_pos h2] at hK
        repeat' (first | (show wpO _ _ _ _ _ _ _; first | refine wpO_nil ?_ | (show wpO _ _ _ (⟨_, .binOp _ _ _ _ _, _, _, _, _⟩ :: _) _ _ _; first | refine s_tt ?_ | refine s_ff ?_ | refine s_rdp ?_ | (refine s_cmp (fun _ => ?_) (fun _ => ?_) <;> (first | (exfalso; omega) | contradiction | skip)) | (refine s_cb (fun _ => ?_) (fun _ => ?_) <;> (first | (exfalso; omega) | contradiction | skip))) | refine s_rdp ?_ | refine s_rdm ?_ | refine s_exq ?_ | refine s_exm ?_) | (show Ex _ _ _ _ _; first | (show Ex _ ⟨_, .call ⟨.value (.func _), _, _⟩, _, _, _, _⟩ _ _ _; refine e_call ?_; first | (apply p_pcs; apply read_E _ hx' ht3 hre; (try case hS => assumption); (case hpcs => (repeat (first | exact Pcs.blk (by infer_instance) | exact Pcs.nil | (apply Pcs.cons; infer_instance) | apply Pcs.app))))) | (show Ex _ ⟨_, .box _ _, _, _, _, _⟩ _ _ _; first | (refine e_boxA ?_; intro _) | (refine e_box1 ?_; intro _)) | (show Ex _ ⟨_, .buildSlice _ _ _, _, _, _, _⟩ _ _ _; first | (refine e_buildSlice ?_; intro _) | (refine e_buildNil ?_; intro _ _ _))) | (show wpC _ _ _ _ _ _; first | refine wpC_seq ?_ | refine wpC_region ?_ | refine c_true ?_ | refine c_false ?_ | (refine c_b (fun _ => ?_) (fun _ => ?_) <;> (first | (exfalso; omega) | contradiction | skip)) | refine wpC_ret ?_ | refine wpC_skip ?_ | refine wpC_label ?_) | (show Then _ _ _ _ _ _ _; first | refine then_normal ?_ | refine then_ret ?_) | (show RetP _ _ _ _ _ _ _ _; first | refine r_3 ?_) | assumption | intro _)
        all_goals first | exact q_drop (hK _ hx' hE' _ _ hno) | (exfalso; omega) | trace_state
      · rw [if_neg h2] at hK
        repeat' ((fail_if_success (show wpC _ (.seq (.region 7 _ _) _) _ _ _ _)); first | (show wpO _ _ _ _ _ _ _; first | refine wpO_nil ?_ | (show wpO _ _ _ (⟨_, .binOp _ _ _ _ _, _, _, _, _⟩ :: _) _ _ _; first | refine s_tt ?_ | refine s_ff ?_ | refine s_rdp ?_ | (refine s_cmp (fun _ => ?_) (fun _ => ?_) <;> (first | (exfalso; omega) | contradiction | skip)) | (refine s_cb (fun _ => ?_) (fun _ => ?_) <;> (first | (exfalso; omega) | contradiction | skip))) | refine s_rdp ?_ | refine s_rdm ?_ | refine s_exq ?_ | refine s_exm ?_) | (show Ex _ _ _ _ _; first | (show Ex _ ⟨_, .call ⟨.value (.func _), _, _⟩, _, _, _, _⟩ _ _ _; refine e_call ?_; first | (apply p_pcs; apply read_E _ hx' ht3 hre; (try case hS => assumption); (case hpcs => (repeat (first | exact Pcs.blk (by infer_instance) | exact Pcs.nil | (apply Pcs.cons; infer_instance) | apply Pcs.app))))) | (show Ex _ ⟨_, .box _ _, _, _, _, _⟩ _ _ _; first | (refine e_boxA ?_; intro _) | (refine e_box1 ?_; intro _)) | (show Ex _ ⟨_, .buildSlice _ _ _, _, _, _, _⟩ _ _ _; first | (refine e_buildSlice ?_; intro _) | (refine e_buildNil ?_; intro _ _ _))) | (show wpC _ _ _ _ _ _; first | refine wpC_seq ?_ | refine wpC_region ?_ | refine c_true ?_ | refine c_false ?_ | (refine c_b (fun _ => ?_) (fun _ => ?_) <;> (first | (exfalso; omega) | contradiction | skip)) | refine wpC_ret ?_ | refine wpC_skip ?_ | refine wpC_label ?_) | (show Then _ _ _ _ _ _ _; first | refine then_normal ?_ | refine then_ret ?_) | (show RetP _ _ _ _ _ _ _ _; first | refine r_3 ?_) | assumption | intro _)
        all_goals first | (exfalso; omega) | skip
        rename_i vy By gy _
        have gyi := bytIn gy
        repeat' (first | (show wpO _ _ _ _ _ _ _; first | refine wpO_nil ?_ | (show wpO _ _ _ (⟨_, .binOp _ _ _ _ _, _, _, _, _⟩ :: _) _ _ _; first | refine s_tt ?_ | refine s_ff ?_ | refine s_rdp ?_ | (refine s_cmp (fun _ => ?_) (fun _ => ?_) <;> (first | (exfalso; omega) | contradiction | skip)) | (refine s_cb (fun _ => ?_) (fun _ => ?_) <;> (first | (exfalso; omega) | contradiction | skip))) | refine s_rdp ?_ | refine s_rdm ?_ | refine s_exq ?_ | refine s_exm ?_) | (show Ex _ _ _ _ _; first | (show Ex _ ⟨_, .call ⟨.value (.func _), _, _⟩, _, _, _, _⟩ _ _ _; refine e_call ?_; first | (apply p_pcs; apply decode_spec _ gyi (by omega); (try case hS => assumption); (case hpcs => (repeat (first | exact Pcs.blk (by infer_instance) | exact Pcs.nil | (apply Pcs.cons; infer_instance) | apply Pcs.app))))) | (show Ex _ ⟨_, .box _ _, _, _, _, _⟩ _ _ _; first | (refine e_boxA ?_; intro _) | (refine e_box1 ?_; intro _)) | (show Ex _ ⟨_, .buildSlice _ _ _, _, _, _, _⟩ _ _ _; first | (refine e_buildSlice ?_; intro _) | (refine e_buildNil ?_; intro _ _ _))) | (show wpC _ _ _ _ _ _; first | refine wpC_seq ?_ | refine wpC_region ?_ | refine c_true ?_ | refine c_false ?_ | (refine c_b (fun _ => ?_) (fun _ => ?_) <;> (first | (exfalso; omega) | contradiction | skip)) | refine wpC_ret ?_ | refine wpC_skip ?_ | refine wpC_label ?_) | (show Then _ _ _ _ _ _ _; first | refine then_normal ?_ | refine then_ret ?_) | (show RetP _ _ _ _ _ _ _ _; first | refine r_3 ?_) | assumption | intro _)
        all_goals first | exact q_drop (hK _ hx' hE' _ _ ‹_›) | trace_state
end Go.Vl

/-
  What is put into bytes is read out of them again. No program in sight.
-/
namespace Go.Vl
open Go.Proofs
set_option maxHeartbeats 4000000 in
set_option maxRecDepth 100000 in
theorem pow7 (i : Nat) : 2 ^ (7 * (i + 1)) = 128 * 2 ^ (7 * i) := by rw [Nat.mul_add, Nat.pow_add]; omega
set_option maxHeartbeats 4000000 in
set_option maxRecDepth 100000 in
theorem mul64 {u i : Nat} (h : u * 2 ^ (7 * i) < 18446744073709551616) (hi : i ≤ 9) : (i = 9 → u ≤ 1) := by
  rintro rfl
  have : (2 : Nat) ^ (7 * 9) = 9223372036854775808 := by decide
  rw [this] at h
  omega
set_option maxHeartbeats 4000000 in
set_option maxRecDepth 100000 in
theorem parse_vb (u : Nat) : ∀ (i acc : Nat) (rest : List UInt8), i ≤ 9 → acc + u * 2 ^ (7 * i) < 18446744073709551616 → (0 < i → 0 < u) → parseP (vb u ++ rest) i acc = (unzz (acc + u * 2 ^ (7 * i)), i + (vb u).length, 0) := by
  induction u using Nat.strongRecOn with
  | ind u ih =>
    intro i acc rest hi hb h0
    have h9 := mul64 (u := u) (i := i) (by omega) hi
    by_cases hs : u < 128
    · have hc : (UInt8.ofNat u).toNat = u := ofNat_toNat8 (by omega)
      rw [vb_small hs, List.singleton_append, parse_end (by rw [hc]; omega) (by rw [hc]; exact hs), hc, Nat.mod_eq_of_lt hs]
      rfl
    · have hc : (UInt8.ofNat (u % 128 + 128)).toNat = u % 128 + 128 := ofNat_toNat8 (by omega)
      have hi8 : i ≤ 8 := by
        rcases Nat.lt_or_ge i 9 with h | h
        · omega
        · have := h9 (by omega); omega
      rw [vb_big hs, List.cons_append, parse_more (by rw [hc]; omega) (by rw [hc]; omega), hc]
      have hp := pow7 i
      have hm : (u % 128 + 128) % 128 = u % 128 := by omega
      have hu : u % 128 * 2 ^ (7 * i) + u / 128 * (128 * 2 ^ (7 * i)) = u * 2 ^ (7 * i) := by
        rw [← Nat.mul_assoc, ← Nat.add_mul]
        congr 1
        omega
      have key := ih (u / 128) (by omega) (i + 1) (acc + u % 128 * 2 ^ (7 * i)) rest (by omega) (by rw [hp]; omega) (fun _ => by omega)
      rw [hm, key, hp, Nat.add_assoc, hu, List.length_cons]
      congr 2
      omega
set_option maxHeartbeats 4000000 in
set_option maxRecDepth 100000 in
theorem unzz_zz (n : Int) : unzz (zz n) = n := by
  unfold unzz zz
  split
  · rw [if_pos (by omega)]; omega
  · rw [if_neg (by omega)]; omega
set_option maxHeartbeats 4000000 in
set_option maxRecDepth 100000 in
theorem parse_zz {n : Int} (h1 : -9223372036854775808 ≤ n) (h2 : n ≤ 9223372036854775807) (rest : List UInt8) : parseP (vb (zz n) ++ rest) 0 0 = (n, (vb (zz n)).length, 0) := by
  have := zz_lt h1 h2
  rw [parse_vb (zz n) 0 0 rest (by omega) (by simpa using this) (fun h => absurd h (by decide))]
  simp [unzz_zz]
set_option maxHeartbeats 4000000 in
set_option maxRecDepth 100000 in
theorem pbytes_lenB (bs rest : List UInt8) (hl : bs.length ≤ 9223372036854775807) : pbytesP (lenB bs ++ rest) = (bs, (lenB bs).length, 0) := by
  unfold pbytesP lenB
  rw [List.append_assoc, parse_zz (by omega) (by omega)]
  simp only
  rw [if_neg (by simp), if_neg (by omega), if_neg (by simp only [List.length_append]; omega), Int.toNat_natCast, List.length_append]
  refine congrArg (fun x => (x, _)) ?_
  rw [List.take_append, List.take_of_length_le (by omega), List.drop_left' rfl, Nat.add_sub_cancel_left, List.take_left' rfl]
set_option maxHeartbeats 4000000 in
set_option maxRecDepth 100000 in
theorem unframe_frame (b : List UInt8) (hl : b.length ≤ 1048576) : unframeP (frameP b) = (b, (frameP b).length, 0) := by
  have h4 : (fourP (sumP b)).length = 4 := rfl
  have hfl : (frameP b).length = (vb (zz (b.length : Int))).length + b.length + 4 := by unfold frameP lenB; simp only [List.length_append, h4]
  have hp : parseP (frameP b) 0 0 = ((b.length : Int), (vb (zz (b.length : Int))).length, 0) := by
    unfold frameP lenB
    rw [List.append_assoc]
    exact parse_zz (by omega) (by omega) _
  have e1 : ((frameP b).take ((vb (zz (b.length : Int))).length + b.length)).drop (vb (zz (b.length : Int))).length = b := by
    unfold frameP lenB
    rw [List.take_left' (by rw [List.length_append]), List.drop_left' rfl]
  have e2 : ((frameP b).take ((vb (zz (b.length : Int))).length + b.length + 4)).drop ((vb (zz (b.length : Int))).length + b.length) = fourP (sumP b) := by
    rw [List.take_of_length_le (by omega)]
    unfold frameP lenB
    rw [List.drop_left' (by rw [List.length_append])]
  unfold unframeP
  rw [hp]
  simp only
  rw [if_neg (by simp), if_neg (by omega), if_neg (by omega), if_neg (by omega), Int.toNat_natCast, e1, e2, if_neg (by simp), hfl]
set_option maxHeartbeats 4000000 in
set_option maxRecDepth 100000 in
theorem dec_enc {slot : Int} {bs : List UInt8} (h : (encP slot bs).2 = 0) : decP (encP slot bs).1 = (slot, bs, 0) := by
  unfold encP at h ⊢
  split at h
  · cases h
  · split at h
    · cases h
    · rename_i h1 h2
      rw [if_neg h1, if_neg h2]
      have hel := enc_len (slot := slot) (data := bs) (by omega) (by omega) (by omega)
      have hpz := parse_zz (n := slot) (by omega) (by omega) (lenB bs)
      have hpb := pbytes_lenB bs [] (by omega)
      rw [List.append_nil] at hpb
      unfold decP
      rw [unframe_frame _ hel]
      simp only
      rw [if_neg (by simp), hpz]
      simp only
      rw [if_neg (by simp), List.drop_left' rfl, hpb]
      simp only
      rw [if_neg (by rw [List.length_append]; omega)]
end Go.Vl

/-
  Two lists of bytes compared; a checkpoint on an empty disk; begun.
-/
namespace Go.Vl
open Go.Proofs
set_option maxHeartbeats 4000000 in
set_option maxRecDepth 100000 in
theorem fell_full (n : ByteArray) (y : List UInt8) (k : Nat) : fell k (n, y, y.length) = (n, y, y.length) := by
  have h1 : y.take (y.length + k) = y := List.take_of_length_le (by omega)
  simp [fell, h1]
set_option maxHeartbeats 4000000 in
set_option maxRecDepth 100000 in
theorem chg_free {s : DS} {L : List Ab} (h : s.left = 0) : s.chg L = (0, ⟨L, 0, s.keep, s.down⟩) := by
  unfold DS.chg
  rw [if_neg (by omega), if_pos h]
def oneA (o : Option (Int × List UInt8)) : List Ab := match o with
  | none => []
  | some p => [(nowN, (encP p.1 p.2).1, (encP p.1 p.2).1.length)]
set_option maxHeartbeats 4000000 in
set_option maxRecDepth 100000 in
theorem newN_ne : newN ≠ nowN := by decide
set_option maxHeartbeats 4000000 in
set_option maxRecDepth 100000 in
theorem one_noNew (o : Option (Int × List UInt8)) : ¬ hasA (oneA o) newN := by
  rintro ⟨a, ha, hn⟩
  cases o with
  | none => cases ha
  | some p =>
    obtain rfl := List.mem_singleton.1 ha
    exact newN_ne hn.symm
set_option maxHeartbeats 4000000 in
set_option maxRecDepth 100000 in
theorem one_len (o : Option (Int × List UInt8)) : (oneA o).length ≤ 1 := by cases o <;> simp [oneA]
set_option maxHeartbeats 4000000 in
set_option maxRecDepth 100000 in
theorem appd_one (o : Option (Int × List UInt8)) (y : List UInt8) : appd (oneA o) newN y = oneA o ++ [(newN, y, 0)] := by
  cases o with
  | none => rfl
  | some p =>
    show appd [_] newN y = _
    unfold appd
    rw [if_neg (fun h => newN_ne h.symm)]
    rfl
set_option maxHeartbeats 4000000 in
set_option maxRecDepth 100000 in
theorem has_app (o : Option (Int × List UInt8)) (y : List UInt8) (k : Nat) : hasA (oneA o ++ [(newN, y, k)]) newN := ⟨_, List.mem_append_right _ (List.mem_singleton.2 rfl), rfl⟩
set_option maxHeartbeats 4000000 in
set_option maxRecDepth 100000 in
theorem syn_one (o : Option (Int × List UInt8)) (y : List UInt8) : (oneA o ++ [(newN, y, 0)]).map (synA newN) = oneA o ++ [(newN, y, y.length)] := by
  cases o with
  | none => simp [oneA, synA]
  | some p =>
    have : ¬ nowN = newN := fun h => newN_ne h.symm
    simp [oneA, synA, this]
set_option maxHeartbeats 4000000 in
set_option maxRecDepth 100000 in
theorem ren_one (o : Option (Int × List UInt8)) (y : List UInt8) (k : Nat) : renA (oneA o ++ [(newN, y, k)]) newN nowN = [(nowN, y, k)] := by
  have h1 : ¬ nowN = newN := fun h => newN_ne h.symm
  have h2 : ¬ newN = nowN := newN_ne
  cases o with
  | none => simp [renA, oneA]
  | some p => simp [renA, oneA, h1]
set_option maxHeartbeats 4000000 in
set_option maxRecDepth 100000 in
theorem del_one (o : Option (Int × List UInt8)) (y : List UInt8) (k : Nat) : delA (oneA o ++ [(newN, y, k)]) newN = oneA o := by
  have h1 : ¬ nowN = newN := fun h => newN_ne h.symm
  cases o with
  | none => simp [delA, oneA]
  | some p => simp [delA, oneA, h1]
set_option maxHeartbeats 4000000 in
set_option maxRecDepth 100000 in
theorem clr_one {o : Option (Int × List UInt8)} {s : DS} (hL : s.L = oneA o) : clrA s = (0, s) := by
  unfold clrA
  rw [hL, if_neg (one_noNew o)]
set_option maxHeartbeats 4000000 in
set_option maxRecDepth 100000 in
theorem totA_one (n : ByteArray) (y : List UInt8) (k : Nat) : totA [(n, y, k)] = y.length := by simp [totA]
set_option maxHeartbeats 4000000 in
set_option maxRecDepth 100000 in
theorem save_one {room : Int} {o : Option (Int × List UInt8)} {s : DS} {slot : Int} {bs : List UInt8} (hL : s.L = oneA o) (hd : s.down = false) (hf : s.left = 0) (he : (encP slot bs).2 = 0) :
    saveA room s slot bs = if room < ((encP slot bs).1.length : Int) + totA s.L then (6, s) else (0, ⟨oneA (some (slot, bs)), 0, s.keep, false⟩) := by
  obtain ⟨L, left, keep, down⟩ := s
  simp only at hL hd hf
  subst hL hd hf
  have hlen := one_len o
  unfold saveA putA
  rw [if_neg (by rw [he]; simp), if_neg (by simp), clr_one (o := o) rfl, then_ok (r := (0, _)) rfl]
  generalize hy : (encP slot bs).1 = y
  simp only
  split
  · rename_i h
    have : DS.append room ⟨oneA o, 0, keep, false⟩ newN y = (6, ⟨oneA o, 0, keep, false⟩) := by
      unfold DS.append
      rw [if_neg (by simp), if_neg (fun h => h newN_ok), if_neg (fun h => by have := h.2; simp only at this; omega), if_pos h]
    rw [this, then_err (r := (6, _)) (show (6 : Int) ≠ 0 by decide), then_err (r := (6, _)) (show (6 : Int) ≠ 0 by decide)]
  · rename_i h
    have e1 : DS.append room ⟨oneA o, 0, keep, false⟩ newN y = (0, ⟨oneA o ++ [(newN, y, 0)], 0, keep, false⟩) := by
      unfold DS.append
      rw [if_neg (by simp), if_neg (fun h => h newN_ok), if_neg (fun h => by have := h.2; simp only at this; omega), if_neg h, chg_free rfl, appd_one]
    have e2 : DS.sync ⟨oneA o ++ [(newN, y, 0)], 0, keep, false⟩ newN = (0, ⟨oneA o ++ [(newN, y, y.length)], 0, keep, false⟩) := by
      unfold DS.sync DS.there
      rw [if_neg (by simp), if_neg (fun h => h newN_ok), if_neg (fun h => h (has_app _ _ _)), chg_free rfl, syn_one]
    have e3 : DS.rename ⟨oneA o ++ [(newN, y, y.length)], 0, keep, false⟩ newN nowN = (0, ⟨[(nowN, y, y.length)], 0, keep, false⟩) := by
      unfold DS.rename DS.there
      rw [if_neg (by simp), if_neg (fun h => h ⟨newN_ok, nowN_ok⟩), if_neg (fun h => h (has_app _ _ _)), chg_free rfl, ren_one]
    rw [e1, then_ok (r := (0, _)) rfl, e2, then_ok (r := (0, _)) rfl, e3]
    simp only [oneA, hy]
def ansA (o : Option (Int × List UInt8)) : Int × List UInt8 × Int := match o with
  | none => (0, [], 4)
  | some p => (p.1, p.2, 0)
set_option maxHeartbeats 4000000 in
set_option maxRecDepth 100000 in
theorem load_one {o : Option (Int × List UInt8)} {s : DS} (hL : s.L = oneA o) (hd : s.down = false) (he : ∀ p, o = some p → (encP p.1 p.2).2 = 0) : loadA s = (ansA o, s) := by
  unfold loadA
  rw [if_neg (by simp [hd]), clr_one hL, if_neg (by simp)]
  cases o with
  | none =>
    have hr : readA s nowN = ([], 4) := by
      unfold readA
      rw [if_neg (by simp [hd]), if_neg (fun h => h nowN_ok), hL]
      rfl
    rw [hr]
    rfl
  | some p =>
    have hr : readA s nowN = ((encP p.1 p.2).1, 0) := by
      unfold readA
      rw [if_neg (by simp [hd]), if_neg (fun h => h nowN_ok), hL]
      simp [oneA]
    rw [hr]
    simp only
    rw [if_neg (by simp), dec_enc (he p rfl)]
    rfl
end Go.Vl

/-
  bytes.Equal; begun.
-/
namespace Go.Vl
open Go.Proofs Go.RowKit
set_option maxHeartbeats 4000000 in
set_option maxRecDepth 100000 in
theorem str_inj {xs ys : List UInt8} (h : xs ≠ ys) : ¬ (⟨xs.toArray⟩ : ByteArray) = ⟨ys.toArray⟩ := fun he => h (by
  have := congrArg ByteArray.data he
  simpa using this)
set_option maxHeartbeats 4000000 in
set_option maxRecDepth 100000 in
theorem E_one {s : DS} {o : Option (Int × List UInt8)} {l : Int} {k : Nat} {d : Bool} (h : s.E ⟨oneA o, l, k, d⟩) : s = ⟨oneA o, l, k, d⟩ := by
  obtain ⟨L, l', k', d'⟩ := s
  obtain ⟨hL, h1, h2, h3⟩ := h
  simp only at hL h1 h2 h3
  subst h1 h2 h3
  cases o with
  | none => rw [List.perm_nil.1 hL]; rfl
  | some p => rw [List.perm_singleton.1 hL]; rfl
set_option maxHeartbeats 4000000 in
set_option maxRecDepth 100000 in
theorem enc_small (slot : Int) (bs : List UInt8) : (encP slot bs).1.length ≤ bs.length + 34 := by
  unfold encP
  split
  · exact Nat.zero_le _
  · split
    · exact Nat.zero_le _
    · have h4 := vb_len10 (zz_lt (n := slot) (by omega) (by omega))
      have h5 := lenB_len (bs := bs) (by omega)
      have h6 := lenB_len (bs := vb (zz slot) ++ lenB bs) (by rw [List.length_append]; omega)
      show (frameP _).length ≤ _
      unfold frameP
      rw [List.length_append]
      have : (fourP (sumP (vb (zz slot) ++ lenB bs))).length = 4 := rfl
      rw [List.length_append] at h6
      omega
set_option maxHeartbeats 4000000 in
set_option maxRecDepth 100000 in
theorem save_E (e : World) {slot : Int} {bs : List UInt8} {v : Value} {Fn F : Hp} {d m : Nat} {x : Dk} {room : Int} {r : Int} {t : DS} {K : Value → Hp → Prop} (hx : x.ok room) (hr : room ≤ 9223372036854775807) (hin : InSl Fn 1 (bs.map byC) v) (hl : bs.length ≤ 140737488355000) (hcap : tot x.l + 1048600 ≤ 140737488355328) (hR : saveA room x.ds slot bs = (r, t))
    (hK : ∀ x' : Dk, x'.ok room → x'.ds.E t → K (.int .i64 r) ((x'.hp d m room ++ Fn) ++ F)) :
    callsK Try.prog e 24 #[pv d, .int .i64 slot, v] ((x.hp d m room ++ Fn) ++ F) K := save_D e hx hr hin hl hcap (by rw [hR]; exact hK)
set_option maxHeartbeats 4000000 in
set_option maxRecDepth 100000 in
theorem load_E (e : World) {F : Hp} {d m : Nat} {x : Dk} {room : Int} {slot er : Int} {bs : List UInt8} {t : DS} {K : Value → Hp → Prop} (hx : x.ok room) (hcap : tot x.l ≤ 140737488355000) (hR : loadA x.ds = ((slot, bs, er), t))
    (hK : ∀ x' : Dk, x'.ok room → x'.ds.E t → ∀ v B, BytO v bs B → K (.tuple #[.int .i64 slot, v, .int .i64 er]) (B ++ (x'.hp d m room ++ F))) :
    callsK Try.prog e 41 #[pv d] (x.hp d m room ++ F) K := load_D e hx hcap (by rw [hR]; exact hK)
attribute [local irreducible] wpC wpO wpD Ex Rd callsK RetP Drop valK
set_option maxHeartbeats 4000000 in
set_option maxRecDepth 100000 in
theorem bytesEq_spec (e : World) {xs ys : List UInt8} {v u : Value} {P F : Hp} {K : Value → Hp → Prop} (hv : InSl P 1 (xs.map byC) v) (hu : InSl P 1 (ys.map byC) u) (h1 : xs = ys → K (.bool true) (P ++ F)) (h0 : xs ≠ ys → K (.bool false) (P ++ F)) :
    callsK Try.prog e 27 #[v, u] (P ++ F) K := by
  obtain ⟨a1, c1, rfl⟩ := inSl_valB hv
  obtain ⟨a2, c2, rfl⟩ := inSl_valB hu
  refine calls_body (N := 10) (args := [.slice a1 xs.length c1, .slice a2 ys.length c2]) Try.func27 rfl rfl rfl (by simp) ?_
  repeat' ((fail_if_success (show wpO _ _ _ (⟨_, .binOp _ _ _ _ _, _, _, _, _⟩ :: _) _ _ _)); first | (show wpO _ _ _ _ _ _ _; first | refine wpO_nil ?_ | (show wpO _ _ _ (⟨_, .binOp _ _ _ _ _, _, _, _, _⟩ :: _) _ _ _; first | refine s_tt ?_ | refine s_ff ?_ | refine s_rdp ?_ | (refine s_cmp (fun _ => ?_) (fun _ => ?_) <;> (first | (exfalso; omega) | contradiction | skip)) | (refine s_cb (fun _ => ?_) (fun _ => ?_) <;> (first | (exfalso; omega) | contradiction | skip))) | (show wpO _ _ _ (⟨_, .convert _ _ _, _, _, _, _⟩ :: _) _ _ _; first | (refine s_exs ?_; refine e_mark ?_) | refine s_rdm ?_ (hr := by first | (apply rd_bytesStrO; (conv => lhs; whnf); assumption; exact Sbs.sub (self := by infer_instance); exact rfl; exact rfl; exact rfl; done) | (apply rd_bytesStr; (conv => lhs; whnf); assumption; exact Sbs.sub (self := by infer_instance); exact rfl; exact rfl; exact rfl; done))) | refine s_rdp ?_ | refine s_rdm ?_ | refine s_exq ?_ | refine s_exm ?_) | (show Ex _ _ _ _ _; first | (show Ex _ ⟨_, .convert _ _ _, _, _, _, _⟩ _ _ _; refine e_mark ?_)) | (show wpC _ _ _ _ _ _; first | refine wpC_seq ?_ | refine wpC_region ?_ | refine wpC_ret ?_ | refine wpC_skip ?_ | refine wpC_label ?_) | (show Then _ _ _ _ _ _ _; first | refine then_normal ?_ | refine then_ret ?_) | (show RetP _ _ _ _ _ _ _ _; first | refine r_1 ?_))
  by_cases h : xs = ys
  · refine s_strEqT ?_ (congrArg (fun l : List UInt8 => (⟨l.toArray⟩ : ByteArray)) h)
    repeat' (first | (show wpO _ _ _ _ _ _ _; first | refine wpO_nil ?_ | (show wpO _ _ _ (⟨_, .binOp _ _ _ _ _, _, _, _, _⟩ :: _) _ _ _; first | refine s_tt ?_ | refine s_ff ?_ | refine s_rdp ?_ | (refine s_cmp (fun _ => ?_) (fun _ => ?_) <;> (first | (exfalso; omega) | contradiction | skip)) | (refine s_cb (fun _ => ?_) (fun _ => ?_) <;> (first | (exfalso; omega) | contradiction | skip))) | (show wpO _ _ _ (⟨_, .convert _ _ _, _, _, _, _⟩ :: _) _ _ _; first | (refine s_exs ?_; refine e_mark ?_) | refine s_rdm ?_ (hr := by first | (apply rd_bytesStrO; (conv => lhs; whnf); assumption; exact Sbs.sub (self := by infer_instance); exact rfl; exact rfl; exact rfl; done) | (apply rd_bytesStr; (conv => lhs; whnf); assumption; exact Sbs.sub (self := by infer_instance); exact rfl; exact rfl; exact rfl; done))) | refine s_rdp ?_ | refine s_rdm ?_ | refine s_exq ?_ | refine s_exm ?_) | (show Ex _ _ _ _ _; first | (show Ex _ ⟨_, .convert _ _ _, _, _, _, _⟩ _ _ _; refine e_mark ?_)) | (show wpC _ _ _ _ _ _; first | refine wpC_seq ?_ | refine wpC_region ?_ | refine wpC_ret ?_ | refine wpC_skip ?_ | refine wpC_label ?_) | (show Then _ _ _ _ _ _ _; first | refine then_normal ?_ | refine then_ret ?_) | (show RetP _ _ _ _ _ _ _ _; first | refine r_1 ?_))
    exact q_drop (h1 h)
  · refine s_strEqF ?_ (str_inj h)
    repeat' (first | (show wpO _ _ _ _ _ _ _; first | refine wpO_nil ?_ | (show wpO _ _ _ (⟨_, .binOp _ _ _ _ _, _, _, _, _⟩ :: _) _ _ _; first | refine s_tt ?_ | refine s_ff ?_ | refine s_rdp ?_ | (refine s_cmp (fun _ => ?_) (fun _ => ?_) <;> (first | (exfalso; omega) | contradiction | skip)) | (refine s_cb (fun _ => ?_) (fun _ => ?_) <;> (first | (exfalso; omega) | contradiction | skip))) | (show wpO _ _ _ (⟨_, .convert _ _ _, _, _, _, _⟩ :: _) _ _ _; first | (refine s_exs ?_; refine e_mark ?_) | refine s_rdm ?_ (hr := by first | (apply rd_bytesStrO; (conv => lhs; whnf); assumption; exact Sbs.sub (self := by infer_instance); exact rfl; exact rfl; exact rfl; done) | (apply rd_bytesStr; (conv => lhs; whnf); assumption; exact Sbs.sub (self := by infer_instance); exact rfl; exact rfl; exact rfl; done))) | refine s_rdp ?_ | refine s_rdm ?_ | refine s_exq ?_ | refine s_exm ?_) | (show Ex _ _ _ _ _; first | (show Ex _ ⟨_, .convert _ _ _, _, _, _, _⟩ _ _ _; refine e_mark ?_)) | (show wpC _ _ _ _ _ _; first | refine wpC_seq ?_ | refine wpC_region ?_ | refine wpC_ret ?_ | refine wpC_skip ?_ | refine wpC_label ?_) | (show Then _ _ _ _ _ _ _; first | refine then_normal ?_ | refine then_ret ?_) | (show RetP _ _ _ _ _ _ _ _; first | refine r_1 ?_))
    exact q_drop (h0 h)
set_option maxHeartbeats 4000000 in
set_option maxRecDepth 100000 in
theorem begun6 (e : World) {F : Hp} {K : Value → Hp → Prop} (hK : K (.bool true) F) : callsK Try.prog e 23 #[] F K := by
  have he : (encP 5 [120]).2 = 0 := by decide
  refine calls_body (N := 39) (args := []) Try.func23 rfl rfl rfl (by simp) ?_
  repeat' ((fail_if_success (show wpO _ _ _ (⟨_, .call ⟨.value (.func 24), _, _⟩, _, _, _, _⟩ :: _) _ _ _)); first | (show wpO _ _ _ _ _ _ _; first | refine wpO_nil ?_ | (show wpO _ _ _ (⟨_, .binOp _ _ _ _ _, _, _, _, _⟩ :: _) _ _ _; first | refine s_tt ?_ | refine s_ff ?_ | refine s_rdp ?_ | (refine s_cmp (fun _ => ?_) (fun _ => ?_) <;> (first | (exfalso; omega) | contradiction | skip)) | (refine s_cb (fun _ => ?_) (fun _ => ?_) <;> (first | (exfalso; omega) | contradiction | skip)) | refine s_sks ?_ | (refine s_g (fun _ => ?_) (fun _ => ?_) <;> (first | (exfalso; omega) | contradiction | skip))) | (show wpO _ _ _ (⟨_, .pick _ _ _, _, _, _, _⟩ :: _) _ _ _; first | refine s_rdp ?_ | (refine s_p (fun _ => ?_) (fun _ => ?_) <;> (first | (exfalso; omega) | contradiction | skip)) | refine s_sks ?_ | (refine s_g (fun _ => ?_) (fun _ => ?_) <;> (first | (exfalso; omega) | contradiction | skip))) | (show wpO _ _ _ (⟨_, .convert _ _ _, _, _, _, _⟩ :: _) _ _ _; first | (refine s_exs ?_; refine e_mark ?_) | refine s_rdm ?_ (hr := by first | (apply rd_bytesStrO; (conv => lhs; whnf); assumption; exact Sbs.sub (self := by infer_instance); exact rfl; exact rfl; exact rfl; done) | (apply rd_bytesStr; (conv => lhs; whnf); assumption; exact Sbs.sub (self := by infer_instance); exact rfl; exact rfl; exact rfl; done)) | refine s_sks ?_ | (refine s_g (fun _ => ?_) (fun _ => ?_) <;> (first | (exfalso; omega) | contradiction | skip))) | refine s_rdp ?_ | refine s_rdm ?_ | refine s_exq ?_ | refine s_exm ?_ | refine s_sks ?_ | refine s_skn ?_ | (refine s_g (fun _ => ?_) (fun _ => ?_) <;> (first | (exfalso; omega) | contradiction | skip))) | (show Ex _ _ _ _ _; first | (show Ex _ ⟨_, .call ⟨.value (.func _), _, _⟩, _, _, _, _⟩ _ _ _; refine e_call ?_; first | (apply new_D _)) | (show Ex _ ⟨_, .convert _ _ _, _, _, _, _⟩ _ _ _; refine e_mark ?_) | (show Ex _ ⟨_, .buildSlice _ _ _, _, _, _, _⟩ _ _ _; first | (refine e_buildSlice ?_; intro _) | (refine e_buildNil ?_; intro _ _ _))) | (show wpC _ _ _ _ _ _; first | refine wpC_seq ?_ | refine wpC_region ?_ | refine c_true ?_ | refine c_false ?_ | (refine c_b (fun _ => ?_) (fun _ => ?_) <;> (first | (exfalso; omega) | contradiction | skip)) | refine wpC_ret ?_ | refine wpC_skip ?_ | refine wpC_label ?_) | (show Then _ _ _ _ _ _ _; first | refine then_normal ?_ | refine then_ret ?_) | (show RetP _ _ _ _ _ _ _ _; first | refine r_1 ?_) | assumption | intro _)
  · omega
  rename_i d m _ x hx hds bb
  have hm : InSl [(bb, Obj.cells #[Value.int .u8 120] 5 (#[Value.int .u8 120].size, #[Value.int .u8 120].size + 1))] 1 ([120].map byC) (.slice (some ⟨bb, 0, none⟩) 1 1) := inSl_mark bb 1 [120] (1, 2) rfl
  have hs : saveA 1000 x.ds 5 [120] = (0, ⟨oneA (some (5, [120])), 0, 0, false⟩) := by
    have hy := enc_small 5 [120]
    rw [hds, save_one (o := none) rfl rfl rfl he, if_neg (by simp only [List.length_cons, List.length_nil] at hy; simp [totA]; omega)]
  have ht : tot x.l = 0 := by rw [tot_totA, show x.l.map Fl.ab = x.ds.L from rfl, hds]; rfl
  repeat' ((fail_if_success (show wpC _ (.seq (.region 4 _ _) _) _ _ _ _)); first | (show wpO _ _ _ _ _ _ _; first | refine wpO_nil ?_ | (show wpO _ _ _ (⟨_, .binOp _ _ _ _ _, _, _, _, _⟩ :: _) _ _ _; first | refine s_tt ?_ | refine s_ff ?_ | refine s_rdp ?_ | (refine s_cmp (fun _ => ?_) (fun _ => ?_) <;> (first | (exfalso; omega) | contradiction | skip)) | (refine s_cb (fun _ => ?_) (fun _ => ?_) <;> (first | (exfalso; omega) | contradiction | skip)) | refine s_sks ?_ | (refine s_g (fun _ => ?_) (fun _ => ?_) <;> (first | (exfalso; omega) | contradiction | skip))) | (show wpO _ _ _ (⟨_, .pick _ _ _, _, _, _, _⟩ :: _) _ _ _; first | refine s_rdp ?_ | (refine s_p (fun _ => ?_) (fun _ => ?_) <;> (first | (exfalso; omega) | contradiction | skip)) | refine s_sks ?_ | (refine s_g (fun _ => ?_) (fun _ => ?_) <;> (first | (exfalso; omega) | contradiction | skip))) | (show wpO _ _ _ (⟨_, .convert _ _ _, _, _, _, _⟩ :: _) _ _ _; first | (refine s_exs ?_; refine e_mark ?_) | refine s_rdm ?_ (hr := by first | (apply rd_bytesStrO; (conv => lhs; whnf); assumption; exact Sbs.sub (self := by infer_instance); exact rfl; exact rfl; exact rfl; done) | (apply rd_bytesStr; (conv => lhs; whnf); assumption; exact Sbs.sub (self := by infer_instance); exact rfl; exact rfl; exact rfl; done)) | refine s_sks ?_ | (refine s_g (fun _ => ?_) (fun _ => ?_) <;> (first | (exfalso; omega) | contradiction | skip))) | refine s_rdp ?_ | refine s_rdm ?_ | refine s_exq ?_ | refine s_exm ?_ | refine s_sks ?_ | refine s_skn ?_ | (refine s_g (fun _ => ?_) (fun _ => ?_) <;> (first | (exfalso; omega) | contradiction | skip))) | (show Ex _ _ _ _ _; first | (show Ex _ ⟨_, .call ⟨.value (.func _), _, _⟩, _, _, _, _⟩ _ _ _; refine e_call ?_; first | (apply p_pcs; apply save_E _ hx (by decide) hm (by decide) (by omega) hs; (try case hS => assumption); (case hpcs => (repeat (first | exact Pcs.blk (by infer_instance) | exact Pcs.nil | (apply Pcs.cons; infer_instance) | apply Pcs.app))))) | (show Ex _ ⟨_, .convert _ _ _, _, _, _, _⟩ _ _ _; refine e_mark ?_) | (show Ex _ ⟨_, .buildSlice _ _ _, _, _, _, _⟩ _ _ _; first | (refine e_buildSlice ?_; intro _) | (refine e_buildNil ?_; intro _ _ _))) | (show wpC _ _ _ _ _ _; first | refine wpC_seq ?_ | refine wpC_region ?_ | refine c_true ?_ | refine c_false ?_ | (refine c_b (fun _ => ?_) (fun _ => ?_) <;> (first | (exfalso; omega) | contradiction | skip)) | refine wpC_ret ?_ | refine wpC_skip ?_ | refine wpC_label ?_) | (show Then _ _ _ _ _ _ _; first | refine then_normal ?_ | refine then_ret ?_) | (show RetP _ _ _ _ _ _ _ _; first | refine r_1 ?_) | assumption | intro _)
  rename_i x1 hx1 hE1
  have hd1 := E_one hE1
  have hl1 : loadA x1.ds = ((5, [120], 0), x1.ds) := by
    have := load_one (s := x1.ds) (o := some (5, [120])) (by rw [hd1]) (by rw [hd1]) (fun p hp => by cases hp; exact he)
    exact this
  have ht1 : tot x1.l ≤ 140737488355000 := by
    have hy := enc_small 5 [120]
    rw [tot_totA, show x1.l.map Fl.ab = x1.ds.L from rfl, hd1]
    simp only [oneA, totA_one]
    simp only [List.length_cons, List.length_nil] at hy
    omega
  repeat' ((fail_if_success (show wpO _ _ _ (⟨_, .binOp _ 9 _ _ _, _, _, _, _⟩ :: _) _ _ _)); first | (show wpO _ _ _ _ _ _ _; first | refine wpO_nil ?_ | (show wpO _ _ _ (⟨_, .binOp _ _ _ _ _, _, _, _, _⟩ :: _) _ _ _; first | refine s_tt ?_ | refine s_ff ?_ | refine s_rdp ?_ | (refine s_cmp (fun _ => ?_) (fun _ => ?_) <;> (first | (exfalso; omega) | contradiction | skip)) | (refine s_cb (fun _ => ?_) (fun _ => ?_) <;> (first | (exfalso; omega) | contradiction | skip)) | refine s_sks ?_ | (refine s_g (fun _ => ?_) (fun _ => ?_) <;> (first | (exfalso; omega) | contradiction | skip))) | (show wpO _ _ _ (⟨_, .pick _ _ _, _, _, _, _⟩ :: _) _ _ _; first | refine s_rdp ?_ | (refine s_p (fun _ => ?_) (fun _ => ?_) <;> (first | (exfalso; omega) | contradiction | skip)) | refine s_sks ?_ | (refine s_g (fun _ => ?_) (fun _ => ?_) <;> (first | (exfalso; omega) | contradiction | skip))) | (show wpO _ _ _ (⟨_, .convert _ _ _, _, _, _, _⟩ :: _) _ _ _; first | (refine s_exs ?_; refine e_mark ?_) | refine s_rdm ?_ (hr := by first | (apply rd_bytesStrO; (conv => lhs; whnf); assumption; exact Sbs.sub (self := by infer_instance); exact rfl; exact rfl; exact rfl; done) | (apply rd_bytesStr; (conv => lhs; whnf); assumption; exact Sbs.sub (self := by infer_instance); exact rfl; exact rfl; exact rfl; done)) | refine s_sks ?_ | (refine s_g (fun _ => ?_) (fun _ => ?_) <;> (first | (exfalso; omega) | contradiction | skip))) | refine s_rdp ?_ | refine s_rdm ?_ | refine s_exq ?_ | refine s_exm ?_ | refine s_sks ?_ | refine s_skn ?_ | (refine s_g (fun _ => ?_) (fun _ => ?_) <;> (first | (exfalso; omega) | contradiction | skip))) | (show Ex _ _ _ _ _; first | (show Ex _ ⟨_, .call ⟨.value (.func _), _, _⟩, _, _, _, _⟩ _ _ _; refine e_call ?_; first | (apply p_pcs; apply load_E _ hx1 ht1 hl1; (try case hS => assumption); (case hpcs => (repeat (first | exact Pcs.blk (by infer_instance) | exact Pcs.nil | (apply Pcs.cons; infer_instance) | apply Pcs.app))))) | (show Ex _ ⟨_, .convert _ _ _, _, _, _, _⟩ _ _ _; refine e_mark ?_) | (show Ex _ ⟨_, .buildSlice _ _ _, _, _, _, _⟩ _ _ _; first | (refine e_buildSlice ?_; intro _) | (refine e_buildNil ?_; intro _ _ _))) | (show wpC _ _ _ _ _ _; first | refine wpC_seq ?_ | refine wpC_region ?_ | refine c_true ?_ | refine c_false ?_ | (refine c_b (fun _ => ?_) (fun _ => ?_) <;> (first | (exfalso; omega) | contradiction | skip)) | refine wpC_ret ?_ | refine wpC_skip ?_ | refine wpC_label ?_) | (show Then _ _ _ _ _ _ _; first | refine then_normal ?_ | refine then_ret ?_) | (show RetP _ _ _ _ _ _ _ _; first | refine r_1 ?_) | assumption | intro _)
  refine s_strEqT ?_ rfl
  repeat' (first | (show wpO _ _ _ _ _ _ _; first | refine wpO_nil ?_ | (show wpO _ _ _ (⟨_, .binOp _ _ _ _ _, _, _, _, _⟩ :: _) _ _ _; first | refine s_tt ?_ | refine s_ff ?_ | refine s_rdp ?_ | (refine s_cmp (fun _ => ?_) (fun _ => ?_) <;> (first | (exfalso; omega) | contradiction | skip)) | (refine s_cb (fun _ => ?_) (fun _ => ?_) <;> (first | (exfalso; omega) | contradiction | skip)) | refine s_sks ?_ | (refine s_g (fun _ => ?_) (fun _ => ?_) <;> (first | (exfalso; omega) | contradiction | skip))) | (show wpO _ _ _ (⟨_, .pick _ _ _, _, _, _, _⟩ :: _) _ _ _; first | refine s_rdp ?_ | (refine s_p (fun _ => ?_) (fun _ => ?_) <;> (first | (exfalso; omega) | contradiction | skip)) | refine s_sks ?_ | (refine s_g (fun _ => ?_) (fun _ => ?_) <;> (first | (exfalso; omega) | contradiction | skip))) | (show wpO _ _ _ (⟨_, .convert _ _ _, _, _, _, _⟩ :: _) _ _ _; first | (refine s_exs ?_; refine e_mark ?_) | refine s_rdm ?_ (hr := by first | (apply rd_bytesStrO; (conv => lhs; whnf); assumption; exact Sbs.sub (self := by infer_instance); exact rfl; exact rfl; exact rfl; done) | (apply rd_bytesStr; (conv => lhs; whnf); assumption; exact Sbs.sub (self := by infer_instance); exact rfl; exact rfl; exact rfl; done)) | refine s_sks ?_ | (refine s_g (fun _ => ?_) (fun _ => ?_) <;> (first | (exfalso; omega) | contradiction | skip))) | refine s_rdp ?_ | refine s_rdm ?_ | refine s_exq ?_ | refine s_exm ?_ | refine s_sks ?_ | refine s_skn ?_ | (refine s_g (fun _ => ?_) (fun _ => ?_) <;> (first | (exfalso; omega) | contradiction | skip))) | (show Ex _ _ _ _ _; first | (show Ex _ ⟨_, .convert _ _ _, _, _, _, _⟩ _ _ _; refine e_mark ?_) | (show Ex _ ⟨_, .buildSlice _ _ _, _, _, _, _⟩ _ _ _; first | (refine e_buildSlice ?_; intro _) | (refine e_buildNil ?_; intro _ _ _))) | (show wpC _ _ _ _ _ _; first | refine wpC_seq ?_ | refine wpC_region ?_ | refine c_true ?_ | refine c_false ?_ | (refine c_b (fun _ => ?_) (fun _ => ?_) <;> (first | (exfalso; omega) | contradiction | skip)) | refine wpC_ret ?_ | refine wpC_skip ?_ | refine wpC_label ?_) | (show Then _ _ _ _ _ _ _; first | refine then_normal ?_ | refine then_ret ?_) | (show RetP _ _ _ _ _ _ _ _; first | refine r_1 ?_))
  exact q_drop hK
end Go.Vl

