/-
  The law's group of replicas and leaders.
-/
import Derived.Test.YtpegidbkplgplaaHB
namespace Go.Vl
open Go.Proofs Classical
set_option maxHeartbeats 4000000 in
set_option maxRecDepth 100000 in
theorem info72 : ∃ i, Try.prog.info? 72 = some i ∧ i.zero = some (.agg #[.int .i64 0, .int .i64 0, .slice none 0 0]) ∧ i.size = 3 ∧ i.bytes = 40 := by
  have h1 : (Try.prog.info? 72).bind (fun i => i.zero) = some (.agg #[.int .i64 0, .int .i64 0, .slice none 0 0]) := by kernel_rfl
  have h2 : (Try.prog.info? 72).map (fun i => (i.size, i.bytes)) = some (3, 40) := by kernel_rfl
  cases h : Try.prog.info? 72 with
  | none => rw [h] at h2; cases h2
  | some i =>
    rw [h] at h1 h2
    simp only [Option.map_some, Option.some.injEq, Prod.mk.injEq] at h2
    exact ⟨i, rfl, h1, h2.1, h2.2⟩
set_option maxHeartbeats 4000000 in
set_option maxRecDepth 100000 in
theorem info4 : ∃ i, Try.prog.info? 4 = some i ∧ i.zero = some (.bool false) ∧ i.size = 1 ∧ i.bytes = 1 := by
  have h1 : (Try.prog.info? 4).bind (fun i => i.zero) = some (.bool false) := by kernel_rfl
  have h2 : (Try.prog.info? 4).map (fun i => (i.size, i.bytes)) = some (1, 1) := by kernel_rfl
  cases h : Try.prog.info? 4 with
  | none => rw [h] at h2; cases h2
  | some i =>
    rw [h] at h1 h2
    simp only [Option.map_some, Option.some.injEq, Prod.mk.injEq] at h2
    exact ⟨i, rfl, h1, h2.1, h2.2⟩
section
variable {N : Nat} {rr : Option Nat} {e : World} {ρ : Fr} {H : Hp} {d : Option Nat} {ty : TypeId} {pos : String} {af : Array Edge} {g : Option (Nat × Bool)} {K : Value → Hp → Prop}
set_option maxHeartbeats 4000000 in
set_option maxRecDepth 100000 in
theorem e_mk65 {x : Operand} {n : Nat} (h : ∀ b, K (.slice (some ⟨b, 0, none⟩) n n) ((b, cellsO (List.replicate n [Value.int .i64 0, Value.int .i64 0, Value.slice none 0 0]).flatten 72) :: H)) (hx : ev ρ x = .int .i64 (n : Int)) (hn : n ≤ 5) : Ex ⟨Try.prog, N, rr, e⟩ ⟨d, .makeSlice 65 x x, ty, pos, af, g⟩ K ρ H := by
  obtain ⟨i, h1, h2, h3, h4⟩ := info72
  exact e_makeSlice (el := 72) h hx (by kernel_rfl) h1 h2 h3 (by decide) (by rw [h4]; omega) (by omega)
set_option maxHeartbeats 4000000 in
set_option maxRecDepth 100000 in
theorem e_mk99 {x : Operand} {n : Nat} (h : ∀ b, K (.slice (some ⟨b, 0, none⟩) n n) ((b, cellsO (List.replicate n [Value.bool false]).flatten 4) :: H)) (hx : ev ρ x = .int .i64 (n : Int)) (hn : n ≤ 5) : Ex ⟨Try.prog, N, rr, e⟩ ⟨d, .makeSlice 99 x x, ty, pos, af, g⟩ K ρ H := by
  obtain ⟨i, h1, h2, h3, h4⟩ := info4
  exact e_makeSlice (el := 4) h hx (by kernel_rfl) h1 h2 h3 (by decide) (by rw [h4]; omega) (by omega)
end
def rep0 : Nat → Rep := fun _ => ⟨⟨0, 0⟩, .slice none 0 0, [], []⟩
set_option maxHeartbeats 4000000 in
set_option maxRecDepth 100000 in
theorem repL_0 : ∀ n : Nat, (List.replicate n [Value.int .i64 0, Value.int .i64 0, Value.slice none 0 0]).flatten = repL rep0 n
  | 0 => rfl
  | n + 1 => by
    rw [List.replicate_succ', List.flatten_append, repL_0 n, repL_succ]
    rfl
/-- leaders' blocks, in a row -/
def ldsH (A : Nat → Ld) : List (Nat × LdR) → Hp
  | [] => []
  | x :: l => x.2.hp (A l.length) x.1 ++ ldsH A l
def ldA (n : Nat) (j : Nat) : Ld := newA ⟨(j : Int) + 1, ((j % n : Nat) : Int)⟩ 0 n
structure GrS where
  k : Nat
  vl : Value
  Bl : Hp
  va : Value
  Ba : Hp
  ds : List (Nat × LdR)
  aa : List Nat
  X : Hp
  Y : Hp
structure GrOK (n : Nat) (s : GrS) : Prop where
  l : SlO 43 1 s.vl s.k (s.ds.reverse.map fun x => pv x.1) s.Bl
  a : SlO 99 1 s.va s.k (s.aa.map fun b => Value.slice (some ⟨b, 0, none⟩) n n) s.Ba
  ok : ∀ A x B, s.ds = A ++ x :: B → x.2.ok (ldA n B.length)
  dl : s.ds.length = s.k
  x : s.X = ldsH (ldA n) s.ds
  y : s.Y = s.aa.map fun b => (b, cellsO (List.replicate n [Value.bool false]).flatten 4)
attribute [local irreducible] eqW eqV wpC wpO wpD Ex Rd callsK RetP Drop valK
set_option maxHeartbeats 4000000 in
set_option maxRecDepth 100000 in
theorem pnewE (e : World) {b : Bal} {fr : Int} {n : Nat} {F : Hp} {K : Value → Hp → Prop} (hok : newOK b fr (n : Int)) (h0 : ∀ (d : Nat) (r : LdR), r.ok (newA b fr n) → K (.tuple #[pv d, .int .i64 0]) (r.hp (newA b fr n) d ++ F)) :
    callsK Try.prog e 8 #[.agg b.cells.toArray, .int .i64 fr, .int .i64 (n : Int)] F K :=
  pnew e (fun h => absurd hok h) fun _ d H hH => by
    rw [Int.toNat_natCast] at hH
    obtain ⟨r, h1, rfl⟩ := hH
    exact h0 d r h1
set_option maxHeartbeats 4000000 in
set_option maxRecDepth 100000 in
theorem newGroup_spec (e : World) {n L : Nat} {F : Hp} {K : Value → Hp → Prop} (hn1 : 1 ≤ n) (hn5 : n ≤ 5) (hL : L ≤ 1000)
    (hK : ∀ gb rb, ∀ s : GrS, s.k = L → GrOK n s → K (pv gb) (([(gb, cellsO [.int .i64 (n : Int), .slice (some ⟨rb, 0, none⟩) n n, s.vl, s.va] 69), (rb, cellsO (repL rep0 n) 72)] ++ (s.Bl ++ (s.Ba ++ (s.X ++ s.Y)))) ++ F)) :
    callsK Try.prog e 18 #[.int .i64 (n : Int), .int .i64 (L : Int)] F K := by
  refine calls_body (N := 58) (args := [.int .i64 (n : Int), .int .i64 (L : Int)]) Try.func18 rfl rfl rfl (by simp) ?_
  repeat' ((fail_if_success (show wpC _ (.loop _) _ _ _ _)); first | (show wpO _ _ _ _ _ _ _; first | refine wpO_nil ?_ | (show wpO _ _ _ (⟨_, .binOp _ _ _ _ _, _, _, _, _⟩ :: _) _ _ _; first | refine s_tt ?_ | refine s_ff ?_ | refine s_rdp ?_ | (refine s_cmp (fun _ => ?_) (fun _ => ?_) <;> (first | (exfalso; omega) | contradiction | skip)) | (refine s_cb (fun _ => ?_) (fun _ => ?_) <;> (first | (exfalso; omega) | contradiction | skip)) | refine s_sks ?_ | (refine s_g (fun _ => ?_) (fun _ => ?_) <;> (first | (exfalso; omega) | contradiction | skip))) | (show wpO _ _ _ (⟨_, .pick _ _ _, _, _, _, _⟩ :: _) _ _ _; first | refine s_rdp ?_ | (refine s_p (fun _ => ?_) (fun _ => ?_) <;> (first | (exfalso; omega) | contradiction | skip)) | refine s_sks ?_ | (refine s_g (fun _ => ?_) (fun _ => ?_) <;> (first | (exfalso; omega) | contradiction | skip))) | refine s_rdp ?_ | refine s_rdm ?_ | refine s_exq ?_ | refine s_exm ?_ | refine s_sks ?_ | refine s_skn ?_ | (refine s_g (fun _ => ?_) (fun _ => ?_) <;> (first | (exfalso; omega) | contradiction | skip))) | (show Ex _ _ _ _ _; first | (refine e_mk65 (n := n) (fun _ => ?_) (by exact rfl) hn5) | (show Ex _ ⟨_, .box _ _, _, _, _, _⟩ _ _ _; first | (refine e_boxA ?_; intro _) | (refine e_box1 ?_; intro _)) | (show Ex _ ⟨_, .store _ _ _, _, _, _, _⟩ _ _ _; first | refine e_store1 ?_ | refine e_storeA ?_ | (refine e_storeO ?_; intro _ _)) | (show Ex _ ⟨_, .buildSlice _ _ _, _, _, _, _⟩ _ _ _; first | (refine e_buildSlice ?_; intro _) | (refine e_buildNil ?_; intro _ _ _)) | (show Ex _ ⟨_, .call ⟨.builtin .append, _, _⟩, _, _, _, _⟩ _ _ _; (first | refine e_append ?_ | refine e_appendIn ?_); intro _ _ _)) | (show wpC _ _ _ _ _ _; first | refine wpC_seq ?_ | refine wpC_region ?_ | refine c_true ?_ | refine c_false ?_ | (refine c_b (fun _ => ?_) (fun _ => ?_) <;> (first | (exfalso; omega) | contradiction | skip)) | refine wpC_block ?_ | refine wpC_ret ?_ | refine wpC_skip ?_ | refine wpC_exit ?_ | refine wpC_label ?_ | (apply wpC_drawX (id := 9) ([]) [0, 1, 2, 3, 4, 5, 6, 7, 8, 9, 10, 11] rfl (by kernel_rfl); (case hpk => (repeat (first | exact Pcs.blk (by infer_instance) | exact Pcs.nil | (apply Pcs.cons; infer_instance) | apply Pcs.app))))) | (show Then _ _ _ _ _ _ _; first | refine then_normal ?_ | refine then_ret ?_ | refine then_exit ?_) | (show InBlock _ _ _ _ _ _; first | refine inBlock_normal ?_ | refine inBlock_ret ?_ | refine inBlock_same ?_ | refine b_other ?_) | (show LoopPost _ _ _ _ _ _; first | refine loop_ret ?_ | refine loop_exit ?_) | (show wpD _ _ _ _ _ _ _ _; first | refine wpD_nil ?_ | refine d_rdp ?_ | refine d_rdm ?_ | refine d_sks ?_ | refine d_tt ?_ | refine d_ff ?_ | (refine d_cmp (fun _ => ?_) (fun _ => ?_) <;> (first | (exfalso; omega) | contradiction | skip)) | (refine d_cb (fun _ => ?_) (fun _ => ?_) <;> (first | (exfalso; omega) | contradiction | skip)) | refine d_exs ?_ | refine d_exn ?_ | (refine d_p (fun _ => ?_) (fun _ => ?_) <;> (first | (exfalso; omega) | contradiction | skip)) | (refine d_g (fun _ => ?_) (fun _ => ?_) <;> (first | (exfalso; omega) | contradiction | skip))) | (show (_ ∨ Subs _ _) ∧ _; first | refine d_sub ?_ | refine d_cov ?_) | (show RetP _ _ _ _ _ _ _ _; first | refine r_1 ?_) | assumption | intro _)
  rename_i rb gb
  rw [repL_0]
  have hG0 : GrOK n ⟨0, .slice none 0 0, [], .slice none 0 0, [], [], [], [], []⟩ := ⟨SlO.nil 43 1, SlO.nil 99 1, fun A x B h => by (cases A with | nil => cases h | cons _ _ => cases h), rfl, rfl, rfl⟩
  refine wpC_loopA (κ := GrS) [4, 6, 7, 8, 15, 16, 17, 18, 19, 20, 21, 22, 23, 24, 25, 26, 27, 28, 29, 30, 31, 32, 33, 34, 35, 36, 37, 38, 39, 40, 41, 42, 43, 44, 45, 46, 47, 48, 49, 50, 51, 52, 53, 54, 55, 56] (fun s => [(15, .int .i64 (s.k : Int))]) (fun s => ([(gb, cellsO [.int .i64 (n : Int), .slice (some ⟨rb, 0, none⟩) n n, s.vl, s.va] 69), (rb, cellsO (repL rep0 n) 72)] ++ (s.Bl ++ (s.Ba ++ (s.X ++ s.Y)))) ++ F)
    (fun s => s.k ≤ L ∧ GrOK n s) (fun s => L - s.k) ⟨0, .slice none 0 0, [], .slice none 0 0, [], [], [], [], []⟩ ⟨Nat.zero_le _, hG0⟩ ⟨rfl, trivial⟩ q_drp ?_
  rintro ⟨k, vl, Bl, va, Ba, ds, aa, X, Y⟩ ρx ⟨hk, hG⟩
  simp only at hk ⊢
  by_cases hlt : k < L
  · have hgl := hG.l
    have hga := hG.a
    simp only at hgl hga
    have hmod : k % n < n := Nat.mod_lt _ (by omega)
    have hok : newOK ⟨(k : Int) + 1, ((k % n : Nat) : Int)⟩ 0 (n : Int) := by constructor <;> (try simp only) <;> omega
    repeat' (first | (refine s_rdp ?_ (hr := by (apply (rd_remU (a := k) (b := n)); exact rfl; exact rfl; omega; done))) | (show wpO _ _ _ _ _ _ _; first | refine wpO_nil ?_ | (show wpO _ _ _ (⟨_, .binOp _ _ _ _ _, _, _, _, _⟩ :: _) _ _ _; first | refine s_tt ?_ | refine s_ff ?_ | refine s_rdp ?_ | (refine s_cmp (fun _ => ?_) (fun _ => ?_) <;> (first | (exfalso; omega) | contradiction | skip)) | (refine s_cb (fun _ => ?_) (fun _ => ?_) <;> (first | (exfalso; omega) | contradiction | skip)) | refine s_sks ?_ | (refine s_g (fun _ => ?_) (fun _ => ?_) <;> (first | (exfalso; omega) | contradiction | skip))) | (show wpO _ _ _ (⟨_, .pick _ _ _, _, _, _, _⟩ :: _) _ _ _; first | refine s_rdp ?_ | (refine s_p (fun _ => ?_) (fun _ => ?_) <;> (first | (exfalso; omega) | contradiction | skip)) | refine s_sks ?_ | (refine s_g (fun _ => ?_) (fun _ => ?_) <;> (first | (exfalso; omega) | contradiction | skip))) | refine s_rdp ?_ | refine s_rdm ?_ | refine s_exq ?_ | refine s_exm ?_ | refine s_sks ?_ | refine s_skn ?_ | (refine s_g (fun _ => ?_) (fun _ => ?_) <;> (first | (exfalso; omega) | contradiction | skip))) | (show Ex _ _ _ _ _; first | (refine e_mk99 (n := n) (fun _ => ?_) (by exact rfl) hn5) | (show Ex _ ⟨_, .call ⟨.value (.func _), _, _⟩, _, _, _, _⟩ _ _ _; refine e_call ?_; first | (apply pnewE _ hok)) | (show Ex _ ⟨_, .box _ _, _, _, _, _⟩ _ _ _; first | (refine e_boxA ?_; intro _) | (refine e_box1 ?_; intro _)) | (show Ex _ ⟨_, .store _ _ _, _, _, _, _⟩ _ _ _; first | refine e_store1 ?_ | refine e_storeA ?_ | (refine e_storeO ?_; intro _ _)) | (show Ex _ ⟨_, .buildSlice _ _ _, _, _, _, _⟩ _ _ _; first | (refine e_buildSlice ?_; intro _) | (refine e_buildNil ?_; intro _ _ _)) | (show Ex _ ⟨_, .call ⟨.builtin .append, _, _⟩, _, _, _, _⟩ _ _ _; (first | refine e_append ?_ | refine e_appendIn ?_); intro _ _ _)) | (show wpC _ _ _ _ _ _; first | refine wpC_seq ?_ | refine wpC_region ?_ | refine c_true ?_ | refine c_false ?_ | (refine c_b (fun _ => ?_) (fun _ => ?_) <;> (first | (exfalso; omega) | contradiction | skip)) | refine wpC_block ?_ | refine wpC_ret ?_ | refine wpC_skip ?_ | refine wpC_exit ?_ | refine wpC_label ?_ | (apply wpC_drawX (id := 9) (Ba) [0, 1, 2, 3, 4, 5, 6, 7, 8, 9, 10, 11] rfl (by kernel_rfl); (case hpk => (repeat (first | exact Pcs.blk (by infer_instance) | exact Pcs.nil | (apply Pcs.cons; infer_instance) | apply Pcs.app))))) | (show Then _ _ _ _ _ _ _; first | refine then_normal ?_ | refine then_ret ?_ | refine then_exit ?_) | (show InBlock _ _ _ _ _ _; first | refine inBlock_normal ?_ | refine inBlock_ret ?_ | refine inBlock_same ?_ | refine b_other ?_) | (show LoopPost _ _ _ _ _ _; first | refine loop_ret ?_ | refine loop_exit ?_) | (show wpD _ _ _ _ _ _ _ _; first | refine wpD_nil ?_ | refine d_rdp ?_ | refine d_rdm ?_ | refine d_sks ?_ | refine d_tt ?_ | refine d_ff ?_ | (refine d_cmp (fun _ => ?_) (fun _ => ?_) <;> (first | (exfalso; omega) | contradiction | skip)) | (refine d_cb (fun _ => ?_) (fun _ => ?_) <;> (first | (exfalso; omega) | contradiction | skip)) | refine d_exs ?_ | refine d_exn ?_ | (refine d_p (fun _ => ?_) (fun _ => ?_) <;> (first | (exfalso; omega) | contradiction | skip)) | (refine d_g (fun _ => ?_) (fun _ => ?_) <;> (first | (exfalso; omega) | contradiction | skip))) | (show (_ ∨ Subs _ _) ∧ _; first | refine d_sub ?_ | refine d_cov ?_) | (show RetP _ _ _ _ _ _ _ _; first | refine r_1 ?_) | assumption | intro _)
    all_goals first | (exfalso; omega) | skip
    rename_i d r hr bx1 v1 B1 hv1 ab bx2 v2 B2 hv2
    have hdl := hG.dl
    have hgx := hG.x
    have hgy := hG.y
    have hgo := hG.ok
    simp only at hdl hgx hgy hgo
    refine lp_end ⟨k + 1, v1, B1, v2, B2, (d, r) :: ds, aa ++ [ab], r.hp (newA ⟨(k : Int) + 1, ((k % n : Nat) : Int)⟩ 0 n) d ++ X, Y ++ [(ab, cellsO (List.replicate n [Value.bool false]).flatten 4)]⟩ (by simp only; omega) ⟨by simp only; omega, ⟨hv1.cast rfl (by simp), hv2.cast rfl (by simp), ?_, by simp only [List.length_cons]; rw [hdl], ?_, by simp only; rw [hgy]; simp⟩⟩
    · rintro A x B hA
      cases A with
      | nil =>
        obtain ⟨rfl, rfl⟩ := List.cons.inj hA
        rw [hdl]; exact hr
      | cons y A => exact hgo A x B (List.cons.inj hA).2
    · show _ = r.hp (ldA n ds.length) d ++ ldsH (ldA n) ds
      rw [hdl, ← hgx]; rfl
  · obtain rfl : k = L := by omega
    repeat' (first | (show wpO _ _ _ _ _ _ _; first | refine wpO_nil ?_ | (show wpO _ _ _ (⟨_, .binOp _ _ _ _ _, _, _, _, _⟩ :: _) _ _ _; first | refine s_tt ?_ | refine s_ff ?_ | refine s_rdp ?_ | (refine s_cmp (fun _ => ?_) (fun _ => ?_) <;> (first | (exfalso; omega) | contradiction | skip)) | (refine s_cb (fun _ => ?_) (fun _ => ?_) <;> (first | (exfalso; omega) | contradiction | skip)) | refine s_sks ?_ | (refine s_g (fun _ => ?_) (fun _ => ?_) <;> (first | (exfalso; omega) | contradiction | skip))) | (show wpO _ _ _ (⟨_, .pick _ _ _, _, _, _, _⟩ :: _) _ _ _; first | refine s_rdp ?_ | (refine s_p (fun _ => ?_) (fun _ => ?_) <;> (first | (exfalso; omega) | contradiction | skip)) | refine s_sks ?_ | (refine s_g (fun _ => ?_) (fun _ => ?_) <;> (first | (exfalso; omega) | contradiction | skip))) | refine s_rdp ?_ | refine s_rdm ?_ | refine s_exq ?_ | refine s_exm ?_ | refine s_sks ?_ | refine s_skn ?_ | (refine s_g (fun _ => ?_) (fun _ => ?_) <;> (first | (exfalso; omega) | contradiction | skip))) | (show Ex _ _ _ _ _; first | (show Ex _ ⟨_, .box _ _, _, _, _, _⟩ _ _ _; first | (refine e_boxA ?_; intro _) | (refine e_box1 ?_; intro _)) | (show Ex _ ⟨_, .store _ _ _, _, _, _, _⟩ _ _ _; first | refine e_store1 ?_ | refine e_storeA ?_ | (refine e_storeO ?_; intro _ _)) | (show Ex _ ⟨_, .buildSlice _ _ _, _, _, _, _⟩ _ _ _; first | (refine e_buildSlice ?_; intro _) | (refine e_buildNil ?_; intro _ _ _)) | (show Ex _ ⟨_, .call ⟨.builtin .append, _, _⟩, _, _, _, _⟩ _ _ _; (first | refine e_append ?_ | refine e_appendIn ?_); intro _ _ _)) | (show wpC _ _ _ _ _ _; first | refine wpC_seq ?_ | refine wpC_region ?_ | refine c_true ?_ | refine c_false ?_ | (refine c_b (fun _ => ?_) (fun _ => ?_) <;> (first | (exfalso; omega) | contradiction | skip)) | refine wpC_block ?_ | refine wpC_ret ?_ | refine wpC_skip ?_ | refine wpC_exit ?_ | refine wpC_label ?_ | (apply wpC_drawX (id := 9) ([]) [0, 1, 2, 3, 4, 5, 6, 7, 8, 9, 10, 11] rfl (by kernel_rfl); (case hpk => (repeat (first | exact Pcs.blk (by infer_instance) | exact Pcs.nil | (apply Pcs.cons; infer_instance) | apply Pcs.app))))) | (show Then _ _ _ _ _ _ _; first | refine then_normal ?_ | refine then_ret ?_ | refine then_exit ?_) | (show InBlock _ _ _ _ _ _; first | refine inBlock_normal ?_ | refine inBlock_ret ?_ | refine inBlock_same ?_ | refine b_other ?_) | (show LoopPost _ _ _ _ _ _; first | refine loop_ret ?_ | refine loop_exit ?_) | (show wpD _ _ _ _ _ _ _ _; first | refine wpD_nil ?_ | refine d_rdp ?_ | refine d_rdm ?_ | refine d_sks ?_ | refine d_tt ?_ | refine d_ff ?_ | (refine d_cmp (fun _ => ?_) (fun _ => ?_) <;> (first | (exfalso; omega) | contradiction | skip)) | (refine d_cb (fun _ => ?_) (fun _ => ?_) <;> (first | (exfalso; omega) | contradiction | skip)) | refine d_exs ?_ | refine d_exn ?_ | (refine d_p (fun _ => ?_) (fun _ => ?_) <;> (first | (exfalso; omega) | contradiction | skip)) | (refine d_g (fun _ => ?_) (fun _ => ?_) <;> (first | (exfalso; omega) | contradiction | skip))) | (show (_ ∨ Subs _ _) ∧ _; first | refine d_sub ?_ | refine d_cov ?_) | (show RetP _ _ _ _ _ _ _ _; first | refine r_1 ?_))
    all_goals first | (exfalso; omega) | exact q_drop (hK gb rb _ rfl hG) | trace_state
end Go.Vl
