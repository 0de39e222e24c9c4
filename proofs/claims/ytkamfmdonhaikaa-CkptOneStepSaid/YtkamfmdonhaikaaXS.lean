/-
  The law's state: what Load answers of a copy, started again.
-/
import Derived.Test.YtkamfmdonhaikaaXM
namespace Go.Vl
open Go.Proofs Go.RowKit
structure OpK where
  kind : Int
  slot : Int
  a : Option Addr
  c : Nat
  bs : List UInt8
  k : Int
  keep : Int
  nm : ByteArray
abbrev OpK.v (o : OpK) : Value := .slice o.a o.bs.length o.c
abbrev OpK.cells (o : OpK) : List Value := [.int .i64 o.kind, .int .i64 o.slot, o.v, .int .i64 o.k, .int .i64 o.keep, .string o.nm]
structure OpKOK (I : Hp) (o : OpK) : Prop where
  s : InSl I 1 (o.bs.map byC) o.v
  b : o.bs.length ≤ 140737488355000
  k : o.k ≤ 9223372036854775807
set_option maxHeartbeats 4000000 in
set_option maxRecDepth 100000 in
theorem restart_L (s : DS) : s.restart.2.L = s.L := by unfold DS.restart; split <;> rfl
set_option maxHeartbeats 4000000 in
set_option maxRecDepth 100000 in
theorem st_one {o : Option (Int × List UInt8)} {s : DS} (hL : s.L = oneA o) (hd : s.down = false) (he : okO o) : ∀ t : DS, t.E s.restart.2 → (loadA t).1 = ansA o := by
  intro t hE
  obtain ⟨L, left, keep, down⟩ := s
  simp only at hL hd
  subst hL hd
  have hr : (⟨oneA o, left, keep, false⟩ : DS).restart.2 = ⟨oneA o, left, keep, false⟩ := by unfold DS.restart; rw [if_neg (by simp)]
  rw [hr] at hE
  rw [E_one hE, load_one (o := o) rfl rfl he]
set_option maxHeartbeats 4000000 in
set_option maxRecDepth 100000 in
theorem st_left {o : Option (Int × List UInt8)} {s : DS} {y : List UInt8} {k n : Nat} (hE0 : s.E ⟨oneA o ++ [(newN, y, k)], 0, n, true⟩) (he : okO o) : ∀ t : DS, t.E s.restart.2 → (loadA t).1 = ansA o := by
  intro t hE
  have h2 := hE.trans (DS.restart_E hE0).2
  have hr : (⟨oneA o ++ [(newN, y, k)], 0, n, true⟩ : DS).restart.2 = ⟨oneA o ++ [(newN, y, k)], 0, n, false⟩ := by unfold DS.restart; rw [if_pos rfl]
  rw [hr] at h2
  exact load_left h2.L h2.down h2.left he
attribute [local irreducible] wpC wpO wpD Ex Rd callsK RetP Drop valK
set_option maxHeartbeats 4000000 in
set_option maxRecDepth 100000 in
theorem state6_spec (e : World) {F : Hp} {d m : Nat} {x : Dk} {room : Int} {K : Value → Hp → Prop} {sl er : Int} {bs : List UInt8} (hx : x.ok room) (ht : tot x.l ≤ 140737488355000) (hR : ∀ t : DS, t.E x.ds.restart.2 → (loadA t).1 = (sl, bs, er))
    (hK : ∀ v B, BytO v bs B → K (.tuple #[.int .i64 sl, v, .int .i64 er]) (B ++ (x.hp d m room ++ F))) : callsK Try.prog e 25 #[pv d] (x.hp d m room ++ F) K := by
  refine calls_body (N := 17) (args := [pv d]) Try.func25 rfl rfl rfl (by simp) ?_
  repeat' ((fail_if_success (show wpO _ _ _ (⟨_, .call ⟨.value (.func 29), _, _⟩, _, _, _, _⟩ :: _) _ _ _)); first | (show wpO _ _ _ _ _ _ _; first | refine wpO_nil ?_ | (show wpO _ _ _ (⟨_, .binOp _ _ _ _ _, _, _, _, _⟩ :: _) _ _ _; first | refine s_tt ?_ | refine s_ff ?_ | refine s_rdp ?_ | (refine s_cmp (fun _ => ?_) (fun _ => ?_) <;> (first | (exfalso; omega) | contradiction | skip)) | (refine s_cb (fun _ => ?_) (fun _ => ?_) <;> (first | (exfalso; omega) | contradiction | skip))) | refine s_rdp ?_ | refine s_rdm ?_ | refine s_exq ?_ | refine s_exm ?_) | (show Ex _ _ _ _ _; first | (show Ex _ ⟨_, .call ⟨.value (.func _), _, _⟩, _, _, _, _⟩ _ _ _; refine e_call ?_; first | (apply p_pcs; apply clone_D _ hx (by omega); (try case hS => assumption); (case hpcs => (repeat (first | exact Pcs.blk (by infer_instance) | exact Pcs.nil | (apply Pcs.cons; infer_instance) | apply Pcs.app)))))) | (show wpC _ _ _ _ _ _; first | refine wpC_seq ?_ | refine wpC_region ?_ | refine c_true ?_ | refine c_false ?_ | (refine c_b (fun _ => ?_) (fun _ => ?_) <;> (first | (exfalso; omega) | contradiction | skip)) | refine wpC_ret ?_ | refine wpC_skip ?_ | refine wpC_label ?_) | (show Then _ _ _ _ _ _ _; first | refine then_normal ?_ | refine then_ret ?_) | (show RetP _ _ _ _ _ _ _ _; first | refine r_3 ?_) | assumption | intro _)
  rename_i c m2 y hy hyE
  have hE' := (DS.restart_E hyE).2
  repeat' ((fail_if_success (show wpO _ _ _ (⟨_, .call ⟨.value (.func 41), _, _⟩, _, _, _, _⟩ :: _) _ _ _)); first | (show wpO _ _ _ _ _ _ _; first | refine wpO_nil ?_ | (show wpO _ _ _ (⟨_, .binOp _ _ _ _ _, _, _, _, _⟩ :: _) _ _ _; first | refine s_tt ?_ | refine s_ff ?_ | refine s_rdp ?_ | (refine s_cmp (fun _ => ?_) (fun _ => ?_) <;> (first | (exfalso; omega) | contradiction | skip)) | (refine s_cb (fun _ => ?_) (fun _ => ?_) <;> (first | (exfalso; omega) | contradiction | skip))) | refine s_rdp ?_ | refine s_rdm ?_ | refine s_exq ?_ | refine s_exm ?_) | (show Ex _ _ _ _ _; first | (show Ex _ ⟨_, .call ⟨.value (.func _), _, _⟩, _, _, _, _⟩ _ _ _; refine e_call ?_; first | (apply p_pcs; apply restart_D _ hy; (try case hS => assumption); (case hpcs => (repeat (first | exact Pcs.blk (by infer_instance) | exact Pcs.nil | (apply Pcs.cons; infer_instance) | apply Pcs.app)))))) | (show wpC _ _ _ _ _ _; first | refine wpC_seq ?_ | refine wpC_region ?_ | refine c_true ?_ | refine c_false ?_ | (refine c_b (fun _ => ?_) (fun _ => ?_) <;> (first | (exfalso; omega) | contradiction | skip)) | refine wpC_ret ?_ | refine wpC_skip ?_ | refine wpC_label ?_) | (show Then _ _ _ _ _ _ _; first | refine then_normal ?_ | refine then_ret ?_) | (show RetP _ _ _ _ _ _ _ _; first | refine r_3 ?_) | assumption | intro _)
  rename_i z hz hzE
  have hz2 : z.ds.E x.ds.restart.2 := hzE.trans hE'
  have hld : loadA z.ds = ((sl, bs, er), (loadA z.ds).2) := by rw [← hR _ hz2]
  have htz : tot z.l ≤ 140737488355000 := by
    have h1 := totA_perm hz2.L
    rw [restart_L] at h1
    rw [tot_totA] at ht ⊢
    exact (show totA (z.l.map Fl.ab) = totA (x.l.map Fl.ab) from h1) ▸ ht
  repeat' (first | (show wpO _ _ _ _ _ _ _; first | refine wpO_nil ?_ | (show wpO _ _ _ (⟨_, .binOp _ _ _ _ _, _, _, _, _⟩ :: _) _ _ _; first | refine s_tt ?_ | refine s_ff ?_ | refine s_rdp ?_ | (refine s_cmp (fun _ => ?_) (fun _ => ?_) <;> (first | (exfalso; omega) | contradiction | skip)) | (refine s_cb (fun _ => ?_) (fun _ => ?_) <;> (first | (exfalso; omega) | contradiction | skip))) | refine s_rdp ?_ | refine s_rdm ?_ | refine s_exq ?_ | refine s_exm ?_) | (show Ex _ _ _ _ _; first | (show Ex _ ⟨_, .call ⟨.value (.func _), _, _⟩, _, _, _, _⟩ _ _ _; refine e_call ?_; first | (apply p_pcs; apply load_E _ hz htz hld; (try case hS => assumption); (case hpcs => (repeat (first | exact Pcs.blk (by infer_instance) | exact Pcs.nil | (apply Pcs.cons; infer_instance) | apply Pcs.app)))))) | (show wpC _ _ _ _ _ _; first | refine wpC_seq ?_ | refine wpC_region ?_ | refine c_true ?_ | refine c_false ?_ | (refine c_b (fun _ => ?_) (fun _ => ?_) <;> (first | (exfalso; omega) | contradiction | skip)) | refine wpC_ret ?_ | refine wpC_skip ?_ | refine wpC_label ?_) | (show Then _ _ _ _ _ _ _; first | refine then_normal ?_ | refine then_ret ?_) | (show RetP _ _ _ _ _ _ _ _; first | refine r_3 ?_) | assumption | intro _)
  all_goals first | exact q_drop (hK _ _ ‹_›) | trace_state
end Go.Vl
