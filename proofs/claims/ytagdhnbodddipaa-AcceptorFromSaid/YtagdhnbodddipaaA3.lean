/-
  The acceptor in memory; small methods.
-/
import Derived.Test.YtagdhnbodddipaaA2
namespace Go.Vl
open Go.Proofs
abbrev pv (n : Nat) : Value := .pointer (some ⟨n, 0, none⟩)
/-- something accepted, its lists' blocks -/
structure SlR where
  slot : Int
  bal : Bal
  en : EnR
  Bo : Hp
  Bd : Hp
abbrev SlR.cells (s : SlR) : List Value := .int .i64 s.slot :: .int .i64 s.bal.r :: .int .i64 s.bal.p :: s.en.cells
abbrev SlR.hp (s : SlR) : Hp := s.Bo ++ s.Bd
abbrev SlR.c (s : SlR) : Sl := ⟨s.slot, s.bal, s.en.c⟩
def SlR.ok (s : SlR) : Prop := EnO s.en s.Bo s.Bd
def acH (l : List SlR) : Hp := l.flatMap SlR.hp
set_option maxHeartbeats 4000000 in
set_option maxRecDepth 100000 in
theorem acH_cons (s : SlR) (l : List SlR) : acH (s :: l) = s.hp ++ acH l := rfl
set_option maxHeartbeats 4000000 in
set_option maxRecDepth 100000 in
theorem acH_app (a b : List SlR) : acH (a ++ b) = acH a ++ acH b := List.flatMap_append
set_option maxHeartbeats 4000000 in
set_option maxRecDepth 100000 in
theorem EnO.inn {e : EnR} {Bo Bd : Hp} (h : EnO e Bo Bd) : EnIn (Bo ++ Bd) e :=
  ⟨(SlO.inB (by rw [List.length_map]; exact h.o) (fun r hr => by obtain ⟨u, _, rfl⟩ := List.mem_map.1 hr; exact ⟨rfl, rfl⟩)).more fun x hx => List.mem_append_left _ hx,
   (SlO.inB (by rw [List.length_map]; exact h.d) (fun r hr => by obtain ⟨u, _, rfl⟩ := List.mem_map.1 hr; exact ⟨rfl, rfl⟩)).more fun x hx => List.mem_append_right _ hx⟩
set_option maxHeartbeats 4000000 in
set_option maxRecDepth 100000 in
theorem EnIn.more {P Q : Hp} {e : EnR} (h : EnIn P e) (hs : ∀ x ∈ P, x ∈ Q) : EnIn Q e := ⟨h.o.more hs, h.d.more hs⟩
set_option maxHeartbeats 4000000 in
set_option maxRecDepth 100000 in
theorem acH_in {s : SlR} {l : List SlR} (h : s ∈ l) (hs : s.ok) : EnIn (acH l) s.en := (EnO.inn hs).more fun _ hx => List.mem_flatMap.2 ⟨s, h, hx⟩
abbrev slV (s : SlR) : Value := .agg s.cells.toArray
abbrev MapS (es : Array MapEntry) (clk : Nat) (l : List SlR) : Prop := MapK (Value.int .i64) slV es clk (l.map fun s => (s.slot, s))
abbrev accO (d m : Nat) (es : Array MapEntry) (clk : Nat) (prom : Bal) (first : Int) : Hp := [(d, cellsO [.int .i64 prom.r, .int .i64 prom.p, .int .i64 first, .map (some m)] 91), (m, .map es clk)]
attribute [local irreducible] wpC wpO wpD Ex Rd callsK RetP Drop valK
set_option maxHeartbeats 4000000 in
set_option maxRecDepth 100000 in
theorem twin_spec (e : World) {s : SlR} {P F : Hp} {K : Value → Hp → Prop} (hx : EnIn P s.en) (hz : EnSz s.en.c) (hK : ∀ y : SlR, y.c = s.c → y.ok → K (slV y) (y.hp ++ (P ++ F))) :
    callsK Try.prog e 64 #[slV s] (P ++ F) K := by
  have hxo := hx.o
  have hxd := hx.d
  refine calls_body (N := 8) (args := [slV s]) Try.func64 rfl rfl rfl (by simp) ?_
  repeat' (first | refine r_CA ?_ | (show wpO _ _ _ _ _ _ _; first | refine wpO_nil ?_ | refine s_rdp ?_ | refine s_rdm ?_ | refine s_exq ?_ | refine s_exm ?_) | (show Ex _ _ _ _ _; first | (show Ex _ ⟨_, .call ⟨.value (.func _), _, _⟩, _, _, _, _⟩ _ _ _; refine e_call ?_; first | (apply p_pcs; apply cloneEntry_spec _ hx hz; (try case hS => assumption); (case hpcs => (repeat (first | exact Pcs.blk (by infer_instance) | exact Pcs.nil | (apply Pcs.cons; infer_instance) | apply Pcs.app))))) | (show Ex _ ⟨_, .alloc _, _, _, _, _⟩ _ _ _; first | (refine e_allocA ?_; intro _) | (refine e_alloc1 ?_; intro _)) | (show Ex _ ⟨_, .box _ _, _, _, _, _⟩ _ _ _; first | (refine e_boxA ?_; intro _) | (refine e_box1 ?_; intro _)) | (show Ex _ ⟨_, .store _ _ _, _, _, _, _⟩ _ _ _; first | refine e_store1 ?_ | refine e_storeA ?_ | (refine e_storeO ?_; intro _ _))) | (show wpC _ _ _ _ _ _; first | refine wpC_seq ?_ | refine wpC_region ?_ | refine wpC_ret ?_ | refine wpC_skip ?_ | refine wpC_label ?_) | (show Then _ _ _ _ _ _ _; first | refine then_normal ?_ | refine then_ret ?_) | (show RetP _ _ _ _ _ _ _ _; first | refine r_C1 ?_ | refine r_DC ?_) | assumption | intro _)
  rename_i b1 b2 y hy Bo Bd hO
  exact q_drop (hK ⟨s.slot, s.bal, y, Bo, Bd⟩ (by show Sl.mk _ _ _ = _; rw [hy]) hO)
set_option maxHeartbeats 4000000 in
set_option maxRecDepth 100000 in
theorem anew_spec (e : World) {F : Hp} {K : Value → Hp → Prop} (hK : ∀ d m, K (pv d) (accO d m #[] 0 ⟨0, 0⟩ 0 ++ F)) : callsK Try.prog e 19 #[] F K := by
  refine calls_body (N := 4) (args := []) Try.func19 rfl rfl rfl (by simp) ?_
  repeat' (first | (show wpO _ _ _ _ _ _ _; first | refine wpO_nil ?_ | refine s_rdp ?_ | refine s_rdm ?_ | refine s_exq ?_ | refine s_exm ?_) | (show Ex _ _ _ _ _; first | (show Ex _ ⟨_, .box _ _, _, _, _, _⟩ _ _ _; first | (refine e_boxA ?_; intro _) | (refine e_box1 ?_; intro _)) | (refine ex_makeMap ?_; intro _)) | (show wpC _ _ _ _ _ _; first | refine wpC_seq ?_ | refine wpC_region ?_ | refine wpC_ret ?_ | refine wpC_skip ?_ | refine wpC_label ?_) | (show Then _ _ _ _ _ _ _; first | refine then_normal ?_ | refine then_ret ?_) | (show RetP _ _ _ _ _ _ _ _; first | refine r_1 ?_))
  exact q_drop (hK _ _)
set_option maxHeartbeats 4000000 in
set_option maxRecDepth 100000 in
theorem none_a (e : World) {d m clk : Nat} {es : Array MapEntry} {prom : Bal} {first : Int} {F : Hp} {K : Value → Hp → Prop} (hK : K (.bool false) (accO d m es clk prom first ++ F)) : callsK Try.prog e 60 #[pv d] (accO d m es clk prom first ++ F) K := by
  refine calls_body (N := 12) (args := [pv d]) Try.func60 rfl rfl rfl (by simp) ?_
  repeat' (first | (show wpO _ _ _ _ _ _ _; first | refine wpO_nil ?_ | (show wpO _ _ _ (⟨_, .binOp _ _ _ _ _, _, _, _, _⟩ :: _) _ _ _; first | refine s_tt ?_ | refine s_ff ?_ | refine s_rdp ?_ | (refine s_cmp (fun _ => ?_) (fun _ => ?_) <;> (first | (exfalso; omega) | contradiction | skip)) | (refine s_cb (fun _ => ?_) (fun _ => ?_) <;> (first | (exfalso; omega) | contradiction | skip)) | refine s_sks ?_ | (refine s_g (fun _ => ?_) (fun _ => ?_) <;> (first | (exfalso; omega) | contradiction | skip))) | (show wpO _ _ _ (⟨_, .pick _ _ _, _, _, _, _⟩ :: _) _ _ _; first | refine s_rdp ?_ | (refine s_p (fun _ => ?_) (fun _ => ?_) <;> (first | (exfalso; omega) | contradiction | skip)) | refine s_sks ?_ | (refine s_g (fun _ => ?_) (fun _ => ?_) <;> (first | (exfalso; omega) | contradiction | skip))) | refine s_rdp ?_ | refine s_rdm ?_ | refine s_exq ?_ | refine s_exm ?_ | refine s_sks ?_ | refine s_skn ?_ | (refine s_g (fun _ => ?_) (fun _ => ?_) <;> (first | (exfalso; omega) | contradiction | skip))) | (show wpC _ _ _ _ _ _; first | refine wpC_seq ?_ | refine wpC_region ?_ | refine wpC_ret ?_ | refine wpC_skip ?_ | refine wpC_label ?_) | (show Then _ _ _ _ _ _ _; first | refine then_normal ?_ | refine then_ret ?_) | (show RetP _ _ _ _ _ _ _ _; first | refine r_1 ?_))
  exact q_drop hK
set_option maxHeartbeats 4000000 in
set_option maxRecDepth 100000 in
theorem prom_a (e : World) {d m clk : Nat} {es : Array MapEntry} {prom : Bal} {first : Int} {F : Hp} {K : Value → Hp → Prop} (hK : K (.agg prom.cells.toArray) (accO d m es clk prom first ++ F)) : callsK Try.prog e 33 #[pv d] (accO d m es clk prom first ++ F) K := by
  refine calls_body (N := 10) (args := [pv d]) Try.func33 rfl rfl rfl (by simp) ?_
  repeat' (first | refine r_CA ?_ | (show wpO _ _ _ _ _ _ _; first | refine wpO_nil ?_ | refine s_rdp ?_ | refine s_rdm ?_ | refine s_exq ?_ | refine s_exm ?_) | (show Ex _ _ _ _ _; first | (show Ex _ ⟨_, .call ⟨.value (.func _), _, _⟩, _, _, _, _⟩ _ _ _; refine e_call ?_; first | (apply p_pcs; apply none_a _; (try case hS => assumption); (case hpcs => (repeat (first | exact Pcs.blk (by infer_instance) | exact Pcs.nil | (apply Pcs.cons; infer_instance) | apply Pcs.app))))) | (show Ex _ ⟨_, .alloc _, _, _, _, _⟩ _ _ _; first | (refine e_allocA ?_; intro _) | (refine e_alloc1 ?_; intro _)) | (show Ex _ ⟨_, .store _ _ _, _, _, _, _⟩ _ _ _; first | refine e_store1 ?_ | refine e_storeA ?_ | (refine e_storeO ?_; intro _ _))) | (show wpC _ _ _ _ _ _; first | refine wpC_seq ?_ | refine wpC_region ?_ | refine c_true ?_ | refine c_false ?_ | (refine c_b (fun _ => ?_) (fun _ => ?_) <;> (first | (exfalso; omega) | contradiction | skip)) | refine wpC_ret ?_ | refine wpC_skip ?_ | refine wpC_label ?_) | (show Then _ _ _ _ _ _ _; first | refine then_normal ?_ | refine then_ret ?_) | (show RetP _ _ _ _ _ _ _ _; first | refine r_C1 ?_ | refine r_DC ?_) | assumption | intro _)
  exact q_drop hK
set_option maxHeartbeats 4000000 in
set_option maxRecDepth 100000 in
theorem first_a (e : World) {d m clk : Nat} {es : Array MapEntry} {prom : Bal} {first : Int} {F : Hp} {K : Value → Hp → Prop} (hK : K (.int .i64 first) (accO d m es clk prom first ++ F)) : callsK Try.prog e 34 #[pv d] (accO d m es clk prom first ++ F) K := by
  refine calls_body (N := 9) (args := [pv d]) Try.func34 rfl rfl rfl (by simp) ?_
  repeat' (first | (show wpO _ _ _ _ _ _ _; first | refine wpO_nil ?_ | refine s_rdp ?_ | refine s_rdm ?_ | refine s_exq ?_ | refine s_exm ?_) | (show Ex _ _ _ _ _; first | (show Ex _ ⟨_, .call ⟨.value (.func _), _, _⟩, _, _, _, _⟩ _ _ _; refine e_call ?_; first | (apply p_pcs; apply none_a _; (try case hS => assumption); (case hpcs => (repeat (first | exact Pcs.blk (by infer_instance) | exact Pcs.nil | (apply Pcs.cons; infer_instance) | apply Pcs.app)))))) | (show wpC _ _ _ _ _ _; first | refine wpC_seq ?_ | refine wpC_region ?_ | refine c_true ?_ | refine c_false ?_ | (refine c_b (fun _ => ?_) (fun _ => ?_) <;> (first | (exfalso; omega) | contradiction | skip)) | refine wpC_ret ?_ | refine wpC_skip ?_ | refine wpC_label ?_) | (show Then _ _ _ _ _ _ _; first | refine then_normal ?_ | refine then_ret ?_) | (show RetP _ _ _ _ _ _ _ _; first | refine r_1 ?_) | assumption | intro _)
  exact q_drop hK
set_option maxHeartbeats 4000000 in
set_option maxRecDepth 100000 in
theorem len_a (e : World) {d m clk : Nat} {es : Array MapEntry} {prom : Bal} {first : Int} {l : List SlR} {F : Hp} {K : Value → Hp → Prop} (hM : MapS es clk l) (hK : K (.int .i64 (l.length : Int)) (accO d m es clk prom first ++ F)) : callsK Try.prog e 39 #[pv d] (accO d m es clk prom first ++ F) K := by
  have hl : (l.map fun s => (s.slot, s)).length = l.length := List.length_map _
  rw [← hl] at hK
  refine calls_body (N := 10) (args := [pv d]) Try.func39 rfl rfl rfl (by simp) ?_
  repeat' (first | (show wpO _ _ _ _ _ _ _; first | refine wpO_nil ?_ | refine s_rdp ?_ | refine s_rdm ?_ | refine s_exq ?_ | refine s_exm ?_) | (show Ex _ _ _ _ _; first | (show Ex _ ⟨_, .call ⟨.value (.func _), _, _⟩, _, _, _, _⟩ _ _ _; refine e_call ?_; first | (apply p_pcs; apply none_a _; (try case hS => assumption); (case hpcs => (repeat (first | exact Pcs.blk (by infer_instance) | exact Pcs.nil | (apply Pcs.cons; infer_instance) | apply Pcs.app)))))) | (show wpC _ _ _ _ _ _; first | refine wpC_seq ?_ | refine wpC_region ?_ | refine c_true ?_ | refine c_false ?_ | (refine c_b (fun _ => ?_) (fun _ => ?_) <;> (first | (exfalso; omega) | contradiction | skip)) | refine wpC_ret ?_ | refine wpC_skip ?_ | refine wpC_label ?_) | (show Then _ _ _ _ _ _ _; first | refine then_normal ?_ | refine then_ret ?_) | (show RetP _ _ _ _ _ _ _ _; first | refine r_1 ?_) | assumption | intro _)
  exact q_drop hK
end Go.Vl
