/-
  Some acceptors in memory, told apart by numbers.
-/
import Derived.Test.YtagdhnbodddipaaA7
import Derived.Test.YtagdhnbodddipaaAQ
import Derived.Test.YtagdhnbodddipaaCP
import Derived.Test.YtagdhnbodddipaaVv
namespace Go.Vl
open Go.Proofs
section
variable {P : Program} {e : World} {ρ : Fr} {H : Hp} {d : Option Nat} {ty : TypeId} {pos : String} {af : Array Edge} {g : Option (Nat × Bool)} {t yt : TypeId} {x y : Operand}
set_option maxHeartbeats 4000000 in
set_option maxRecDepth 100000 in
theorem rd_mul2 {a : Nat} (hx : ev ρ x = .int .i64 2) (hy : ev ρ y = .int .i64 (a : Int)) (h : a ≤ 1000) : Rd P e ρ H ⟨d, .binOp .mul t x y yt, ty, pos, af, g⟩ (.int .i64 ((2 * a : Nat) : Int)) := by
  have h1 : IntKind.i64.wrap (2 * (a : Int)) = ((2 * a : Nat) : Int) := by rw [wrap64_id (by omega) (by omega)]; omega
  have := rd_mulw (P := P) (e := e) (H := H) (d := d) (ty := ty) (pos := pos) (af := af) (g := g) (t := t) (yt := yt) hx hy
  rwa [h1] at this
end
set_option maxHeartbeats 4000000 in
set_option maxRecDepth 100000 in
theorem flat_upd {HH : Nat → Hp} {n k : Nat} (hk : k < n) : ∃ R : Hp, ∀ G, ((List.range n).flatMap (updF HH k G)).Perm (G ++ R) := by
  induction n with
  | zero => omega
  | succ n ih =>
    by_cases h : k = n
    · subst h
      refine ⟨(List.range k).flatMap HH, fun G => ?_⟩
      rw [List.range_succ, List.flatMap_append, List.flatMap_singleton, updF_same]
      have : (List.range k).flatMap (updF HH k G) = (List.range k).flatMap HH := by
        rw [List.flatMap_def, List.flatMap_def]
        congr 1
        refine List.map_congr_left fun j hj => updF_ne ?_
        have := List.mem_range.1 hj
        omega
      rw [this]
      exact List.perm_append_comm
    · obtain ⟨R, hR⟩ := ih (by omega)
      refine ⟨R ++ HH n, fun G => ?_⟩
      rw [List.range_succ, List.flatMap_append, List.flatMap_singleton, updF_ne (fun he => h he.symm), ← List.append_assoc]
      exact (hR G).append_right _
set_option maxHeartbeats 4000000 in
set_option maxRecDepth 100000 in
theorem updF_self {α : Type} (A : Nat → α) (k : Nat) : updF A k (A k) = A := by
  funext j
  unfold updF
  split
  · rename_i h; rw [h]
  · rfl
/-- n acceptors in memory -/
def SysO (n : Nat) (A : Nat → Ac) (dd : Nat → Nat) (Z : Hp) : Prop := ∃ HH : Nat → Hp, Z.Perm ((List.range n).flatMap HH) ∧ ∀ j, j < n → AcO (A j) (dd j) (HH j)
set_option maxHeartbeats 4000000 in
set_option maxRecDepth 100000 in
theorem SysO.nil {A : Nat → Ac} {dd : Nat → Nat} : SysO 0 A dd [] := ⟨fun _ => [], .refl _, fun j h => by omega⟩
set_option maxHeartbeats 4000000 in
set_option maxRecDepth 100000 in
theorem SysO.more {n : Nat} {A : Nat → Ac} {dd : Nat → Nat} {Z H : Hp} {d : Nat} (h : SysO n A dd Z) (ha : AcO (A n) d H) : SysO (n + 1) A (updF dd n d) (H ++ Z) := by
  obtain ⟨HH, hp, hA⟩ := h
  refine ⟨updF HH n H, ?_, fun j hj => ?_⟩
  · rw [List.range_succ, List.flatMap_append, List.flatMap_singleton, updF_same]
    have : (List.range n).flatMap (updF HH n H) = (List.range n).flatMap HH := by
      rw [List.flatMap_def, List.flatMap_def]
      congr 1
      refine List.map_congr_left fun j hj => updF_ne ?_
      have := List.mem_range.1 hj
      omega
    rw [this]
    exact List.perm_append_comm.trans (hp.append_right _)
  · by_cases he : j = n
    · subst he; rw [updF_same, updF_same]; exact ha
    · rw [updF_ne he, updF_ne he]; exact hA j (by omega)
/- one of them is taken out -/
set_option maxHeartbeats 4000000 in
set_option maxRecDepth 100000 in
theorem SysO.focus {n k : Nat} {A : Nat → Ac} {dd : Nat → Nat} {Z : Hp} (h : SysO n A dd Z) (hk : k < n) : ∃ H R, Z.Perm (H ++ R) ∧ AcO (A k) (dd k) H ∧ ∀ a' H', AcO a' (dd k) H' → SysO n (updF A k a') dd (H' ++ R) := by
  obtain ⟨HH, hp, hA⟩ := h
  obtain ⟨R, hR⟩ := flat_upd (HH := HH) hk
  refine ⟨HH k, R, ?_, hA k hk, fun a' H' ha => ⟨updF HH k H', (hR H').symm, fun j hj => ?_⟩⟩
  · have := hR (HH k)
    rw [updF_self] at this
    exact hp.trans this
  · by_cases he : j = k
    · subst he; rw [updF_same, updF_same]; exact ha
    · rw [updF_ne he, updF_ne he]; exact hA j hj
set_option maxHeartbeats 4000000 in
set_option maxRecDepth 100000 in
theorem bare_in {P : Hp} {e : EnR} (h : Bare e.c) : EnIn P e := by
  obtain ⟨c, ao, co, ad, cd⟩ := e
  obtain ⟨h1, h2⟩ := h
  simp only at h1 h2
  refine ⟨?_, ?_⟩
  · show InSl P 8 (c.ops.map OpC.cells) (.slice ao c.ops.length co)
    rw [h1]
    exact InSl.nil
  · show InSl P 1 (c.data.map byC) (.slice ad c.data.length cd)
    rw [h2]
    exact InSl.nil
set_option maxHeartbeats 4000000 in
set_option maxRecDepth 100000 in
theorem bare_sz {e : EnC} (h : Bare e) : EnSz e := ⟨by rw [h.1]; decide, by rw [h.2]; decide⟩
attribute [local irreducible] eqW eqV wpC wpO wpD Ex Rd callsK RetP Drop valK
set_option maxHeartbeats 4000000 in
set_option maxRecDepth 100000 in
theorem prepare_G (e : World) {n k : Nat} {A : Nat → Ac} {dd : Nat → Nat} {b : Bal} {s : Int} {Z F : Hp} {K : Value → Hp → Prop} (hS : SysO n A dd Z) (hk : k < n) (hl : (A k).L.length * 528 ≤ 140737488355328)
    (hK : ∀ v Hl Z', OwnL ((A k).prepare b s).2.1 v Hl → SysO n (updF A k ((A k).prepare b s).2.2) dd Z' → K (.tuple #[v, .int .i64 ((A k).prepare b s).1]) ((Hl ++ Z') ++ F)) :
    callsK Try.prog e 20 #[pv (dd k), .agg b.cells.toArray, .int .i64 s] (Z ++ F) K := by
  obtain ⟨H, R, hp, hA, hu⟩ := hS.focus hk
  refine callsK_perm (hp.append_right F) ?_
  rw [List.append_assoc]
  refine prepare_A e hA hl fun v Hl H' h1 h2 => ?_
  have := hK v Hl _ h1 (hu _ H' h2)
  simpa [List.append_assoc] using this
set_option maxHeartbeats 4000000 in
set_option maxRecDepth 100000 in
theorem accept_G (e : World) {n k : Nat} {A : Nat → Ac} {dd : Nat → Nat} {b : Bal} {s : Int} {x : EnR} {Z F : Hp} {K : Value → Hp → Prop} (hS : SysO n A dd Z) (hk : k < n) (hx : Bare x.c)
    (hK : ∀ Z', SysO n (updF A k ((A k).accept b s x.c).2) dd Z' → K (.int .i64 ((A k).accept b s x.c).1) (Z' ++ F)) :
    callsK Try.prog e 22 #[pv (dd k), .agg b.cells.toArray, .int .i64 s, .agg x.cells.toArray] (Z ++ F) K := by
  obtain ⟨H, R, hp, hA, hu⟩ := hS.focus hk
  refine callsK_perm (hp.append_right F) ?_
  rw [List.append_assoc]
  have h0 := accept_A (b := b) (n := s) (P := []) (F := R ++ F) (K := K) e hA (bare_in hx) (bare_sz hx) fun H' h2 => by
    have := hK _ (hu _ H' h2)
    simpa [List.append_assoc] using this
  rwa [List.append_nil] at h0
set_option maxHeartbeats 4000000 in
set_option maxRecDepth 100000 in
theorem prep_ok {a : Ac} {b : Bal} (hb : b.ok) (hlt : ¬ b.lt a.prom) (h0 : ∀ x ∈ a.L, x.slot = 0) : a.prepare b 0 = (0, a.L, ⟨b, a.first, a.L⟩) := by
  have h1 : ¬ (¬ b.ok ∨ ¬ slotOK 0) := fun h => h.elim (fun h => h hb) (fun h => h (by decide))
  have h2 : fromS a.L 0 = a.L := List.filter_eq_self.2 fun x hx => by rw [h0 x hx]; rfl
  unfold Ac.prepare
  rw [if_neg h1, if_neg hlt, h2]
set_option maxHeartbeats 4000000 in
set_option maxRecDepth 100000 in
theorem prep_bad {a : Ac} {b : Bal} (hb : ¬ b.ok) : a.prepare b 0 = (1, [], a) := by
  unfold Ac.prepare
  rw [if_pos (.inl hb)]
set_option maxHeartbeats 4000000 in
set_option maxRecDepth 100000 in
theorem acc_ok {a : Ac} {b : Bal} {e : EnC} (hb : b.ok) (hlt : ¬ b.lt a.prom) (hf : a.first = 0) (h0 : a.L = [] ∨ ∃ x, a.L = [x] ∧ x.slot = 0) : a.accept b 0 e = (0, ⟨b, a.first, [⟨0, b, e⟩]⟩) := by
  have h1 : ¬ (¬ b.ok ∨ ¬ slotOK 0) := fun h => h.elim (fun h => h hb) (fun h => h (by decide))
  unfold Ac.accept
  rw [if_neg h1, if_neg hlt, if_neg (by rw [hf]; decide)]
  rcases h0 with h0 | ⟨x, h0, hs⟩
  · rw [h0, putS_nil]
  · rw [h0, putS_eq hs]
set_option maxHeartbeats 4000000 in
set_option maxRecDepth 100000 in
theorem prepare_G1 (e : World) {n k : Nat} {A : Nat → Ac} {dd : Nat → Nat} {b : Bal} {Z F : Hp} {K : Value → Hp → Prop} (hS : SysO n A dd Z) (hk : k < n) (hl : (A k).L.length * 528 ≤ 140737488355328) (hb : b.ok) (hlt : ¬ b.lt (A k).prom) (h0 : ∀ x ∈ (A k).L, x.slot = 0)
    (hK : ∀ v Hl Z', OwnL (A k).L v Hl → SysO n (updF A k ⟨b, (A k).first, (A k).L⟩) dd Z' → K (.tuple #[v, .int .i64 0]) ((Hl ++ Z') ++ F)) :
    callsK Try.prog e 20 #[pv (dd k), .agg b.cells.toArray, .int .i64 0] (Z ++ F) K := by
  refine prepare_G e hS hk hl fun v Hl Z' h1 h2 => ?_
  rw [prep_ok hb hlt h0] at h1 h2 ⊢
  exact hK v Hl Z' h1 h2
set_option maxHeartbeats 4000000 in
set_option maxRecDepth 100000 in
theorem prepare_G0 (e : World) {n k : Nat} {A : Nat → Ac} {dd : Nat → Nat} {b : Bal} {Z F : Hp} {K : Value → Hp → Prop} (hS : SysO n A dd Z) (hk : k < n) (hl : (A k).L.length * 528 ≤ 140737488355328) (hb : ¬ b.ok)
    (hK : ∀ v Hl Z', SysO n A dd Z' → K (.tuple #[v, .int .i64 1]) ((Hl ++ Z') ++ F)) :
    callsK Try.prog e 20 #[pv (dd k), .agg b.cells.toArray, .int .i64 0] (Z ++ F) K := by
  refine prepare_G e hS hk hl fun v Hl Z' h1 h2 => ?_
  rw [prep_bad hb] at h1 h2 ⊢
  rw [updF_self] at h2
  exact hK v Hl Z' h2
set_option maxHeartbeats 4000000 in
set_option maxRecDepth 100000 in
theorem accept_G1 (e : World) {n k : Nat} {A : Nat → Ac} {dd : Nat → Nat} {b : Bal} {x : EnR} {Z F : Hp} {K : Value → Hp → Prop} (hS : SysO n A dd Z) (hk : k < n) (hx : Bare x.c) (hb : b.ok) (hlt : ¬ b.lt (A k).prom) (hf : (A k).first = 0) (h0 : (A k).L = [] ∨ ∃ x, (A k).L = [x] ∧ x.slot = 0)
    (hK : ∀ Z', SysO n (updF A k ⟨b, (A k).first, [⟨0, b, x.c⟩]⟩) dd Z' → K (.int .i64 0) (Z' ++ F)) :
    callsK Try.prog e 22 #[pv (dd k), .agg b.cells.toArray, .int .i64 0, .agg x.cells.toArray] (Z ++ F) K := by
  refine accept_G e hS hk hx fun Z' h2 => ?_
  rw [acc_ok hb hlt hf h0] at h2 ⊢
  exact hK Z' h2
/-- one of many entries -/
def freshE (n : Int) : EnC := { zeroE.c with kind := 7, site := n.tmod 8, len := 0 }
set_option maxHeartbeats 4000000 in
set_option maxRecDepth 100000 in
theorem freshE_bare (n : Int) : Bare (freshE n) := ⟨rfl, rfl⟩
set_option maxHeartbeats 4000000 in
set_option maxRecDepth 100000 in
theorem entry_spec (e : World) {n : Int} {F : Hp} {K : Value → Hp → Prop} (hK : K (.agg (EnR.mk (freshE n) none 0 none 0).cells.toArray) F) : callsK Try.prog e 21 #[.int .i64 n] F K := by
  refine calls_body (N := 6) (args := [.int .i64 n]) Try.func21 rfl rfl rfl (by simp) ?_
  repeat' (first | (refine s_rdp ?_ (hr := by (apply rd_rem; exact rfl; exact rfl; decide; done))) | refine r_CA ?_ | (show wpO _ _ _ _ _ _ _; first | refine wpO_nil ?_ | (show wpO _ _ _ (⟨_, .binOp _ _ _ _ _, _, _, _, _⟩ :: _) _ _ _; first | refine s_tt ?_ | refine s_ff ?_ | refine s_rdp ?_ | (refine s_cmp (fun _ => ?_) (fun _ => ?_) <;> (first | (exfalso; omega) | contradiction | skip)) | (refine s_cb (fun _ => ?_) (fun _ => ?_) <;> (first | (exfalso; omega) | contradiction | skip))) | refine s_rdp ?_ | refine s_rdm ?_ | refine s_exq ?_ | refine s_exm ?_) | (show Ex _ _ _ _ _; first | (show Ex _ ⟨_, .alloc _, _, _, _, _⟩ _ _ _; first | (refine e_allocA ?_; intro _) | (refine e_alloc1 ?_; intro _)) | (show Ex _ ⟨_, .store _ _ _, _, _, _, _⟩ _ _ _; first | refine e_store1 ?_ | refine e_storeA ?_ | (refine e_storeO ?_; intro _ _))) | (show wpC _ _ _ _ _ _; first | refine wpC_seq ?_ | refine wpC_region ?_ | refine wpC_ret ?_ | refine wpC_skip ?_ | refine wpC_label ?_) | (show Then _ _ _ _ _ _ _; first | refine then_normal ?_ | refine then_ret ?_) | (show RetP _ _ _ _ _ _ _ _; first | refine r_C1 ?_ | refine r_DC ?_))
  all_goals first | exact q_drop hK | trace_state
end Go.Vl
