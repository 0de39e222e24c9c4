/-
  Entries in memory: their lists; a copy in memory of its own (the proposer's seat).
-/
import Derived.Test.YtpegidbkplgplaaA0
import Derived.Test.YtpegidbkplgplaaVy
import Derived.Test.YtpegidbkplgplaaVv
import Derived.Test.YtpegidbkplgplaaProg
namespace Go.Vl
open Go.Proofs
structure EnR where
  c : EnC
  ao : Option Addr
  co : Nat
  ad : Option Addr
  cd : Nat
abbrev EnR.vo (e : EnR) : Value := .slice e.ao e.c.ops.length e.co
abbrev EnR.vd (e : EnR) : Value := .slice e.ad e.c.data.length e.cd
abbrev EnR.cells (e : EnR) : List Value := [.int .i64 e.c.kind, .int .i64 e.c.ses, .int .i64 e.c.req,
  .int .i64 e.c.op.time, .int .i64 e.c.op.site, .int .i64 e.c.op.kind, .int .i64 e.c.op.node, .int .i64 e.c.op.parent, .string e.c.op.name, .string e.c.op.key, .string e.c.op.val,
  .int .i64 e.c.origin, .int .i64 e.c.seq, e.vo,
  .int .i64 e.c.num, .int .i64 (e.c.st 0), .int .i64 (e.c.st 1), .int .i64 (e.c.st 2), .int .i64 (e.c.st 3), .int .i64 (e.c.st 4), .int .i64 (e.c.st 5), .int .i64 (e.c.st 6), .int .i64 (e.c.st 7),
  .int .i64 (e.c.sea 0), .int .i64 (e.c.sea 1), .int .i64 (e.c.sea 2), .int .i64 (e.c.sea 3), .int .i64 (e.c.sea 4), .int .i64 (e.c.sea 5), .int .i64 (e.c.sea 6), .int .i64 (e.c.sea 7),
  .int .i64 (e.c.spo 0), .int .i64 (e.c.spo 1), .int .i64 (e.c.spo 2), .int .i64 (e.c.spo 3), .int .i64 (e.c.spo 4), .int .i64 (e.c.spo 5), .int .i64 (e.c.spo 6), .int .i64 (e.c.spo 7),
  .int .i64 e.c.src, .int .i64 (e.c.vec 0), .int .i64 (e.c.vec 1), .int .i64 (e.c.vec 2), .int .i64 (e.c.vec 3), .int .i64 (e.c.vec 4), .int .i64 (e.c.vec 5), .int .i64 (e.c.vec 6), .int .i64 (e.c.vec 7),
  .int .i64 e.c.clock, .int .i64 e.c.snap, .int .i64 e.c.idx, .int .i64 e.c.many, e.vd, .int .i64 e.c.site, .int .i64 e.c.sponsor, .int .i64 e.c.len]
set_option maxHeartbeats 4000000 in
set_option maxRecDepth 100000 in
theorem sz50 : sz Try.prog 41 = some 56 := by decide +kernel
set_option maxHeartbeats 4000000 in
set_option maxRecDepth 100000 in
theorem sz52 : sz Try.prog 51 = some 59 := by decide +kernel
set_option maxHeartbeats 4000000 in
set_option maxRecDepth 100000 in
theorem sz39 : sz Try.prog 30 = some 8 := by decide +kernel
set_option maxHeartbeats 4000000 in
set_option maxRecDepth 100000 in
theorem by39 : Try.prog.bytesOf 30 = 88 := by decide +kernel
/-- an entry's lists can be read in these blocks -/
structure EnIn (P : Hp) (e : EnR) : Prop where
  o : InSl P 8 (e.c.ops.map OpC.cells) e.vo
  d : InSl P 1 (e.c.data.map byC) e.vd
/-- an entry's lists are its own -/
structure EnO (e : EnR) (Bo Bd : Hp) : Prop where
  o : SlO 30 8 e.vo e.c.ops.length (e.c.ops.map OpC.cells).flatten Bo
  d : SlO 5 1 e.vd e.c.data.length (e.c.data.map byC).flatten Bd
structure EnSz (e : EnC) : Prop where
  o : e.ops.length * 88 ≤ 140737488355328
  d : e.data.length ≤ 140737488355328
set_option maxHeartbeats 4000000 in
set_option maxRecDepth 100000 in
theorem r_CA {P : Program} {e : World} {K : Value → Hp → Prop} {ρ : Fr} {H : Hp} {x : Exit} {t n b o : Nat} {ty : TypeId} {l r : List Value} {T : TypeId} {fz : Nat × Nat} (h : Drop K (.agg r.toArray) H) (hx : x = .normal ∨ x = .ret := by (first | exact Or.inl rfl | exact Or.inr rfl)) (hv : ρ t = .pointer (some ⟨b, o, none⟩) := by exact rfl) (hl : aggB P ty = true := by exact rfl)
    (hs : sz P ty = some n := by exact rfl) (hm : Has H b (.cells l.toArray T fz) := by infer_instance) (hc : TakeR l o n r := by (repeat (first | exact .nil | apply TakeR.cons | apply TakeR.skip))) : RetP P e [.cell t ty] K x ρ [] H :=
  ⟨hx, H, [.agg r.toArray], .refl _, .cell hv (fun _ hw => loadVar_agg hw hl hs hm.mem hc) .nil, h⟩
attribute [local irreducible] wpC wpO wpD Ex Rd callsK RetP Drop valK
set_option maxHeartbeats 4000000 in
set_option maxRecDepth 100000 in
theorem cloneOps (e : World) {v : Value} {os : List OpC} {Bs F : Hp} {K : Value → Hp → Prop} (hS : InSl Bs 8 (os.map OpC.cells) v) (hb : os.length * 88 ≤ 140737488355328) (hK : ∀ v' B', SlO 30 8 v' os.length (os.map OpC.cells).flatten B' → K v' (B' ++ (Bs ++ F))) :
    callsK Try.prog e 55 #[v] (Bs ++ F) K := by
  have hin := hS
  obtain ⟨a, c, rfl, _⟩ := hS
  have hnl : os.length ≤ 140737488355328 := by omega
  cases a with
  | none =>
    refine calls_body (N := 8) (args := [.slice none (os.map OpC.cells).length c]) Try.func55 rfl rfl rfl (by simp) ?_
    repeat' (first | (show wpO _ _ _ _ _ _ _; first | refine wpO_nil ?_ | (show wpO _ _ _ (⟨_, .binOp _ _ _ _ _, _, _, _, _⟩ :: _) _ _ _; first | refine s_tt ?_ | refine s_ff ?_ | refine s_rdp ?_ | (refine s_cmp (fun _ => ?_) (fun _ => ?_) <;> (first | (exfalso; omega) | contradiction | skip)) | (refine s_cb (fun _ => ?_) (fun _ => ?_) <;> (first | (exfalso; omega) | contradiction | skip))) | refine s_rdp ?_ | refine s_rdm ?_ | refine s_exq ?_ | refine s_exm ?_) | (show Ex _ _ _ _ _; first | (show Ex _ ⟨_, .buildSlice _ _ _, _, _, _, _⟩ _ _ _; first | (refine e_buildSlice ?_; intro _) | (refine e_buildNil ?_; intro _ _ _)) | (show Ex _ ⟨_, .call ⟨.builtin .append, _, _⟩, _, _, _, _⟩ _ _ _; (first | refine e_append ?_ | refine e_appendIn ?_); intro _ _ _)) | (show wpC _ _ _ _ _ _; first | refine wpC_seq ?_ | refine wpC_region ?_ | refine c_true ?_ | refine c_false ?_ | (refine c_b (fun _ => ?_) (fun _ => ?_) <;> (first | (exfalso; omega) | contradiction | skip)) | refine wpC_ret ?_ | refine wpC_skip ?_ | refine wpC_label ?_) | (show Then _ _ _ _ _ _ _; first | refine then_normal ?_ | refine then_ret ?_) | (show RetP _ _ _ _ _ _ _ _; first | refine r_1 ?_))
    have hb0 : os = [] := by
      rcases hin with ⟨_, _, hv, _, _, h | ⟨_, _, _, _, _, ha, _⟩⟩
      · simpa using h
      · subst ha; simp at hv
    subst hb0
    exact q_drop (hK _ _ (SlO.nil 30 8))
  | some a =>
    refine calls_body (N := 8) (args := [.slice (some a) (os.map OpC.cells).length c]) Try.func55 rfl rfl rfl (by simp) ?_
    repeat' (first | (show wpO _ _ _ _ _ _ _; first | refine wpO_nil ?_ | (show wpO _ _ _ (⟨_, .binOp _ _ _ _ _, _, _, _, _⟩ :: _) _ _ _; first | refine s_tt ?_ | refine s_ff ?_ | refine s_rdp ?_ | (refine s_cmp (fun _ => ?_) (fun _ => ?_) <;> (first | (exfalso; omega) | contradiction | skip)) | (refine s_cb (fun _ => ?_) (fun _ => ?_) <;> (first | (exfalso; omega) | contradiction | skip))) | refine s_rdp ?_ | refine s_rdm ?_ | refine s_exq ?_ | refine s_exm ?_) | (show Ex _ _ _ _ _; first | (show Ex _ ⟨_, .buildSlice _ _ _, _, _, _, _⟩ _ _ _; first | (refine e_buildSlice ?_; intro _) | (refine e_buildNil ?_; intro _ _ _)) | (show Ex _ ⟨_, .call ⟨.builtin .append, _, _⟩, _, _, _, _⟩ _ _ _; (first | refine e_append ?_ | refine e_appendIn ?_); intro _ _ _)) | (show wpC _ _ _ _ _ _; first | refine wpC_seq ?_ | refine wpC_region ?_ | refine c_true ?_ | refine c_false ?_ | (refine c_b (fun _ => ?_) (fun _ => ?_) <;> (first | (exfalso; omega) | contradiction | skip)) | refine wpC_ret ?_ | refine wpC_skip ?_ | refine wpC_label ?_) | (show Then _ _ _ _ _ _ _; first | refine then_normal ?_ | refine then_ret ?_) | (show RetP _ _ _ _ _ _ _ _; first | refine r_1 ?_))
    rename_i v0 B0 h0 v1 B1 h1
    exact q_drop (hK v1 B1 (by simpa using h1))
set_option maxHeartbeats 4000000 in
set_option maxRecDepth 100000 in
theorem cloneData (e : World) {v : Value} {bs : List UInt8} {Bs F : Hp} {K : Value → Hp → Prop} (hS : InSl Bs 1 (bs.map byC) v) (hb : bs.length ≤ 140737488355328) (hK : ∀ v' B', SlO 5 1 v' bs.length (bs.map byC).flatten B' → K v' (B' ++ (Bs ++ F))) :
    callsK Try.prog e 56 #[v] (Bs ++ F) K := by
  have hin := hS
  obtain ⟨a, c, rfl, _⟩ := hS
  cases a with
  | none =>
    refine calls_body (N := 8) (args := [.slice none (bs.map byC).length c]) Try.func56 rfl rfl rfl (by simp) ?_
    repeat' (first | (show wpO _ _ _ _ _ _ _; first | refine wpO_nil ?_ | (show wpO _ _ _ (⟨_, .binOp _ _ _ _ _, _, _, _, _⟩ :: _) _ _ _; first | refine s_tt ?_ | refine s_ff ?_ | refine s_rdp ?_ | (refine s_cmp (fun _ => ?_) (fun _ => ?_) <;> (first | (exfalso; omega) | contradiction | skip)) | (refine s_cb (fun _ => ?_) (fun _ => ?_) <;> (first | (exfalso; omega) | contradiction | skip))) | refine s_rdp ?_ | refine s_rdm ?_ | refine s_exq ?_ | refine s_exm ?_) | (show Ex _ _ _ _ _; first | (show Ex _ ⟨_, .buildSlice _ _ _, _, _, _, _⟩ _ _ _; first | (refine e_buildSlice ?_; intro _) | (refine e_buildNil ?_; intro _ _ _)) | (show Ex _ ⟨_, .call ⟨.builtin .append, _, _⟩, _, _, _, _⟩ _ _ _; (first | refine e_append ?_ | refine e_appendIn ?_); intro _ _ _)) | (show wpC _ _ _ _ _ _; first | refine wpC_seq ?_ | refine wpC_region ?_ | refine c_true ?_ | refine c_false ?_ | (refine c_b (fun _ => ?_) (fun _ => ?_) <;> (first | (exfalso; omega) | contradiction | skip)) | refine wpC_ret ?_ | refine wpC_skip ?_ | refine wpC_label ?_) | (show Then _ _ _ _ _ _ _; first | refine then_normal ?_ | refine then_ret ?_) | (show RetP _ _ _ _ _ _ _ _; first | refine r_1 ?_))
    have hb0 : bs = [] := by
      rcases hin with ⟨_, _, hv, _, _, h | ⟨_, _, _, _, _, ha, _⟩⟩
      · simpa using h
      · subst ha; simp at hv
    subst hb0
    exact q_drop (hK _ _ (SlO.nil 5 1))
  | some a =>
    refine calls_body (N := 8) (args := [.slice (some a) (bs.map byC).length c]) Try.func56 rfl rfl rfl (by simp) ?_
    repeat' (first | (show wpO _ _ _ _ _ _ _; first | refine wpO_nil ?_ | (show wpO _ _ _ (⟨_, .binOp _ _ _ _ _, _, _, _, _⟩ :: _) _ _ _; first | refine s_tt ?_ | refine s_ff ?_ | refine s_rdp ?_ | (refine s_cmp (fun _ => ?_) (fun _ => ?_) <;> (first | (exfalso; omega) | contradiction | skip)) | (refine s_cb (fun _ => ?_) (fun _ => ?_) <;> (first | (exfalso; omega) | contradiction | skip))) | refine s_rdp ?_ | refine s_rdm ?_ | refine s_exq ?_ | refine s_exm ?_) | (show Ex _ _ _ _ _; first | (show Ex _ ⟨_, .buildSlice _ _ _, _, _, _, _⟩ _ _ _; first | (refine e_buildSlice ?_; intro _) | (refine e_buildNil ?_; intro _ _ _)) | (show Ex _ ⟨_, .call ⟨.builtin .append, _, _⟩, _, _, _, _⟩ _ _ _; (first | refine e_append ?_ | refine e_appendIn ?_); intro _ _ _)) | (show wpC _ _ _ _ _ _; first | refine wpC_seq ?_ | refine wpC_region ?_ | refine c_true ?_ | refine c_false ?_ | (refine c_b (fun _ => ?_) (fun _ => ?_) <;> (first | (exfalso; omega) | contradiction | skip)) | refine wpC_ret ?_ | refine wpC_skip ?_ | refine wpC_label ?_) | (show Then _ _ _ _ _ _ _; first | refine then_normal ?_ | refine then_ret ?_) | (show RetP _ _ _ _ _ _ _ _; first | refine r_1 ?_))
    rename_i v0 B0 h0 v1 B1 h1
    exact q_drop (hK v1 B1 (by simpa using h1))
set_option maxHeartbeats 4000000 in
set_option maxRecDepth 100000 in
theorem cloneEntry_spec (e : World) {x : EnR} {P F : Hp} {K : Value → Hp → Prop} (hx : EnIn P x) (hz : EnSz x.c) (hK : ∀ y : EnR, y.c = x.c → ∀ Bo Bd, EnO y Bo Bd → K (.agg y.cells.toArray) ((Bo ++ Bd) ++ (P ++ F))) :
    callsK Try.prog e 36 #[.agg x.cells.toArray] (P ++ F) K := by
  have hxo := hx.o
  have hxd := hx.d
  refine calls_body (N := 14) (args := [.agg x.cells.toArray]) Try.func36 rfl rfl rfl (by simp) ?_
  repeat' ((fail_if_success (show wpC _ (.seq (.region 3 _ _) _) _ _ _ _)); first | (show wpO _ _ _ _ _ _ _; first | refine wpO_nil ?_ | refine s_rdp ?_ | refine s_rdm ?_ | refine s_exq ?_ | refine s_exm ?_) | (show Ex _ _ _ _ _; first | (show Ex _ ⟨_, .call ⟨.value (.func _), _, _⟩, _, _, _, _⟩ _ _ _; refine e_call ?_; first | (apply p_pcs; apply cloneOps _ hxo hz.o; (try case hS => assumption); (case hpcs => (repeat (first | exact Pcs.blk (by infer_instance) | exact Pcs.nil | (apply Pcs.cons; infer_instance) | apply Pcs.app)))) | (apply p_pcs; apply cloneData _ hxd hz.d; (try case hS => assumption); (case hpcs => (repeat (first | exact Pcs.blk (by infer_instance) | exact Pcs.nil | (apply Pcs.cons; infer_instance) | apply Pcs.app))))) | (show Ex _ ⟨_, .alloc _, _, _, _, _⟩ _ _ _; first | (refine e_allocA ?_; intro _) | (refine e_alloc1 ?_; intro _)) | (show Ex _ ⟨_, .box _ _, _, _, _, _⟩ _ _ _; first | (refine e_boxA ?_; intro _) | (refine e_box1 ?_; intro _)) | (show Ex _ ⟨_, .store _ _ _, _, _, _, _⟩ _ _ _; first | refine e_store1 ?_ | refine e_storeA ?_ | (refine e_storeO ?_; intro _ _))) | (show wpC _ _ _ _ _ _; first | refine wpC_seq ?_ | refine wpC_region ?_ | refine wpC_ret ?_ | refine wpC_skip ?_ | refine wpC_label ?_) | (show Then _ _ _ _ _ _ _; first | refine then_normal ?_ | refine then_ret ?_) | (show RetP _ _ _ _ _ _ _ _; first | refine r_C1 ?_ | refine r_DC ?_) | assumption | intro _)
  rename_i b1 b2 v1 B1 h1 v2 B2 h2
  obtain ⟨a1, c1, hv1⟩ := SlO.val h1
  obtain ⟨a2, c2, hv2⟩ := SlO.val h2
  subst hv1
  subst hv2
  repeat' (first | refine r_CA ?_ | (show wpO _ _ _ _ _ _ _; first | refine wpO_nil ?_ | refine s_rdp ?_ | refine s_rdm ?_ | refine s_exq ?_ | refine s_exm ?_) | (show Ex _ _ _ _ _; first | (show Ex _ ⟨_, .alloc _, _, _, _, _⟩ _ _ _; first | (refine e_allocA ?_; intro _) | (refine e_alloc1 ?_; intro _)) | (show Ex _ ⟨_, .box _ _, _, _, _, _⟩ _ _ _; first | (refine e_boxA ?_; intro _) | (refine e_box1 ?_; intro _)) | (show Ex _ ⟨_, .store _ _ _, _, _, _, _⟩ _ _ _; first | refine e_store1 ?_ | refine e_storeA ?_ | (refine e_storeO ?_; intro _ _))) | (show wpC _ _ _ _ _ _; first | refine wpC_seq ?_ | refine wpC_region ?_ | refine wpC_ret ?_ | refine wpC_skip ?_ | refine wpC_label ?_) | (show Then _ _ _ _ _ _ _; first | refine then_normal ?_ | refine then_ret ?_) | (show RetP _ _ _ _ _ _ _ _; first | refine r_C1 ?_ | refine r_DC ?_))
  exact q_drop (hK ⟨x.c, a1, c1, a2, c2⟩ rfl B1 B2 ⟨h1, h2⟩)
abbrev pv (n : Nat) : Value := .pointer (some ⟨n, 0, none⟩)
/-- something accepted, its lists' blocks -/
structure SlR where
  slot : Int
  bal : Bal
  en : EnR
  Bo : Hp
  Bd : Hp
abbrev SlR.cells (s : SlR) : List Value := .int .i64 s.slot :: .int .i64 s.bal.r :: .int .i64 s.bal.p :: s.en.cells
abbrev SlR.hp (s : SlR) : Hp := s.Bo ++ s.Bd
abbrev SlR.c (s : SlR) : Sl := ⟨s.slot, s.bal, s.en.c⟩
def SlR.ok (s : SlR) : Prop := EnO s.en s.Bo s.Bd
def acH (l : List SlR) : Hp := l.flatMap SlR.hp
set_option maxHeartbeats 4000000 in
set_option maxRecDepth 100000 in
theorem acH_cons (s : SlR) (l : List SlR) : acH (s :: l) = s.hp ++ acH l := rfl
set_option maxHeartbeats 4000000 in
set_option maxRecDepth 100000 in
theorem acH_app (a b : List SlR) : acH (a ++ b) = acH a ++ acH b := List.flatMap_append
set_option maxHeartbeats 4000000 in
set_option maxRecDepth 100000 in
theorem EnO.inn {e : EnR} {Bo Bd : Hp} (h : EnO e Bo Bd) : EnIn (Bo ++ Bd) e :=
  ⟨(SlO.inB (by rw [List.length_map]; exact h.o) (fun r hr => by obtain ⟨u, _, rfl⟩ := List.mem_map.1 hr; exact ⟨rfl, rfl⟩)).more fun x hx => List.mem_append_left _ hx,
   (SlO.inB (by rw [List.length_map]; exact h.d) (fun r hr => by obtain ⟨u, _, rfl⟩ := List.mem_map.1 hr; exact ⟨rfl, rfl⟩)).more fun x hx => List.mem_append_right _ hx⟩
set_option maxHeartbeats 4000000 in
set_option maxRecDepth 100000 in
theorem EnIn.more {P Q : Hp} {e : EnR} (h : EnIn P e) (hs : ∀ x ∈ P, x ∈ Q) : EnIn Q e := ⟨h.o.more hs, h.d.more hs⟩
set_option maxHeartbeats 4000000 in
set_option maxRecDepth 100000 in
theorem acH_in {s : SlR} {l : List SlR} (h : s ∈ l) (hs : s.ok) : EnIn (acH l) s.en := (EnO.inn hs).more fun _ hx => List.mem_flatMap.2 ⟨s, h, hx⟩
abbrev slV (s : SlR) : Value := .agg s.cells.toArray
abbrev zeroE : EnR := ⟨⟨0, 0, 0, ⟨0, 0, 0, 0, 0, ⟨#[]⟩, ⟨#[]⟩, ⟨#[]⟩⟩, 0, 0, [], 0, fun _ => 0, fun _ => 0, fun _ => 0, 0, fun _ => 0, 0, 0, 0, 0, [], 0, 0, 0⟩, none, 0, none, 0⟩
set_option maxHeartbeats 4000000 in
set_option maxRecDepth 100000 in
theorem zeroE_in : EnIn [] zeroE := ⟨InSl.nil, InSl.nil⟩
set_option maxHeartbeats 4000000 in
set_option maxRecDepth 100000 in
theorem zeroE_sz : EnSz zeroE.c := ⟨by decide, by decide⟩
set_option maxHeartbeats 4000000 in
set_option maxRecDepth 100000 in
theorem bal_eqV (a b : Bal) : eqV Try.prog 4 23 (.agg a.cells.toArray) (.agg b.cells.toArray) = some (decide (a = b)) := by
  have h : eqV Try.prog 4 23 (.agg a.cells.toArray) (.agg b.cells.toArray) = andO (some (a.r == b.r)) (andO (some (a.p == b.p)) (some true)) := by kernel_rfl
  rw [h]
  simp only [andO_some]
  congr 1
  obtain ⟨x, y⟩ := a
  obtain ⟨z, w⟩ := b
  rw [Bool.eq_iff_iff]
  simp
end Go.Vl
