/-
  Steps of the proof: Vx, A0, Vv, PE, PS, Vk, Vz.
-/
import Derived.Test.YtpegidbkplgplaaGreatQ06
import Derived.Test.YtpegidbkplgplaaGreatQ05
import Derived.Test.YtpegidbkplgplaaGreatProg
namespace Go.Vl
theorem InSl.one {F : Hp} {n : Nat} {rows : List (List Value)} {v : Value} (h : InSl F n rows v) : v.oneCell' = true := by
  obtain ⟨a, c, rfl, _⟩ := h
  rfl
section
variable {C : Cx} {ρ : Fr} {H : Hp} {d : Option Nat} {ty : TypeId} {pos : String} {af : Array Edge} {K : Value → Hp → Prop}
end
end Go.Vl

namespace Go.Vl
structure Bal where
  r : Int
  p : Int
deriving DecidableEq
abbrev Bal.cells (b : Bal) : List Value := [.int .i64 b.r, .int .i64 b.p]
def Bal.lt (a b : Bal) : Prop := a.r < b.r ∨ (a.r = b.r ∧ a.p < b.p)
instance (a b : Bal) : Decidable (a.lt b) := inferInstanceAs (Decidable (_ ∨ _))
def Bal.ok (b : Bal) : Prop := 1 ≤ b.r ∧ b.r ≤ 1099511627776 ∧ 0 ≤ b.p ∧ b.p < 5
instance (b : Bal) : Decidable b.ok := inferInstanceAs (Decidable (_ ∧ _))
def slotOK (n : Int) : Prop := 0 ≤ n ∧ n ≤ 1099511627776
instance (n : Int) : Decidable (slotOK n) := inferInstanceAs (Decidable (_ ∧ _))
set_option maxHeartbeats 4000000 in
set_option maxRecDepth 100000 in
theorem Bal.lt_irrefl (a : Bal) : ¬ a.lt a := fun h => by unfold Bal.lt at h; omega
/-- an operation's content -/
structure OpC where
  time : Int
  site : Int
  kind : Int
  node : Int
  parent : Int
  name : ByteArray
  key : ByteArray
  val : ByteArray
abbrev OpC.cells (o : OpC) : List Value := [.int .i64 o.time, .int .i64 o.site, .int .i64 o.kind, .int .i64 o.node, .int .i64 o.parent, .string o.name, .string o.key, .string o.val]
/-- an entry's content -/
structure EnC where
  kind : Int
  ses : Int
  req : Int
  op : OpC
  origin : Int
  seq : Int
  ops : List OpC
  num : Int
  st : Nat → Int
  sea : Nat → Int
  spo : Nat → Int
  src : Int
  vec : Nat → Int
  clock : Int
  snap : Int
  idx : Int
  many : Int
  data : List UInt8
  site : Int
  sponsor : Int
  len : Int
/-- something accepted -/
structure Sl where
  slot : Int
  bal : Bal
  en : EnC
def Sorted (L : List Sl) : Prop := L.Pairwise fun a b => a.slot < b.slot
set_option maxHeartbeats 4000000 in
set_option maxRecDepth 100000 in
theorem Sorted.filter {L : List Sl} (h : Sorted L) (p : Sl → Bool) : Sorted (L.filter p) := List.Pairwise.sublist List.filter_sublist h
set_option maxHeartbeats 4000000 in
set_option maxRecDepth 100000 in
theorem Sorted.slots {L : List Sl} (h : Sorted L) : (L.map Sl.slot).Nodup := List.Pairwise.map _ (fun a b hab he => by have : a.slot = b.slot := he; omega) h
/-- an acceptor's state -/
structure Ac where
  prom : Bal
  first : Int
  L : List Sl
structure Ac.ok (a : Ac) : Prop where
  srt : Sorted a.L
  slot : ∀ x ∈ a.L, slotOK x.slot ∧ x.bal.ok ∧ ¬ a.prom.lt x.bal
  first : slotOK a.first
def fromS (L : List Sl) (n : Int) : List Sl := L.filter fun x => decide (n ≤ x.slot)
def Ac.forget (a : Ac) (n : Int) : Int × Ac :=
  if ¬ slotOK n then (1, a) else (0, ⟨a.prom, if a.first < n then n else a.first, fromS a.L n⟩)
end Go.Vl

namespace Go.Vl
open Go.RowKit
section
variable {P : Program} {e : World} {ρ : Fr} {H : Hp} {d : Option Nat} {ty : TypeId} {pos : String} {af : Array Edge} {g : Option (Nat × Bool)} {t yt s : TypeId} {x y : Operand} {k m : IntKind} {a b r : Int}
end
section
variable {C : Cx} {ρ : Fr} {H : Hp} {d : Option Nat} {ty : TypeId} {pos : String} {af : Array Edge} {K : Value → Hp → Prop}
end
end Go.Vl

namespace Go.Vl
open Go.Proofs
structure EnR where
  c : EnC
  ao : Option Addr
  co : Nat
  ad : Option Addr
  cd : Nat
abbrev EnR.vo (e : EnR) : Value := .slice e.ao e.c.ops.length e.co
abbrev EnR.vd (e : EnR) : Value := .slice e.ad e.c.data.length e.cd
abbrev EnR.cells (e : EnR) : List Value := [.int .i64 e.c.kind, .int .i64 e.c.ses, .int .i64 e.c.req,
  .int .i64 e.c.op.time, .int .i64 e.c.op.site, .int .i64 e.c.op.kind, .int .i64 e.c.op.node, .int .i64 e.c.op.parent, .string e.c.op.name, .string e.c.op.key, .string e.c.op.val,
  .int .i64 e.c.origin, .int .i64 e.c.seq, e.vo,
  .int .i64 e.c.num, .int .i64 (e.c.st 0), .int .i64 (e.c.st 1), .int .i64 (e.c.st 2), .int .i64 (e.c.st 3), .int .i64 (e.c.st 4), .int .i64 (e.c.st 5), .int .i64 (e.c.st 6), .int .i64 (e.c.st 7),
  .int .i64 (e.c.sea 0), .int .i64 (e.c.sea 1), .int .i64 (e.c.sea 2), .int .i64 (e.c.sea 3), .int .i64 (e.c.sea 4), .int .i64 (e.c.sea 5), .int .i64 (e.c.sea 6), .int .i64 (e.c.sea 7),
  .int .i64 (e.c.spo 0), .int .i64 (e.c.spo 1), .int .i64 (e.c.spo 2), .int .i64 (e.c.spo 3), .int .i64 (e.c.spo 4), .int .i64 (e.c.spo 5), .int .i64 (e.c.spo 6), .int .i64 (e.c.spo 7),
  .int .i64 e.c.src, .int .i64 (e.c.vec 0), .int .i64 (e.c.vec 1), .int .i64 (e.c.vec 2), .int .i64 (e.c.vec 3), .int .i64 (e.c.vec 4), .int .i64 (e.c.vec 5), .int .i64 (e.c.vec 6), .int .i64 (e.c.vec 7),
  .int .i64 e.c.clock, .int .i64 e.c.snap, .int .i64 e.c.idx, .int .i64 e.c.many, e.vd, .int .i64 e.c.site, .int .i64 e.c.sponsor, .int .i64 e.c.len]
set_option maxHeartbeats 4000000 in
set_option maxRecDepth 100000 in
theorem by39 : Tryz.prog.bytesOf 40 = 88 := by decide +kernel
/-- an entry's lists can be read in these blocks -/
structure EnIn (P : Hp) (e : EnR) : Prop where
  o : InSl P 8 (e.c.ops.map OpC.cells) e.vo
  d : InSl P 1 (e.c.data.map byC) e.vd
/-- an entry's lists are its own -/
structure EnO (e : EnR) (Bo Bd : Hp) : Prop where
  o : SlO 40 8 e.vo e.c.ops.length (e.c.ops.map OpC.cells).flatten Bo
  d : SlO 5 1 e.vd e.c.data.length (e.c.data.map byC).flatten Bd
structure EnSz (e : EnC) : Prop where
  o : e.ops.length * 88 ≤ 140737488355328
  d : e.data.length ≤ 140737488355328
set_option maxHeartbeats 4000000 in
set_option maxRecDepth 100000 in
theorem r_CA {P : Program} {e : World} {K : Value → Hp → Prop} {ρ : Fr} {H : Hp} {x : Exit} {t n b o : Nat} {ty : TypeId} {l r : List Value} {T : TypeId} {fz : Nat × Nat} (h : Drop K (.agg r.toArray) H) (hx : x = .normal ∨ x = .ret := by (first | exact Or.inl rfl | exact Or.inr rfl)) (hv : ρ t = .pointer (some ⟨b, o, none⟩) := by exact rfl) (hl : aggB P ty = true := by exact rfl)
    (hs : sz P ty = some n := by exact rfl) (hm : Has H b (.cells l.toArray T fz) := by infer_instance) (hc : TakeR l o n r := by (repeat (first | exact .nil | apply TakeR.cons | apply TakeR.skip))) : RetP P e [.cell t ty] K x ρ [] H :=
  ⟨hx, H, [.agg r.toArray], .refl _, .cell hv (fun _ hw => loadVar_agg hw hl hs hm.mem hc) .nil, h⟩
attribute [local irreducible] wpC wpO wpD Ex Rd callsK RetP Drop valK
set_option maxHeartbeats 4000000 in
set_option maxRecDepth 100000 in
theorem cloneOps (e : World) {v : Value} {os : List OpC} {Bs F : Hp} {K : Value → Hp → Prop} (hS : InSl Bs 8 (os.map OpC.cells) v) (hb : os.length * 88 ≤ 140737488355328) (hK : ∀ v' B', SlO 40 8 v' os.length (os.map OpC.cells).flatten B' → K v' (B' ++ (Bs ++ F))) :
    callsK Tryz.prog e 58 #[v] (Bs ++ F) K := by
  have hin := hS
  obtain ⟨a, c, rfl, _⟩ := hS
  have hnl : os.length ≤ 140737488355328 := by omega
  cases a with
  | none =>
    refine calls_body (N := 8) (args := [.slice none (os.map OpC.cells).length c]) Tryz.func58 rfl rfl rfl (by simp) ?_
    repeat' (first | (show wpO _ _ _ _ _ _ _; first | refine wpO_nil ?_ | (show wpO _ _ _ (⟨_, .binOp _ _ _ _ _, _, _, _, _⟩ :: _) _ _ _; first | refine s_tt ?_ | refine s_ff ?_ | refine s_rdp ?_ | ((first | refine s_cmp (fun _ => ?_) (fun _ => ?_) | refine s_cb (fun _ => ?_) (fun _ => ?_)) <;> (first | (exfalso; omega) | contradiction | skip))) | refine s_rdp ?_ | refine s_rdm ?_ | refine s_exq ?_ | refine s_exm ?_) | (show Ex _ _ _ _ _; first | (show Ex _ ⟨_, .buildSlice _ _ _, _, _, _, _⟩ _ _ _; first | (refine e_buildSlice ?_; intro _) | (refine e_buildNil ?_; intro _ _ _)) | (show Ex _ ⟨_, .call ⟨.builtin .append, _, _⟩, _, _, _, _⟩ _ _ _; (first | refine e_append ?_ | refine e_appendIn ?_); intro _ _ _)) | (show wpC _ _ _ _ _ _; first | refine wpC_seq ?_ | refine wpC_region ?_ | refine c_true ?_ | refine c_false ?_ | (refine c_b (fun _ => ?_) (fun _ => ?_) <;> (first | (exfalso; omega) | contradiction | skip)) | refine wpC_ret ?_ | refine wpC_skip ?_ | refine wpC_label ?_) | (show Then _ _ _ _ _ _ _; first | refine then_normal ?_ | refine then_ret ?_) | (show RetP _ _ _ _ _ _ _ _; first | refine r_1 ?_))
    have hb0 : os = [] := by
      rcases hin with ⟨_, _, hv, _, _, h | ⟨_, _, _, _, _, ha, _⟩⟩
      · simpa using h
      · subst ha; simp at hv
    subst hb0
    exact q_drop (hK _ _ (SlO.nil 40 8))
  | some a =>
    refine calls_body (N := 8) (args := [.slice (some a) (os.map OpC.cells).length c]) Tryz.func58 rfl rfl rfl (by simp) ?_
    repeat' (first | (show wpO _ _ _ _ _ _ _; first | refine wpO_nil ?_ | (show wpO _ _ _ (⟨_, .binOp _ _ _ _ _, _, _, _, _⟩ :: _) _ _ _; first | refine s_tt ?_ | refine s_ff ?_ | refine s_rdp ?_ | ((first | refine s_cmp (fun _ => ?_) (fun _ => ?_) | refine s_cb (fun _ => ?_) (fun _ => ?_)) <;> (first | (exfalso; omega) | contradiction | skip))) | refine s_rdp ?_ | refine s_rdm ?_ | refine s_exq ?_ | refine s_exm ?_) | (show Ex _ _ _ _ _; first | (show Ex _ ⟨_, .buildSlice _ _ _, _, _, _, _⟩ _ _ _; first | (refine e_buildSlice ?_; intro _) | (refine e_buildNil ?_; intro _ _ _)) | (show Ex _ ⟨_, .call ⟨.builtin .append, _, _⟩, _, _, _, _⟩ _ _ _; (first | refine e_append ?_ | refine e_appendIn ?_); intro _ _ _)) | (show wpC _ _ _ _ _ _; first | refine wpC_seq ?_ | refine wpC_region ?_ | refine c_true ?_ | refine c_false ?_ | (refine c_b (fun _ => ?_) (fun _ => ?_) <;> (first | (exfalso; omega) | contradiction | skip)) | refine wpC_ret ?_ | refine wpC_skip ?_ | refine wpC_label ?_) | (show Then _ _ _ _ _ _ _; first | refine then_normal ?_ | refine then_ret ?_) | (show RetP _ _ _ _ _ _ _ _; first | refine r_1 ?_))
    rename_i v0 B0 h0 v1 B1 h1
    exact q_drop (hK v1 B1 (by simpa using h1))
set_option maxHeartbeats 4000000 in
set_option maxRecDepth 100000 in
theorem cloneData (e : World) {v : Value} {bs : List UInt8} {Bs F : Hp} {K : Value → Hp → Prop} (hS : InSl Bs 1 (bs.map byC) v) (hb : bs.length ≤ 140737488355328) (hK : ∀ v' B', SlO 5 1 v' bs.length (bs.map byC).flatten B' → K v' (B' ++ (Bs ++ F))) :
    callsK Tryz.prog e 59 #[v] (Bs ++ F) K := by
  have hin := hS
  obtain ⟨a, c, rfl, _⟩ := hS
  cases a with
  | none =>
    refine calls_body (N := 8) (args := [.slice none (bs.map byC).length c]) Tryz.func59 rfl rfl rfl (by simp) ?_
    repeat' (first | (show wpO _ _ _ _ _ _ _; first | refine wpO_nil ?_ | (show wpO _ _ _ (⟨_, .binOp _ _ _ _ _, _, _, _, _⟩ :: _) _ _ _; first | refine s_tt ?_ | refine s_ff ?_ | refine s_rdp ?_ | ((first | refine s_cmp (fun _ => ?_) (fun _ => ?_) | refine s_cb (fun _ => ?_) (fun _ => ?_)) <;> (first | (exfalso; omega) | contradiction | skip))) | refine s_rdp ?_ | refine s_rdm ?_ | refine s_exq ?_ | refine s_exm ?_) | (show Ex _ _ _ _ _; first | (show Ex _ ⟨_, .buildSlice _ _ _, _, _, _, _⟩ _ _ _; first | (refine e_buildSlice ?_; intro _) | (refine e_buildNil ?_; intro _ _ _)) | (show Ex _ ⟨_, .call ⟨.builtin .append, _, _⟩, _, _, _, _⟩ _ _ _; (first | refine e_append ?_ | refine e_appendIn ?_); intro _ _ _)) | (show wpC _ _ _ _ _ _; first | refine wpC_seq ?_ | refine wpC_region ?_ | refine c_true ?_ | refine c_false ?_ | (refine c_b (fun _ => ?_) (fun _ => ?_) <;> (first | (exfalso; omega) | contradiction | skip)) | refine wpC_ret ?_ | refine wpC_skip ?_ | refine wpC_label ?_) | (show Then _ _ _ _ _ _ _; first | refine then_normal ?_ | refine then_ret ?_) | (show RetP _ _ _ _ _ _ _ _; first | refine r_1 ?_))
    have hb0 : bs = [] := by
      rcases hin with ⟨_, _, hv, _, _, h | ⟨_, _, _, _, _, ha, _⟩⟩
      · simpa using h
      · subst ha; simp at hv
    subst hb0
    exact q_drop (hK _ _ (SlO.nil 5 1))
  | some a =>
    refine calls_body (N := 8) (args := [.slice (some a) (bs.map byC).length c]) Tryz.func59 rfl rfl rfl (by simp) ?_
    repeat' (first | (show wpO _ _ _ _ _ _ _; first | refine wpO_nil ?_ | (show wpO _ _ _ (⟨_, .binOp _ _ _ _ _, _, _, _, _⟩ :: _) _ _ _; first | refine s_tt ?_ | refine s_ff ?_ | refine s_rdp ?_ | ((first | refine s_cmp (fun _ => ?_) (fun _ => ?_) | refine s_cb (fun _ => ?_) (fun _ => ?_)) <;> (first | (exfalso; omega) | contradiction | skip))) | refine s_rdp ?_ | refine s_rdm ?_ | refine s_exq ?_ | refine s_exm ?_) | (show Ex _ _ _ _ _; first | (show Ex _ ⟨_, .buildSlice _ _ _, _, _, _, _⟩ _ _ _; first | (refine e_buildSlice ?_; intro _) | (refine e_buildNil ?_; intro _ _ _)) | (show Ex _ ⟨_, .call ⟨.builtin .append, _, _⟩, _, _, _, _⟩ _ _ _; (first | refine e_append ?_ | refine e_appendIn ?_); intro _ _ _)) | (show wpC _ _ _ _ _ _; first | refine wpC_seq ?_ | refine wpC_region ?_ | refine c_true ?_ | refine c_false ?_ | (refine c_b (fun _ => ?_) (fun _ => ?_) <;> (first | (exfalso; omega) | contradiction | skip)) | refine wpC_ret ?_ | refine wpC_skip ?_ | refine wpC_label ?_) | (show Then _ _ _ _ _ _ _; first | refine then_normal ?_ | refine then_ret ?_) | (show RetP _ _ _ _ _ _ _ _; first | refine r_1 ?_))
    rename_i v0 B0 h0 v1 B1 h1
    exact q_drop (hK v1 B1 (by simpa using h1))
set_option maxHeartbeats 4000000 in
set_option maxRecDepth 100000 in
theorem cloneEntry_spec (e : World) {x : EnR} {P F : Hp} {K : Value → Hp → Prop} (hx : EnIn P x) (hz : EnSz x.c) (hK : ∀ y : EnR, y.c = x.c → ∀ Bo Bd, EnO y Bo Bd → K (.agg y.cells.toArray) ((Bo ++ Bd) ++ (P ++ F))) :
    callsK Tryz.prog e 37 #[.agg x.cells.toArray] (P ++ F) K := by
  have hxo := hx.o
  have hxd := hx.d
  refine calls_body (N := 14) (args := [.agg x.cells.toArray]) Tryz.func37 rfl rfl rfl (by simp) ?_
  repeat' ((fail_if_success (show wpC _ (.seq (.region 3 _ _) _) _ _ _ _)); first | (show wpO _ _ _ _ _ _ _; first | refine wpO_nil ?_ | refine s_rdp ?_ | refine s_rdm ?_ | refine s_exq ?_ | refine s_exm ?_) | (show Ex _ _ _ _ _; first | (show Ex _ ⟨_, .call ⟨.value (.func _), _, _⟩, _, _, _, _⟩ _ _ _; refine e_call ?_; first | (apply p_pcs; (first | apply cloneOps _ hxo hz.o | apply cloneData _ hxd hz.d); (try case hS => assumption); (case hpcs => (repeat (first | exact Pcs.blk (by infer_instance) | exact Pcs.nil | (apply Pcs.cons; infer_instance) | apply Pcs.app))))) | (show Ex _ ⟨_, .alloc _, _, _, _, _⟩ _ _ _; first | (refine e_allocA ?_; intro _) | (refine e_alloc1 ?_; intro _)) | (show Ex _ ⟨_, .box _ _, _, _, _, _⟩ _ _ _; first | (refine e_boxA ?_; intro _) | (refine e_box1 ?_; intro _)) | (show Ex _ ⟨_, .store _ _ _, _, _, _, _⟩ _ _ _; first | refine e_store1 ?_ | refine e_storeA ?_ | (refine e_storeO ?_; intro _ _))) | (show wpC _ _ _ _ _ _; first | refine wpC_seq ?_ | refine wpC_region ?_ | refine wpC_ret ?_ | refine wpC_skip ?_ | refine wpC_label ?_) | (show Then _ _ _ _ _ _ _; first | refine then_normal ?_ | refine then_ret ?_) | (show RetP _ _ _ _ _ _ _ _; first | refine r_C1 ?_ | refine r_DC ?_) | assumption | intro _)
  rename_i b1 b2 v1 B1 h1 v2 B2 h2
  obtain ⟨a1, c1, hv1⟩ := SlO.val h1
  obtain ⟨a2, c2, hv2⟩ := SlO.val h2
  subst hv1
  subst hv2
  repeat' (first | refine r_CA ?_ | (show wpO _ _ _ _ _ _ _; first | refine wpO_nil ?_ | refine s_rdp ?_ | refine s_rdm ?_ | refine s_exq ?_ | refine s_exm ?_) | (show Ex _ _ _ _ _; first | (show Ex _ ⟨_, .alloc _, _, _, _, _⟩ _ _ _; first | (refine e_allocA ?_; intro _) | (refine e_alloc1 ?_; intro _)) | (show Ex _ ⟨_, .box _ _, _, _, _, _⟩ _ _ _; first | (refine e_boxA ?_; intro _) | (refine e_box1 ?_; intro _)) | (show Ex _ ⟨_, .store _ _ _, _, _, _, _⟩ _ _ _; first | refine e_store1 ?_ | refine e_storeA ?_ | (refine e_storeO ?_; intro _ _))) | (show wpC _ _ _ _ _ _; first | refine wpC_seq ?_ | refine wpC_region ?_ | refine wpC_ret ?_ | refine wpC_skip ?_ | refine wpC_label ?_) | (show Then _ _ _ _ _ _ _; first | refine then_normal ?_ | refine then_ret ?_) | (show RetP _ _ _ _ _ _ _ _; first | refine r_C1 ?_ | refine r_DC ?_))
  exact q_drop (hK ⟨x.c, a1, c1, a2, c2⟩ rfl B1 B2 ⟨h1, h2⟩)
abbrev pv (n : Nat) : Value := .pointer (some ⟨n, 0, none⟩)
/-- something accepted, its lists' blocks -/
structure SlR where
  slot : Int
  bal : Bal
  en : EnR
  Bo : Hp
  Bd : Hp
abbrev SlR.cells (s : SlR) : List Value := .int .i64 s.slot :: .int .i64 s.bal.r :: .int .i64 s.bal.p :: s.en.cells
abbrev SlR.hp (s : SlR) : Hp := s.Bo ++ s.Bd
abbrev SlR.c (s : SlR) : Sl := ⟨s.slot, s.bal, s.en.c⟩
def SlR.ok (s : SlR) : Prop := EnO s.en s.Bo s.Bd
def acH (l : List SlR) : Hp := l.flatMap SlR.hp
set_option maxHeartbeats 4000000 in
set_option maxRecDepth 100000 in
theorem acH_cons (s : SlR) (l : List SlR) : acH (s :: l) = s.hp ++ acH l := rfl
set_option maxHeartbeats 4000000 in
set_option maxRecDepth 100000 in
theorem acH_app (a b : List SlR) : acH (a ++ b) = acH a ++ acH b := List.flatMap_append
set_option maxHeartbeats 4000000 in
set_option maxRecDepth 100000 in
theorem EnO.inn {e : EnR} {Bo Bd : Hp} (h : EnO e Bo Bd) : EnIn (Bo ++ Bd) e :=
  ⟨(SlO.inB (by rw [List.length_map]; exact h.o) (fun r hr => by obtain ⟨u, _, rfl⟩ := List.mem_map.1 hr; exact ⟨rfl, rfl⟩)).more fun x hx => List.mem_append_left _ hx,
   (SlO.inB (by rw [List.length_map]; exact h.d) (fun r hr => by obtain ⟨u, _, rfl⟩ := List.mem_map.1 hr; exact ⟨rfl, rfl⟩)).more fun x hx => List.mem_append_right _ hx⟩
set_option maxHeartbeats 4000000 in
set_option maxRecDepth 100000 in
theorem EnIn.more {P Q : Hp} {e : EnR} (h : EnIn P e) (hs : ∀ x ∈ P, x ∈ Q) : EnIn Q e := ⟨h.o.more hs, h.d.more hs⟩
set_option maxHeartbeats 4000000 in
set_option maxRecDepth 100000 in
theorem acH_in {s : SlR} {l : List SlR} (h : s ∈ l) (hs : s.ok) : EnIn (acH l) s.en := (EnO.inn hs).more fun _ hx => List.mem_flatMap.2 ⟨s, h, hx⟩
abbrev slV (s : SlR) : Value := .agg s.cells.toArray
abbrev zeroE : EnR := ⟨⟨0, 0, 0, ⟨0, 0, 0, 0, 0, ⟨#[]⟩, ⟨#[]⟩, ⟨#[]⟩⟩, 0, 0, [], 0, fun _ => 0, fun _ => 0, fun _ => 0, 0, fun _ => 0, 0, 0, 0, 0, [], 0, 0, 0⟩, none, 0, none, 0⟩
set_option maxHeartbeats 4000000 in
set_option maxRecDepth 100000 in
theorem zeroE_in : EnIn [] zeroE := ⟨InSl.nil, InSl.nil⟩
set_option maxHeartbeats 4000000 in
set_option maxRecDepth 100000 in
theorem zeroE_sz : EnSz zeroE.c := ⟨by decide, by decide⟩
set_option maxHeartbeats 4000000 in
set_option maxRecDepth 100000 in
theorem bal_eqV (a b : Bal) : eqV Tryz.prog 4 23 (.agg a.cells.toArray) (.agg b.cells.toArray) = some (decide (a = b)) := by
  have h : eqV Tryz.prog 4 23 (.agg a.cells.toArray) (.agg b.cells.toArray) = andO (some (a.r == b.r)) (andO (some (a.p == b.p)) (some true)) := by kernel_rfl
  rw [h]
  simp only [andO_some]
  congr 1
  obtain ⟨x, y⟩ := a
  obtain ⟨z, w⟩ := b
  rw [Bool.eq_iff_iff]
  simp
end Go.Vl

namespace Go.Vl
open Go.Proofs
set_option maxHeartbeats 4000000 in
set_option maxRecDepth 100000 in
theorem op_refl (x : OpC) : eqW Tryz.prog 4 40 (.agg x.cells.toArray) (.agg x.cells.toArray) = some true := eqW_refl (by kernel_rfl)
set_option maxHeartbeats 4000000 in
set_option maxRecDepth 100000 in
theorem ep_refl (x : EnC) : eqW Tryz.prog 4 46 (.agg #[.int .i64 x.num, .int .i64 (x.st 0), .int .i64 (x.st 1), .int .i64 (x.st 2), .int .i64 (x.st 3), .int .i64 (x.st 4), .int .i64 (x.st 5), .int .i64 (x.st 6), .int .i64 (x.st 7),
  .int .i64 (x.sea 0), .int .i64 (x.sea 1), .int .i64 (x.sea 2), .int .i64 (x.sea 3), .int .i64 (x.sea 4), .int .i64 (x.sea 5), .int .i64 (x.sea 6), .int .i64 (x.sea 7),
  .int .i64 (x.spo 0), .int .i64 (x.spo 1), .int .i64 (x.spo 2), .int .i64 (x.spo 3), .int .i64 (x.spo 4), .int .i64 (x.spo 5), .int .i64 (x.spo 6), .int .i64 (x.spo 7)]) (.agg #[.int .i64 x.num, .int .i64 (x.st 0), .int .i64 (x.st 1), .int .i64 (x.st 2), .int .i64 (x.st 3), .int .i64 (x.st 4), .int .i64 (x.st 5), .int .i64 (x.st 6), .int .i64 (x.st 7),
  .int .i64 (x.sea 0), .int .i64 (x.sea 1), .int .i64 (x.sea 2), .int .i64 (x.sea 3), .int .i64 (x.sea 4), .int .i64 (x.sea 5), .int .i64 (x.sea 6), .int .i64 (x.sea 7),
  .int .i64 (x.spo 0), .int .i64 (x.spo 1), .int .i64 (x.spo 2), .int .i64 (x.spo 3), .int .i64 (x.spo 4), .int .i64 (x.spo 5), .int .i64 (x.spo 6), .int .i64 (x.spo 7)]) = some true := eqW_refl (by kernel_rfl)
set_option maxHeartbeats 4000000 in
set_option maxRecDepth 100000 in
theorem ve_refl (x : EnC) : eqW Tryz.prog 4 44 (.agg #[.int .i64 (x.vec 0), .int .i64 (x.vec 1), .int .i64 (x.vec 2), .int .i64 (x.vec 3), .int .i64 (x.vec 4), .int .i64 (x.vec 5), .int .i64 (x.vec 6), .int .i64 (x.vec 7)]) (.agg #[.int .i64 (x.vec 0), .int .i64 (x.vec 1), .int .i64 (x.vec 2), .int .i64 (x.vec 3), .int .i64 (x.vec 4), .int .i64 (x.vec 5), .int .i64 (x.vec 6), .int .i64 (x.vec 7)]) = some true := eqW_refl (by kernel_rfl)
attribute [local irreducible] eqW eqV wpC wpO wpD Ex Rd callsK RetP Drop valK
set_option maxHeartbeats 4000000 in
set_option maxRecDepth 100000 in
theorem sameOps_spec (e : World) {os : List OpC} {v u : Value} {P F : Hp} {K : Value → Hp → Prop} (hv : InSl P 8 (os.map OpC.cells) v) (hu : InSl P 8 (os.map OpC.cells) u) (hl : os.length * 88 ≤ 140737488355328) (hK : K (.bool true) (P ++ F)) :
    callsK Tryz.prog e 51 #[v, u] (P ++ F) K := by
  have hv0 := hv
  have hu0 := hu
  obtain ⟨a1, c1, rfl, _⟩ := hv0
  obtain ⟨a2, c2, rfl, _⟩ := hu0
  have hml : (os.map OpC.cells).length = os.length := List.length_map _
  refine calls_body (N := 26) (args := [.slice a1 (os.map OpC.cells).length c1, .slice a2 (os.map OpC.cells).length c2]) Tryz.func51 rfl rfl rfl (by simp) ?_
  repeat' (first | (show wpO _ _ _ _ _ _ _; first | refine wpO_nil ?_ | (show wpO _ _ _ (⟨_, .binOp _ _ _ _ _, _, _, _, _⟩ :: _) _ _ _; first | refine s_tt ?_ | refine s_ff ?_ | refine s_rdp ?_ | ((first | refine s_cmp (fun _ => ?_) (fun _ => ?_) | refine s_cb (fun _ => ?_) (fun _ => ?_)) <;> (first | (exfalso; omega) | contradiction | skip))) | (show wpO _ _ _ (⟨_, .indexAddr _ _ _, _, _, _, _⟩ :: _) _ _ _; first | refine s_rdp ?_ | refine s_idx (fun _ _ _ _ _ _ _ => ?_)) | refine s_rdp ?_ | refine s_rdm ?_ | refine s_exq ?_ | refine s_exm ?_) | (show wpC _ _ _ _ _ _; first | refine wpC_seq ?_ | refine wpC_region ?_ | refine c_true ?_ | refine c_false ?_ | (refine c_b (fun _ => ?_) (fun _ => ?_) <;> (first | (exfalso; omega) | contradiction | skip)) | refine wpC_block ?_ | refine wpC_ret ?_ | refine wpC_skip ?_ | refine wpC_exit ?_ | refine wpC_label ?_ | (apply wpC_drawX (id := 6) ([]) [0, 1, 2, 3, 4, 5, 6, 7, 8] rfl (by kernel_rfl); (case hpk => (repeat (first | exact Pcs.blk (by infer_instance) | exact Pcs.nil | (apply Pcs.cons; infer_instance) | apply Pcs.app))))) | (show Then _ _ _ _ _ _ _; first | refine then_normal ?_ | refine then_ret ?_ | refine then_exit ?_) | (show InBlock _ _ _ _ _ _; first | refine inBlock_normal ?_ | refine inBlock_ret ?_ | refine inBlock_same ?_ | refine b_other ?_) | (show LoopPost _ _ _ _ _ _; first | refine loop_ret ?_ | refine loop_exit ?_) | (show wpD _ _ _ _ _ _ _ _; first | refine wpD_nil ?_ | refine d_rdp ?_ | refine d_rdm ?_ | refine d_tt ?_ | refine d_ff ?_ | ((first | refine d_cmp (fun _ => ?_) (fun _ => ?_) | refine d_cb (fun _ => ?_) (fun _ => ?_)) <;> (first | (exfalso; omega) | contradiction | skip)) | refine d_idx (fun _ _ _ _ _ _ _ => ?_) | refine d_exs ?_ | refine d_exn ?_) | (show (_ ∨ Subs _ _) ∧ _; first | refine d_sub ?_ | refine d_cov ?_) | (show RetP _ _ _ _ _ _ _ _; first | refine r_1 ?_))
  refine wpC_loopA (κ := Nat) [4, 5, 11, 12, 13, 14, 15, 16, 17, 18, 19, 20, 21, 22, 23, 24, 25] (fun i => [(5, .int .i64 (i : Int))]) (fun _ => P ++ F) (fun i => i ≤ os.length) (fun i => os.length - i) 0 (Nat.zero_le _) ⟨rfl, trivial⟩ q_drp ?_
  rintro i ρx hi
  cases hr : os[i]? with
  | none =>
    have hge : os.length ≤ i := List.getElem?_eq_none_iff.1 hr
    repeat' (first | (show wpO _ _ _ _ _ _ _; first | refine wpO_nil ?_ | (show wpO _ _ _ (⟨_, .binOp _ _ _ _ _, _, _, _, _⟩ :: _) _ _ _; first | refine s_tt ?_ | refine s_ff ?_ | refine s_rdp ?_ | ((first | refine s_cmp (fun _ => ?_) (fun _ => ?_) | refine s_cb (fun _ => ?_) (fun _ => ?_)) <;> (first | (exfalso; omega) | contradiction | skip))) | (show wpO _ _ _ (⟨_, .indexAddr _ _ _, _, _, _, _⟩ :: _) _ _ _; first | refine s_rdp ?_ | refine s_idx (fun _ _ _ _ _ _ _ => ?_)) | refine s_rdp ?_ | refine s_rdm ?_ | refine s_exq ?_ | refine s_exm ?_) | (show wpC _ _ _ _ _ _; first | refine wpC_seq ?_ | refine wpC_region ?_ | refine c_true ?_ | refine c_false ?_ | (refine c_b (fun _ => ?_) (fun _ => ?_) <;> (first | (exfalso; omega) | contradiction | skip)) | refine wpC_block ?_ | refine wpC_ret ?_ | refine wpC_skip ?_ | refine wpC_exit ?_ | refine wpC_label ?_ | (apply wpC_drawX (id := 6) ([]) [0, 1, 2, 3, 4, 5, 6, 7, 8] rfl (by kernel_rfl); (case hpk => (repeat (first | exact Pcs.blk (by infer_instance) | exact Pcs.nil | (apply Pcs.cons; infer_instance) | apply Pcs.app))))) | (show Then _ _ _ _ _ _ _; first | refine then_normal ?_ | refine then_ret ?_ | refine then_exit ?_) | (show InBlock _ _ _ _ _ _; first | refine inBlock_normal ?_ | refine inBlock_ret ?_ | refine inBlock_same ?_ | refine b_other ?_) | (show LoopPost _ _ _ _ _ _; first | refine loop_ret ?_ | refine loop_exit ?_) | (show wpD _ _ _ _ _ _ _ _; first | refine wpD_nil ?_ | refine d_rdp ?_ | refine d_rdm ?_ | refine d_tt ?_ | refine d_ff ?_ | ((first | refine d_cmp (fun _ => ?_) (fun _ => ?_) | refine d_cb (fun _ => ?_) (fun _ => ?_)) <;> (first | (exfalso; omega) | contradiction | skip)) | refine d_idx (fun _ _ _ _ _ _ _ => ?_) | refine d_exs ?_ | refine d_exn ?_) | (show (_ ∨ Subs _ _) ∧ _; first | refine d_sub ?_ | refine d_cov ?_) | (show RetP _ _ _ _ _ _ _ _; first | refine r_1 ?_))
    exact q_drop hK
  | some o =>
    have hlt := (List.getElem?_eq_some_iff.1 hr).1
    have heq := op_refl o
    repeat' (first | (show wpO _ _ _ _ _ _ _; first | refine wpO_nil ?_ | (show wpO _ _ _ (⟨_, .binOp _ _ _ _ _, _, _, _, _⟩ :: _) _ _ _; first | refine s_tt ?_ | refine s_ff ?_ | refine s_rdp ?_ | ((first | refine s_cmp (fun _ => ?_) (fun _ => ?_) | refine s_cb (fun _ => ?_) (fun _ => ?_)) <;> (first | (exfalso; omega) | contradiction | skip))) | (show wpO _ _ _ (⟨_, .indexAddr _ _ _, _, _, _, _⟩ :: _) _ _ _; first | refine s_rdp ?_ | refine s_idx (fun _ _ _ _ _ _ _ => ?_)) | refine s_rdp ?_ | refine s_rdm ?_ | refine s_exq ?_ | refine s_exm ?_) | (show wpC _ _ _ _ _ _; first | refine wpC_seq ?_ | refine wpC_region ?_ | refine c_true ?_ | refine c_false ?_ | (refine c_b (fun _ => ?_) (fun _ => ?_) <;> (first | (exfalso; omega) | contradiction | skip)) | refine wpC_block ?_ | refine wpC_ret ?_ | refine wpC_skip ?_ | refine wpC_exit ?_ | refine wpC_label ?_ | (apply wpC_drawX (id := 6) ([]) [0, 1, 2, 3, 4, 5, 6, 7, 8] rfl (by kernel_rfl); (case hpk => (repeat (first | exact Pcs.blk (by infer_instance) | exact Pcs.nil | (apply Pcs.cons; infer_instance) | apply Pcs.app))))) | (show Then _ _ _ _ _ _ _; first | refine then_normal ?_ | refine then_ret ?_ | refine then_exit ?_) | (show InBlock _ _ _ _ _ _; first | refine inBlock_normal ?_ | refine inBlock_ret ?_ | refine inBlock_same ?_ | refine b_other ?_) | (show LoopPost _ _ _ _ _ _; first | refine loop_ret ?_ | refine loop_exit ?_) | (show wpD _ _ _ _ _ _ _ _; first | refine wpD_nil ?_ | refine d_rdp ?_ | refine d_rdm ?_ | refine d_tt ?_ | refine d_ff ?_ | ((first | refine d_cmp (fun _ => ?_) (fun _ => ?_) | refine d_cb (fun _ => ?_) (fun _ => ?_)) <;> (first | (exfalso; omega) | contradiction | skip)) | refine d_idx (fun _ _ _ _ _ _ _ => ?_) | refine d_exs ?_ | refine d_exn ?_) | (show (_ ∨ Subs _ _) ∧ _; first | refine d_sub ?_ | refine d_cov ?_) | (show RetP _ _ _ _ _ _ _ _; first | refine r_1 ?_))
    exact lp_end (i + 1) (by omega) hlt
set_option maxHeartbeats 4000000 in
set_option maxRecDepth 100000 in
theorem samePart_spec (e : World) {bs : List UInt8} {s i m : Int} {v u : Value} {P F : Hp} {K : Value → Hp → Prop} (hv : InSl P 1 (bs.map byC) v) (hu : InSl P 1 (bs.map byC) u) (hK : K (.bool true) (P ++ F)) :
    callsK Tryz.prog e 52 #[.agg #[.int .i64 s, .int .i64 i, .int .i64 m, v], .agg #[.int .i64 s, .int .i64 i, .int .i64 m, u]] (P ++ F) K := by
  have hv0 := hv
  have hu0 := hu
  obtain ⟨a1, c1, rfl, _⟩ := hv0
  obtain ⟨a2, c2, rfl, _⟩ := hu0
  refine calls_body (N := 33) (args := [.agg #[.int .i64 s, .int .i64 i, .int .i64 m, .slice a1 (bs.map byC).length c1], .agg #[.int .i64 s, .int .i64 i, .int .i64 m, .slice a2 (bs.map byC).length c2]]) Tryz.func52 rfl rfl rfl (by simp) ?_
  repeat' (first | (show wpO _ _ _ _ _ _ _; first | refine wpO_nil ?_ | (show wpO _ _ _ (⟨_, .binOp _ _ _ _ _, _, _, _, _⟩ :: _) _ _ _; first | refine s_tt ?_ | refine s_ff ?_ | refine s_rdp ?_ | ((first | refine s_cmp (fun _ => ?_) (fun _ => ?_) | refine s_cb (fun _ => ?_) (fun _ => ?_)) <;> (first | (exfalso; omega) | contradiction | skip))) | (show wpO _ _ _ (⟨_, .pick _ _ _, _, _, _, _⟩ :: _) _ _ _; first | refine s_rdp ?_ | (refine s_p (fun _ => ?_) (fun _ => ?_) <;> (first | (exfalso; omega) | contradiction | skip))) | (show wpO _ _ _ (⟨_, .convert _ _ _, _, _, _, _⟩ :: _) _ _ _; first | (refine s_exs ?_; refine e_mark ?_) | refine s_rdm ?_ (hr := by first | (apply rd_bytesStrO; (conv => lhs; whnf); assumption; exact Sbs.sub (self := by infer_instance); exact rfl; exact rfl; exact rfl; done) | (apply rd_bytesStr; (conv => lhs; whnf); assumption; exact Sbs.sub (self := by infer_instance); exact rfl; exact rfl; exact rfl; done))) | refine s_rdp ?_ | refine s_rdm ?_ | refine s_exq ?_ | refine s_exm ?_ | refine s_sks ?_ | refine s_skn ?_ | (refine s_g (fun _ => ?_) (fun _ => ?_) <;> (first | (exfalso; omega) | contradiction | skip))) | (show Ex _ _ _ _ _; first | (show Ex _ ⟨_, .box _ _, _, _, _, _⟩ _ _ _; first | (refine e_boxA ?_; intro _) | (refine e_box1 ?_; intro _)) | (show Ex _ ⟨_, .convert _ _ _, _, _, _, _⟩ _ _ _; refine e_mark ?_)) | (show wpC _ _ _ _ _ _; first | refine wpC_seq ?_ | refine wpC_region ?_ | refine wpC_ret ?_ | refine wpC_skip ?_ | refine wpC_label ?_) | (show Then _ _ _ _ _ _ _; first | refine then_normal ?_ | refine then_ret ?_) | (show RetP _ _ _ _ _ _ _ _; first | refine r_1 ?_))
  all_goals first | exact q_drop hK | skip
set_option maxHeartbeats 4000000 in
set_option maxRecDepth 100000 in
theorem sameEntry_spec (e : World) {x y : EnR} {P F : Hp} {K : Value → Hp → Prop} (hx : EnIn P x) (hy : EnIn P y) (hc : y.c = x.c) (hz : EnSz x.c) (hK : K (.bool true) (P ++ F)) :
    callsK Tryz.prog e 28 #[.agg x.cells.toArray, .agg y.cells.toArray] (P ++ F) K := by
  obtain ⟨yc, ya, yo, yd, ye⟩ := y
  simp only at hc
  subst hc
  have hxo := hx.o
  have hxd := hx.d
  have hyo := hy.o
  have hyd := hy.d
  have hzo := hz.o
  have h1 := op_refl x.c.op
  have h2 := ep_refl x.c
  have h3 := ve_refl x.c
  refine calls_body (N := 108) (args := [.agg x.cells.toArray, .agg (EnR.mk x.c ya yo yd ye).cells.toArray]) Tryz.func28 rfl rfl rfl (by simp) ?_
  repeat' (first | (show wpO _ _ _ _ _ _ _; first | refine wpO_nil ?_ | (show wpO _ _ _ (⟨_, .binOp _ _ _ _ _, _, _, _, _⟩ :: _) _ _ _; first | refine s_tt ?_ | refine s_ff ?_ | refine s_rdp ?_ | ((first | refine s_cmp (fun _ => ?_) (fun _ => ?_) | refine s_cb (fun _ => ?_) (fun _ => ?_)) <;> (first | (exfalso; omega) | contradiction | skip))) | (show wpO _ _ _ (⟨_, .pick _ _ _, _, _, _, _⟩ :: _) _ _ _; first | refine s_rdp ?_ | (refine s_p (fun _ => ?_) (fun _ => ?_) <;> (first | (exfalso; omega) | contradiction | skip))) | refine s_rdp ?_ | refine s_rdm ?_ | refine s_exq ?_ | refine s_exm ?_ | refine s_sks ?_ | refine s_skn ?_ | (refine s_g (fun _ => ?_) (fun _ => ?_) <;> (first | (exfalso; omega) | contradiction | skip))) | (show Ex _ _ _ _ _; first | (show Ex _ ⟨_, .call ⟨.value (.func _), _, _⟩, _, _, _, _⟩ _ _ _; refine e_call ?_; first | (apply p_pcs; (first | apply sameOps_spec _ hxo hyo hzo | apply samePart_spec _ hxd hyd); (try case hS => assumption); (case hpcs => (repeat (first | exact Pcs.blk (by infer_instance) | exact Pcs.nil | (apply Pcs.cons; infer_instance) | apply Pcs.app))))) | (show Ex _ ⟨_, .box _ _, _, _, _, _⟩ _ _ _; first | (refine e_boxA ?_; intro _) | (refine e_box1 ?_; intro _))) | (show wpC _ _ _ _ _ _; first | refine wpC_seq ?_ | refine wpC_region ?_ | refine wpC_ret ?_ | refine wpC_skip ?_ | refine wpC_label ?_) | (show Then _ _ _ _ _ _ _; first | refine then_normal ?_ | refine then_ret ?_) | (show RetP _ _ _ _ _ _ _ _; first | refine r_1 ?_) | assumption | intro _)
  all_goals first | exact q_drop hK | skip
set_option maxHeartbeats 4000000 in
set_option maxRecDepth 100000 in
theorem sameSlotted_spec (e : World) {x y : SlR} {P F : Hp} {K : Value → Hp → Prop} (hx : EnIn P x.en) (hy : EnIn P y.en) (hc : y.c = x.c) (hz : EnSz x.en.c) (hK : K (.bool true) (P ++ F)) :
    callsK Tryz.prog e 24 #[slV x, slV y] (P ++ F) K := by
  obtain ⟨ts, tb, te, _, _⟩ := y
  have hc1 : ts = x.slot := congrArg Sl.slot hc
  have hc2 : tb = x.bal := congrArg Sl.bal hc
  have hc3 : te.c = x.en.c := congrArg Sl.en hc
  subst hc1
  subst hc2
  have heq := bal_eqV x.bal x.bal
  rw [decide_eq_true rfl] at heq
  refine calls_body (N := 24) (args := [slV x, slV ⟨x.slot, x.bal, te, [], []⟩]) Tryz.func24 rfl rfl rfl (by simp) ?_
  repeat' (first | (show wpO _ _ _ _ _ _ _; first | refine wpO_nil ?_ | (show wpO _ _ _ (⟨_, .binOp _ _ _ _ _, _, _, _, _⟩ :: _) _ _ _; first | refine s_tt ?_ | refine s_ff ?_ | refine s_rdp ?_ | ((first | refine s_cmp (fun _ => ?_) (fun _ => ?_) | refine s_cb (fun _ => ?_) (fun _ => ?_)) <;> (first | (exfalso; omega) | contradiction | skip))) | (show wpO _ _ _ (⟨_, .pick _ _ _, _, _, _, _⟩ :: _) _ _ _; first | refine s_rdp ?_ | (refine s_p (fun _ => ?_) (fun _ => ?_) <;> (first | (exfalso; omega) | contradiction | skip))) | refine s_rdp ?_ | refine s_rdm ?_ | refine s_exq ?_ | refine s_exm ?_ | refine s_sks ?_ | refine s_skn ?_ | (refine s_g (fun _ => ?_) (fun _ => ?_) <;> (first | (exfalso; omega) | contradiction | skip))) | (show Ex _ _ _ _ _; first | (show Ex _ ⟨_, .call ⟨.value (.func _), _, _⟩, _, _, _, _⟩ _ _ _; refine e_call ?_; first | (apply p_pcs; apply sameEntry_spec _ hx hy hc3 hz; (try case hS => assumption); (case hpcs => (repeat (first | exact Pcs.blk (by infer_instance) | exact Pcs.nil | (apply Pcs.cons; infer_instance) | apply Pcs.app))))) | (show Ex _ ⟨_, .box _ _, _, _, _, _⟩ _ _ _; first | (refine e_boxA ?_; intro _) | (refine e_box1 ?_; intro _))) | (show wpC _ _ _ _ _ _; first | refine wpC_seq ?_ | refine wpC_region ?_ | refine wpC_ret ?_ | refine wpC_skip ?_ | refine wpC_label ?_) | (show Then _ _ _ _ _ _ _; first | refine then_normal ?_ | refine then_ret ?_) | (show RetP _ _ _ _ _ _ _ _; first | refine r_1 ?_) | assumption | intro _)
  all_goals first | exact q_drop hK | skip
end Go.Vl

namespace Go.Vl
open Go.RowKit
section
variable {P : Program} {e : World} {ρ : Fr} {H : Hp} {d : Option Nat} {ty : TypeId} {pos : String} {af : Array Edge} {g : Option (Nat × Bool)}
theorem rd_indexArr {x y : Operand} {t el n b o len k : Nat} {q : IntKind} (hx : ev ρ x = .pointer (some ⟨b, o, none⟩)) (hy : ev ρ y = .int q (k : Int)) (ht : P.underlying t = some (.array len el))
    (hs : sz P el = some n) (h1 : k < len) : Rd P e ρ H ⟨d, .indexAddr t x y, ty, pos, af, g⟩ (.pointer (some ⟨b, o + k * n, none⟩)) := fun w _ => by
  have : (Instr.indexAt t (ev ρ x) (ev ρ y)).run P w = .ok (.pointer (some ⟨b, o + k * n, none⟩)) w := by
    rw [hx, hy]
    unfold Instr.indexAt
    have hc : ((0 : Int) ≤ (k : Int) ∧ (k : Int) < (len : Int)) := ⟨by omega, by omega⟩
    simp only [asIntOf, Sem.run_bind, Sem.run_pure, Result.andThen_ok, underlying_run ht, Instr.sureAddr, hc, and_self, if_true]
    simp only [Result.andThen_ok, sizeOf_run hs, addr_add, Int.toNat_natCast]
  simp [execOp, this]
theorem rd_indexVal {x y : Operand} {t el n len k : Nat} {q : IntKind} {cs : Array Value} {v : Value} (hx : ev ρ x = .agg cs) (hy : ev ρ y = .int q (k : Int)) (ht : P.underlying t = some (.array len el))
    (hs : sz P el = some n) (h1 : k < len) (hp : partV P el cs (k * n) = some v) : Rd P e ρ H ⟨d, .index t x y, ty, pos, af, g⟩ v := fun w _ => by
  have : (Instr.index t (ev ρ x) (ev ρ y)).run P w = .ok v w := by
    rw [hx, hy]
    unfold Instr.index
    have hc : ((0 : Int) ≤ (k : Int) ∧ (k : Int) < (len : Int)) := ⟨by omega, by omega⟩
    simp only [asIntOf, Sem.run_bind, Sem.run_pure, Result.andThen_ok, underlying_run ht, hc, and_self, if_true]
    simp only [Result.andThen_ok, sizeOf_run hs, Int.toNat_natCast, partV_run hp]
  simp [execOp, this]
end
/-! bits: an unsigned integer is a natural number below a power of two -/
section
variable {P : Program} {e : World} {ρ : Fr} {H : Hp} {d : Option Nat} {ty : TypeId} {pos : String} {af : Array Edge} {g : Option (Nat × Bool)} {t yt s : TypeId} {x y : Operand} {k m : IntKind} {a b : Nat}
end
end Go.Vl

namespace Go.Vl
open Go.RowKit
structure Fork (p q : Prop) : Prop where
  l : p
  r : q
theorem fork_mk {p q : Prop} (h1 : p) (h2 : q) : Fork p q := ⟨h1, h2⟩
def planK (ops : Array Oper) (k : Array Bool → Bool) : List Nat → Array Bool → Bool
  | [], listed => k listed
  | i :: pl, listed =>
    (match ops[i]? with
      | some o => bif isRd o.op then (Region.ready .any ops listed).contains i && Region.free .any ops listed i else Region.ready .any ops listed == [i]
      | none => false) && planK ops k pl (listed.setIfInBounds i true)
def noRd (ops : Array Oper) (i : Nat) : Bool := match ops[i]? with | some o => !isRd o.op | none => false
def forkOK (ops : Array Oper) (i j : Nat) (p1 p2 : List Nat) (listed : Array Bool) : Bool :=
  (Region.ready .any ops listed == [i, j]) && noRd ops i && noRd ops j && planOK ops p1 (listed.setIfInBounds i true) && planOK ops p2 (listed.setIfInBounds j true)
theorem anyV_of_wpDk {C : Cx} {ops : Array Oper} {Hs : Hp} {Q Q' : Post} {ds : List Nat} {k : Array Bool → Bool} {n : Nat} (hn : (Hs.map Prod.fst).Nodup) (hs : Region.noSelect ops = true)
    (hk : ∀ (listed : Array Bool) (ρ : Fr) (H : Hp) (fuel : Nat), n ≤ fuel → k listed = true → Closed ops listed → Good ops Hs listed H → Q' .normal ρ ds H → anyV C ops Hs Q fuel listed ρ ds H) :
    ∀ (pl : List Nat) (listed : Array Bool) (ρ : Fr) (H : Hp) (fuel : Nat), pl.length + n ≤ fuel → planK ops k pl listed = true → Closed ops listed → Good ops Hs listed H → wpD C ops Hs Q' pl ρ ds H → anyV C ops Hs Q fuel listed ρ ds H := by
  intro pl
  induction pl with
  | nil =>
    intro listed ρ H fuel hf hp hcl hsub h
    exact hk listed ρ H fuel (by simpa using hf) hp hcl hsub h
  | cons i pl ih =>
    intro listed ρ H fuel hf hp hcl hsub h
    obtain ⟨f, rfl⟩ : ∃ f, fuel = f + 1 := ⟨fuel - 1, by simp at hf; omega⟩
    have hf2 : pl.length + n ≤ f := by simp at hf; omega
    clear hf
    have hf := hf2
    clear hf2
    unfold planK at hp
    simp only [Bool.and_eq_true] at hp
    obtain ⟨hp1, hp2⟩ := hp
    cases ho : ops[i]? with
    | none => rw [ho] at hp1; cases hp1
    | some o =>
      rw [ho] at hp1
      obtain ⟨hd, h1⟩ := h o ho
      rcases h1 with ⟨hrd, v, hv, hk⟩ | ⟨hrd, h1⟩
      · simp only [hrd, cond_true, Bool.and_eq_true] at hp1
        have hir : i ∈ Region.ready .any ops listed := by simpa using hp1.1
        exact anyV_first ho hn (Region.noSelect_spec hs) hd hrd f listed ρ H (Region.free_spec ho hp1.2) hcl hir hv hsub (ih _ _ _ _ hf hp2 (closed_set hcl hir) (good_mono i hsub) hk)
      · simp only [hrd, cond_false, beq_iff_eq] at hp1
        refine ⟨hsub, fun h0 => (by rw [hp1] at h0; cases h0), fun j hj oj hoj => ?_⟩
        have hjr := hj
        rw [hp1] at hj
        have hj' : j = i := by simpa using hj
        subst hj'
        rw [ho] at hoj; cases hoj
        refine ⟨hd, ?_⟩
        rcases h1 with ⟨w1, w2⟩ | ⟨w1, w2⟩
        · refine .inl ⟨w1, w2.mono fun u H' ⟨k1, k2⟩ => ih _ _ _ _ hf hp2 (closed_set hcl hjr) ?_ k2⟩
          rcases k1 with k1 | k1
          · refine .inl ⟨j, ?_, k1⟩
            have h0 := (mem_ready.1 hjr).1
            have hlt : j < listed.size := by
              rcases Nat.lt_or_ge j listed.size with h | h
              · exact h
              · simp [h] at h0
            simp [hlt]
          · exact .inr k1.all
        · exact .inr ⟨w1, ih _ _ _ _ hf hp2 (closed_set hcl hjr) (good_mono j hsub) w2⟩
theorem anyV_fork {C : Cx} {ops : Array Oper} {Hs : Hp} {Q : Post} {ds : List Nat} {i j : Nat} {p1 p2 : List Nat} (hn : (Hs.map Prod.fst).Nodup) (hs : Region.noSelect ops = true)
    (listed : Array Bool) (ρ : Fr) (H : Hp) (fuel : Nat) (hf : max p1.length p2.length + 1 ≤ fuel) (hk : forkOK ops i j p1 p2 listed = true) (hcl : Closed ops listed) (hsub : Good ops Hs listed H)
    (h : Fork (wpD C ops Hs Q (i :: p1) ρ ds H) (wpD C ops Hs Q (j :: p2) ρ ds H)) : anyV C ops Hs Q fuel listed ρ ds H := by
  obtain ⟨f, rfl⟩ : ∃ f, fuel = f + 1 := ⟨fuel - 1, by omega⟩
  unfold forkOK at hk
  simp only [Bool.and_eq_true, beq_iff_eq] at hk
  obtain ⟨⟨⟨⟨hr, n1⟩, n2⟩, o1⟩, o2⟩ := hk
  have step : ∀ (t : Nat) (p : List Nat), t ∈ Region.ready .any ops listed → noRd ops t = true → planOK ops p (listed.setIfInBounds t true) = true → p.length ≤ f → wpD C ops Hs Q (t :: p) ρ ds H →
      ∀ o, ops[t]? = some o → opV C ops o (fun ρ' H' => anyV C ops Hs Q f (listed.setIfInBounds t true) ρ' ds H') ρ H := fun t p ht hnr hpl hle hw o ho => by
    obtain ⟨hd, h1⟩ := hw o ho
    refine ⟨hd, ?_⟩
    unfold noRd at hnr
    rw [ho] at hnr
    rcases h1 with ⟨hrd, _⟩ | ⟨hrd, h1⟩
    · simp only [hrd] at hnr; cases hnr
    · rcases h1 with ⟨w1, w2⟩ | ⟨w1, w2⟩
      · refine .inl ⟨w1, w2.mono fun u H' ⟨k1, k2⟩ => anyV_of_wpD hn hs p _ _ _ f hle hpl (closed_set hcl ht) ?_ k2⟩
        rcases k1 with k1 | k1
        · refine .inl ⟨t, ?_, k1⟩
          have h0 := (mem_ready.1 ht).1
          have hlt : t < listed.size := by
            rcases Nat.lt_or_ge t listed.size with h | h
            · exact h
            · simp [h] at h0
          simp [hlt]
        · exact .inr k1.all
      · exact .inr ⟨w1, anyV_of_wpD hn hs p _ _ _ f hle hpl (closed_set hcl ht) (good_mono t hsub) w2⟩
  refine ⟨hsub, fun h0 => (by rw [hr] at h0; cases h0), fun t ht o ho => ?_⟩
  have ht' := ht
  rw [hr] at ht'
  have : t = i ∨ t = j := by simpa using ht'
  rcases this with rfl | rfl
  · exact step _ p1 ht n1 o1 (by omega) h.l o ho
  · exact step _ p2 ht n2 o2 (by omega) h.r o ho
theorem wpC_drawF {C : Cx} {Q : Post} {ρ : Fr} {ds : List Nat} {H A B : Hp} {id : Nat} {ops : Array Oper} (Ts : List TypeId) (p0 : List Nat) (i j : Nat) (p1 p2 : List Nat) (hm : C.P.follows .mixedOrders = true)
    (hp : (planK ops (forkOK ops i j p1 p2) p0 (Array.replicate ops.size false) && Region.noSelect ops && Nat.ble (p0.length + (max p1.length p2.length + 1)) ops.size) = true) (hpk : Kp Ts H A B)
    (h : wpD C ops A (fun _ ρ ds H => Fork (wpD C ops A Q (i :: p1) ρ ds H) (wpD C ops A Q (j :: p2) ρ ds H)) p0 ρ ds H) : wpC C (.region id ops true) Q ρ ds H := by
  intro a w ha hw
  simp only [Bool.and_eq_true] at hp
  have hk := hw.perm hpk.perm
  exact wpIn_region_any hm (anyV_sound _ _ _ _ (anyV_of_wpDk (Q' := fun _ ρ ds H => Fork (wpD C ops A Q (i :: p1) ρ ds H) (wpD C ops A Q (j :: p2) ρ ds H)) hk.left.nodup hp.1.2 (fun listed ρ H fuel h1 h2 h3 h4 h5 => anyV_fork hk.left.nodup hp.1.2 listed ρ H fuel h1 h2 h3 h4 h5) p0 _ ρ H _ (Nat.le_of_ble_eq_true hp.2) hp.1.1
    (fun j oj _ hl => (by rw [Array.getD_eq_getD_getElem?, Array.getElem?_replicate] at hl; split at hl <;> simp at hl)) (.inr fun x hx => hpk.perm.mem_iff.2 (List.mem_append_left _ hx)) h) a _ ha (hw.drawn _))
end Go.Vl
