/-
  Steps of the proof: HE, JD, JE.
-/
import Derived.Test.YtpegidbkplgplaaK21
import Derived.Test.YtpegidbkplgplaaK22
import Derived.Test.YtpegidbkplgplaaK20
namespace Go.Vl
open Go.Proofs Classical
def repB (R : Nat → Rep) : Nat → Hp
  | 0 => []
  | n + 1 => repB R n ++ (R n).B
set_option maxHeartbeats 4000000 in
set_option maxRecDepth 100000 in
theorem repB_succ (R : Nat → Rep) (n : Nat) : repB R (n + 1) = repB R n ++ (R n).B := rfl
set_option maxHeartbeats 4000000 in
set_option maxRecDepth 100000 in
theorem repB_keep {R : Nat → Rep} {i : Nat} {x : Rep} : ∀ {n : Nat}, n ≤ i → repB (updR R i x) n = repB R n
  | 0, _ => rfl
  | n + 1, h => by rw [repB_succ, repB_succ, repB_keep (by omega), updR_ne (by omega)]
set_option maxHeartbeats 4000000 in
set_option maxRecDepth 100000 in
theorem repB_at {R : Nat → Rep} {i : Nat} : ∀ {n : Nat}, i < n → ∃ A C : Hp, repB R n = A ++ ((R i).B ++ C) ∧ ∀ x, repB (updR R i x) n = A ++ (x.B ++ C)
  | 0, h => absurd h (Nat.not_lt_zero _)
  | n + 1, h => by
    by_cases hi : i < n
    · obtain ⟨A, C, h1, h3⟩ := repB_at hi
      refine ⟨A, C ++ (R n).B, by rw [repB_succ, h1]; simp, fun x => ?_⟩
      rw [repB_succ, h3 x, updR_ne (by omega)]
      simp
    · obtain rfl : i = n := by omega
      refine ⟨repB R i, [], by rw [repB_succ]; simp, fun x => ?_⟩
      rw [repB_succ, repB_keep (Nat.le_refl _), updR_same]
      simp
set_option maxHeartbeats 4000000 in
set_option maxRecDepth 100000 in
theorem repB_0 : ∀ m : Nat, [] = repB rep0 m
  | 0 => rfl
  | m + 1 => by rw [repB_succ, ← repB_0 m]; rfl
/-- a replica of the law and what it has accepted -/
structure ROK (I : Hp) (W : List SlR) (x : Rep) : Prop where
  s : SlO 51 59 x.v x.ls.length (x.ls.map SlR.cells).flatten x.B
  k : LsK (W.map SlR.c) (x.ls.map SlR.c)
  e : ∀ s ∈ x.ls, EnIn I s.en ∧ EnSz s.en.c
  p : ¬ (⟨1, 0⟩ : Bal).lt x.prom
  n : x.ls.length ≤ W.length
structure KpS where
  i : Nat
  vw : Value
  W : List SlR
  Bw : Hp
  R : Nat → Rep
  X : Hp
structure KpOK (I : Hp) (m : Nat) (s : KpS) : Prop where
  w : WOK (s.W.map SlR.c)
  we : ∀ w ∈ s.W, EnIn I w.en ∧ EnSz w.en.c
  ws : SlO 51 59 s.vw s.W.length (s.W.map SlR.cells).flatten s.Bw
  r : ∀ j, j < m → ROK I s.W (s.R j)
  x : s.X = repB s.R m
  maj : ∀ w ∈ s.W.map SlR.c, maj m ≤ cnt (fun j => decide (w ∈ (s.R j).ls.map SlR.c)) m
/-- while one more is accepted -/
structure KqOK (I : Hp) (m f : Nat) (W : List SlR) (R0 : Nat → Rep) (s : SlR) (k : Nat) (R : Nat → Rep) (X : Hp) : Prop where
  old : ∀ j, j < m → hit f m k j = false → R j = R0 j
  new : ∀ j, j < m → hit f m k j = true → ROK I (W ++ [s]) (R j) ∧ (R j).ls = (R0 j).ls ++ [s]
  x : X = repB R m
set_option maxHeartbeats 4000000 in
set_option maxRecDepth 100000 in
theorem LsK.more {W : List SlR} {l : List Sl} (h : LsK (W.map SlR.c) l) (s : SlR) : LsK ((W ++ [s]).map SlR.c) l := ⟨fun x hx => by rw [List.map_append]; exact List.mem_append_left _ (h.mem x hx), h.srt⟩
set_option maxHeartbeats 4000000 in
set_option maxRecDepth 100000 in
theorem LsK.lt {W : List SlR} {l : List Sl} (hW : WOK (W.map SlR.c)) (h : LsK (W.map SlR.c) l) : ∀ x ∈ l, x.slot < (W.length : Int) := fun x hx => by
  obtain ⟨j, hj⟩ := List.mem_iff_getElem?.1 (h.mem x hx)
  have h1 := hW.slot j x hj
  have h2 := (List.getElem?_eq_some_iff.1 hj).1
  rw [List.length_map] at h2
  omega
set_option maxHeartbeats 4000000 in
set_option maxRecDepth 100000 in
theorem ROK.more {I : Hp} {W : List SlR} {x : Rep} (h : ROK I W x) (s : SlR) : ROK I (W ++ [s]) x := ⟨h.s, h.k.more s, h.e, h.p, by have := h.n; rw [List.length_append]; omega⟩
set_option maxHeartbeats 4000000 in
set_option maxRecDepth 100000 in
theorem ROK.add {I : Hp} {W : List SlR} {x : Rep} (hW : WOK (W.map SlR.c)) (h : ROK I W x) {s : SlR} (hs : s.slot = (W.length : Int)) (hb : s.bal = ⟨1, 0⟩) (he : EnIn I s.en ∧ EnSz s.en.c) {v : Value} {B : Hp} (hv : SlO 51 59 v (x.ls ++ [s]).length ((x.ls ++ [s]).map SlR.cells).flatten B) : ROK I (W ++ [s]) ⟨s.bal, v, x.ls ++ [s], B⟩ := by
  refine ⟨hv, ⟨fun y hy => ?_, ?_⟩, fun y hy => ?_, by show ¬ (⟨1, 0⟩ : Bal).lt s.bal; rw [hb]; exact Bal.lt_irrefl _, by have := h.n; simp only [List.length_append, List.length_cons, List.length_nil]; omega⟩
  · have hy : y ∈ (x.ls ++ [s]).map SlR.c := hy
    rw [List.map_append] at hy ⊢
    rcases List.mem_append.1 hy with hy | hy
    · exact List.mem_append_left _ (h.k.mem y hy)
    · exact List.mem_append_right _ hy
  · show ((x.ls ++ [s]).map SlR.c).Pairwise _
    rw [List.map_append]
    refine List.pairwise_append.2 ⟨h.k.srt, List.pairwise_singleton _ _, fun y hy z hz => ?_⟩
    rw [List.mem_singleton.1 hz]
    have := h.k.lt hW y hy
    show y.slot < s.slot
    omega
  · rcases List.mem_append.1 hy with hy | hy
    · exact h.e y hy
    · rw [List.mem_singleton.1 hy]; exact he
set_option maxHeartbeats 4000000 in
set_option maxRecDepth 100000 in
theorem kq_start {I : Hp} {m f : Nat} {W : List SlR} {R : Nat → Rep} {s : SlR} {X : Hp} (h : X = repB R m) : KqOK I m f W R s 0 R X :=
  ⟨fun _ _ _ => rfl, fun j _ g => (by rw [hit_0] at g; cases g), h⟩
set_option maxHeartbeats 4000000 in
set_option maxRecDepth 100000 in
theorem kq_step {I : Hp} {m f k : Nat} {W : List SlR} {R0 R : Nat → Rep} {s : SlR} {X A C B : Hp} {v : Value} (h : KqOK I m f W R0 s k R X) (hi : (f + k) % m < m) (hn : hit f m k ((f + k) % m) = false)
    (hA : ∀ x, repB (updR R ((f + k) % m) x) m = A ++ (x.B ++ C)) (hN : ROK I (W ++ [s]) ⟨s.bal, v, (R0 ((f + k) % m)).ls ++ [s], B⟩) : KqOK I m f W R0 s (k + 1) (updR R ((f + k) % m) ⟨s.bal, v, (R0 ((f + k) % m)).ls ++ [s], B⟩) (A ++ (B ++ C)) := by
  refine ⟨fun j hj hh => ?_, fun j hj hh => ?_, (hA ⟨s.bal, v, (R0 ((f + k) % m)).ls ++ [s], B⟩).symm⟩
  · rw [hit_step] at hh
    simp only [Bool.or_eq_false_iff, decide_eq_false_iff_not] at hh
    rw [updR_ne hh.2]
    exact h.old j hj hh.1
  · by_cases he : j = (f + k) % m
    · subst he; rw [updR_same]; exact ⟨hN, rfl⟩
    · rw [hit_step, decide_eq_false he, Bool.or_false] at hh
      rw [updR_ne he]
      exact h.new j hj hh
set_option maxHeartbeats 4000000 in
set_option maxRecDepth 100000 in
theorem kq_end {I : Hp} {m f : Nat} {W : List SlR} {R0 R : Nat → Rep} {s : SlR} {X Bw Bw' : Hp} {i : Nat} {vw vw' : Value} {X0 : Hp} (h1 : 1 ≤ m) (h5 : m ≤ 5) (h0 : KpOK I m ⟨i, vw, W, Bw, R0, X0⟩) (h : KqOK I m f W R0 s (maj m) R X) (hs : s.slot = (W.length : Int)) (hb : s.bal = ⟨1, 0⟩) (he : EnIn I s.en ∧ EnSz s.en.c) (hm : mayE s.en.c) (hl : W.length ≤ 4096)
    (hv : SlO 51 59 vw' (W ++ [s]).length ((W ++ [s]).map SlR.cells).flatten Bw') : KpOK I m ⟨i + 1, vw', W ++ [s], Bw', R, X⟩ := by
  have hmn : maj m ≤ m := by unfold maj; omega
  refine ⟨⟨fun j w hj => ?_, fun w hw => ?_, fun w hw => ?_, ?_⟩, fun w hw => ?_, hv, fun j hj => ?_, h.x, fun w hw => ?_⟩
  · simp only [List.map_append, List.map_cons, List.map_nil] at hj
    by_cases hjl : j < (W.map SlR.c).length
    · rw [List.getElem?_append_left hjl] at hj
      exact h0.w.slot j w hj
    · rw [List.getElem?_append_right (by omega)] at hj
      have hz := (List.getElem?_eq_some_iff.1 hj).1
      rw [List.length_map] at hjl hz
      simp only [List.length_cons, List.length_nil] at hz
      obtain rfl : j = W.length := by omega
      rw [List.length_map, Nat.sub_self] at hj
      cases hj
      exact hs
  · simp only [List.map_append, List.map_cons, List.map_nil] at hw
    rcases List.mem_append.1 hw with hw | hw
    · exact h0.w.bal w hw
    · rw [List.mem_singleton.1 hw]; exact hb
  · simp only [List.map_append, List.map_cons, List.map_nil] at hw
    rcases List.mem_append.1 hw with hw | hw
    · exact h0.w.may w hw
    · rw [List.mem_singleton.1 hw]; exact hm
  · simp only [List.length_map, List.length_append, List.length_cons, List.length_nil]; omega
  · rcases List.mem_append.1 hw with hw | hw
    · exact h0.we w hw
    · rw [List.mem_singleton.1 hw]; exact he
  · simp only at hj ⊢
    cases hh : hit f m (maj m) j with
    | true => exact (h.new j hj hh).1
    | false => rw [h.old j hj hh]; exact (h0.r j hj).more s
  · simp only [List.map_append, List.map_cons, List.map_nil] at hw ⊢
    rcases List.mem_append.1 hw with hw | hw
    · refine Nat.le_trans (h0.maj w hw) (cnt_mono fun j hj hp => ?_)
      refine decide_eq_true ?_
      have hp := of_decide_eq_true hp
      cases hh : hit f m (maj m) j with
      | true => rw [(h.new j hj hh).2, List.map_append]; exact List.mem_append_left _ hp
      | false => rw [h.old j hj hh]; exact hp
    · refine Nat.le_trans (Nat.le_of_eq (cnt_hit (f := f) h1 h5 hmn).symm) (cnt_mono fun j hj hp => ?_)
      refine decide_eq_true ?_
      rw [(h.new j hj hp).2, List.map_append, List.mem_singleton.1 hw]
      simp
set_option maxHeartbeats 4000000 in
set_option maxRecDepth 100000 in
theorem ROK.inn {I X : Hp} {W : List SlR} {x : Rep} (h : ROK I W x) (hx : ∀ y ∈ x.B, y ∈ X) (hW : W.length ≤ 4097) : LsIn (X ++ I) x.ls x.v :=
  ⟨(slInn h.s).more fun y hy => List.mem_append_left _ (hx y hy), fun s hs => ⟨(h.e s hs).1.more fun y hy => List.mem_append_right _ hy, (h.e s hs).2⟩, by have := h.n; omega⟩
set_option maxHeartbeats 4000000 in
set_option maxRecDepth 100000 in
theorem repB_mem {R : Nat → Rep} {i n : Nat} (h : i < n) : ∀ y ∈ (R i).B, y ∈ repB R n := by
  obtain ⟨A, C, h1, _⟩ := repB_at (R := R) h
  intro y hy
  rw [h1]
  simp [hy]
def PK (W : List Sl) (Ls : Nat → List Sl) (n f k : Nat) (a : Ld) : Prop := (k < maj n → PrK W Ls n f k a) ∧ (k = maj n → ∃ a', PrK W Ls n f k a' ∧ a = beginA a')
set_option maxHeartbeats 4000000 in
set_option maxRecDepth 100000 in
theorem pk_start {W : List Sl} {Ls : Nat → List Sl} {n f : Nat} : PK W Ls n f 0 (newA ⟨2, 0⟩ 0 n) :=
  ⟨fun _ => ⟨rfl, rfl, rfl, rfl, rfl, rfl, fun j => (hit_0 f n j).symm, cnt_noV, fun p h => (by cases h), fun t h => (by omega)⟩, fun h => (by unfold maj at h; omega)⟩
set_option maxHeartbeats 4000000 in
set_option maxRecDepth 100000 in
theorem pk_step {W : List Sl} {Ls : Nat → List Sl} {n f k : Nat} {a : Ld} (h1 : 1 ≤ n) (h5 : n ≤ 5) (hW : WOK W) (hk : k < maj n) (h : PK W Ls n f k a) (hl : LsK W (Ls ((f + k) % n))) :
    ∃ a', PK W Ls n f (k + 1) a' ∧ a.promise (((f + k) % n : Nat) : Int) (Ls ((f + k) % n)) = ((decide (k + 1 = maj n), 0), a') := by
  obtain ⟨a', h2, h3⟩ := prK_step h1 h5 hW hk (h.1 hk) hl
  by_cases hm : k + 1 = maj n
  · rw [if_pos hm] at h3
    exact ⟨beginA a', ⟨fun g => (by omega), fun _ => ⟨a', h2, rfl⟩⟩, by rw [h3, decide_eq_true hm]⟩
  · rw [if_neg hm] at h3
    exact ⟨a', ⟨fun _ => h2, fun g => absurd g hm⟩, by rw [h3, decide_eq_false hm]⟩
set_option maxHeartbeats 4000000 in
set_option maxRecDepth 100000 in
theorem rd_remM {P : Program} {e : World} {ρ : Fr} {H : Hp} {d : Option Nat} {ty t yt : TypeId} {pos : String} {af : Array Edge} {g : Option (Nat × Bool)} {x y : Operand} {k : IntKind} {a b c : Nat} (hx : ev ρ x = .int k (a : Int)) (hy : ev ρ y = .int k (b : Int)) (hb : 0 < b) (hc : a % b = c) : Rd P e ρ H ⟨d, .binOp .rem t x y yt, ty, pos, af, g⟩ (.int k (c : Int)) := by
  subst hc
  exact rd_remU hx hy hb
attribute [local irreducible] eqW eqV wpC wpO wpD Ex Rd callsK RetP Drop valK
set_option maxHeartbeats 4000000 in
set_option maxRecDepth 100000 in
theorem raccept2 (e : World) {rb i n o : Nat} {R : Nat → Rep} {s : SlR} {prom : Bal} {v : Value} {ls : List SlR} {B F : Hp} {K : Value → Hp → Prop} (ho : o = i * 3) (hi : i < n) (hR : R i = ⟨prom, v, ls, B⟩) (hS : SlO 51 59 v ls.length (ls.map SlR.cells).flatten B) (hlen : ls.length ≤ 4097) (hp : ¬ s.bal.lt prom) (hno : ∀ t ∈ ls, t.slot ≠ s.slot)
    (h1 : ∀ v' B', SlO 51 59 v' (ls ++ [s]).length ((ls ++ [s]).map SlR.cells).flatten B' → K (.bool true) (([(rb, cellsO (repL (updR R i ⟨s.bal, v', ls ++ [s], B'⟩) n) 72)] ++ B') ++ F)) :
    callsK Try.prog e 21 #[.pointer (some ⟨rb, o, none⟩), slV s] (([(rb, cellsO (repL R n) 72)] ++ B) ++ F) K := by
  subst ho
  exact raccept e hi hR hS (by omega) (fun h => absurd h hp) (fun _ _ => h1) fun _ k t hk he _ => absurd he (hno t (List.mem_of_getElem? hk))
set_option maxHeartbeats 4000000 in
set_option maxRecDepth 100000 in
theorem pmajN (e : World) {n : Nat} {F : Hp} {K : Value → Hp → Prop} (h1 : 1 ≤ n) (h5 : n ≤ 5) (hK : K (.int .i64 ((maj n : Nat) : Int)) F) : callsK Try.prog e 19 #[.int .i64 (n : Int)] F K :=
  pmaj e (fun _ _ => by rw [Int.toNat_natCast]; exact hK) fun h => absurd (show (1 : Int) ≤ n ∧ (n : Int) ≤ 5 by omega) h
set_option maxHeartbeats 4000000 in
set_option maxRecDepth 100000 in
theorem ppromise2 (e : World) {a a' : Ld} {d : Nat} {r : LdR} {ls : List SlR} {v : Value} {k : Nat} {b : Bool} {cs : List Sl} {I F : Hp} {K : Value → Hp → Prop} (hr : r.ok a) (hL : LsIn I ls v) (hc : ls.map SlR.c = cs) (hq : a.promise (k : Int) cs = ((b, 0), a'))
    (hK : ∀ r' : LdR, r'.ok a' → K (.tuple #[.bool b, .int .i64 0]) ((r'.hp a' d ++ I) ++ F)) :
    callsK Try.prog e 11 #[pv d, .int .i64 (k : Int), v] ((r.hp a d ++ I) ++ F) K := by
  subst hc
  exact ppromise e hr hL (by rw [hq]; exact hK)
end Go.Vl

namespace Go.Vl
open Go.Proofs Classical
set_option maxHeartbeats 4000000 in
set_option maxRecDepth 100000 in
theorem opMid (l1 l2 : List Opn) (x : Opn) : opH (l1 ++ x :: l2) = opH l1 ++ ((x.o, cellsO x.cells 112) :: opH l2) := by rw [opH_app]; rfl
attribute [local irreducible] eqW eqV wpC wpO wpD Ex Rd callsK RetP Drop valK
set_option maxHeartbeats 4000000 in
set_option maxRecDepth 100000 in
theorem paccepted (e : World) {a : Ld} {d : Nat} {r : LdR} {k s : Int} {F : Hp} {K : Value → Hp → Prop} (hr : r.ok a)
    (hK : ∀ r' : LdR, r'.ok (a.accepted k s).2 → K (.tuple #[.bool (a.accepted k s).1.1, .int .i64 (a.accepted k s).1.2]) (r'.hp (a.accepted k s).2 d ++ F)) :
    callsK Try.prog e 26 #[pv d, .int .i64 k, .int .i64 s] (r.hp a d ++ F) K := by
  have n1 := hr.a.n1
  have n5 := hr.a.n5
  have hM := hr.open_
  unfold Ld.accepted at hK
  refine calls_body (N := 60) (args := [pv d, .int .i64 k, .int .i64 s]) Try.func26 rfl rfl rfl (by simp) ?_
  by_cases hk : k < 0 ∨ (a.n : Int) ≤ k
  · rw [if_pos hk] at hK
    repeat' ((fail_if_success (show wpC _ (.seq (.region 5 _ _) _) _ _ _ _)); first | (show wpO _ _ _ _ _ _ _; first | refine wpO_nil ?_ | (show wpO _ _ _ (⟨_, .binOp _ _ _ _ _, _, _, _, _⟩ :: _) _ _ _; first | refine s_tt ?_ | refine s_ff ?_ | refine s_rdp ?_ | (refine s_cmp (fun _ => ?_) (fun _ => ?_) <;> (first | (exfalso; omega) | contradiction | skip)) | (refine s_cb (fun _ => ?_) (fun _ => ?_) <;> (first | (exfalso; omega) | contradiction | skip)) | refine s_sks ?_ | (refine s_g (fun _ => ?_) (fun _ => ?_) <;> (first | (exfalso; omega) | contradiction | skip))) | (show wpO _ _ _ (⟨_, .lookup _ _ _ _, _, _, _, _⟩ :: _) _ _ _; first | refine s_rdm ?_ | refine s_look (fun _ _ => ?_) (fun _ => ?_) | refine s_sks ?_ | (refine s_g (fun _ => ?_) (fun _ => ?_) <;> (first | (exfalso; omega) | contradiction | skip))) | (show wpO _ _ _ (⟨_, .indexAddr _ _ _, _, _, _, _⟩ :: _) _ _ _; first | refine s_rdp ?_ | refine s_idx (fun _ _ _ _ _ _ _ => ?_) | refine s_sks ?_ | (refine s_g (fun _ => ?_) (fun _ => ?_) <;> (first | (exfalso; omega) | contradiction | skip))) | (show wpO _ _ _ (⟨_, .pick _ _ _, _, _, _, _⟩ :: _) _ _ _; first | refine s_rdp ?_ | (refine s_p (fun _ => ?_) (fun _ => ?_) <;> (first | (exfalso; omega) | contradiction | skip)) | refine s_sks ?_ | (refine s_g (fun _ => ?_) (fun _ => ?_) <;> (first | (exfalso; omega) | contradiction | skip))) | refine s_rdp ?_ | refine s_rdm ?_ | refine s_exq ?_ | refine s_exm ?_ | refine s_sks ?_ | refine s_skn ?_ | (refine s_g (fun _ => ?_) (fun _ => ?_) <;> (first | (exfalso; omega) | contradiction | skip))) | (show Ex _ _ _ _ _; first | (show Ex _ ⟨_, .call ⟨.value (.func _), _, _⟩, _, _, _, _⟩ _ _ _; refine e_call ?_; first | (apply p_pcs; apply pnone _; (try case hS => assumption); (case hpcs => (repeat (first | exact Pcs.blk (by infer_instance) | exact Pcs.nil | (apply Pcs.cons; infer_instance) | apply Pcs.app))))) | (show Ex _ ⟨_, .store _ _ _, _, _, _, _⟩ _ _ _; first | refine e_store1 ?_ | refine e_storeA ?_ | (refine e_storeO ?_; intro _ _))) | (show wpC _ _ _ _ _ _; first | refine wpC_seq ?_ | refine wpC_region ?_ | refine c_true ?_ | refine c_false ?_ | (refine c_b (fun _ => ?_) (fun _ => ?_) <;> (first | (exfalso; omega) | contradiction | skip)) | refine wpC_ret ?_ | refine wpC_skip ?_ | refine wpC_label ?_ | (apply wpC_drawX (id := 11) ([]) [0, 1, 2, 3, 4, 5, 6, 7, 8, 10, 11, 12, 13, 9, 14, 15, 16] rfl (by kernel_rfl); (case hpk => (repeat (first | exact Pcs.blk (by infer_instance) | exact Pcs.nil | (apply Pcs.cons; infer_instance) | apply Pcs.app))))) | (show Then _ _ _ _ _ _ _; first | refine then_normal ?_ | refine then_ret ?_) | (show wpD _ _ _ _ _ _ _ _; first | refine wpD_nil ?_ | refine d_rdp ?_ | refine d_rdm ?_ | refine d_sks ?_ | refine d_tt ?_ | refine d_ff ?_ | (refine d_cmp (fun _ => ?_) (fun _ => ?_) <;> (first | (exfalso; omega) | contradiction | skip)) | (refine d_cb (fun _ => ?_) (fun _ => ?_) <;> (first | (exfalso; omega) | contradiction | skip)) | refine d_look (fun _ _ => ?_) (fun _ => ?_) | refine d_idx (fun _ _ _ _ _ _ _ => ?_) | refine d_exs ?_ | refine d_exn ?_ | (refine d_p (fun _ => ?_) (fun _ => ?_) <;> (first | (exfalso; omega) | contradiction | skip)) | (refine d_g (fun _ => ?_) (fun _ => ?_) <;> (first | (exfalso; omega) | contradiction | skip))) | (show (_ ∨ Subs _ _) ∧ _; first | refine d_sub ?_ | refine d_cov ?_) | (show RetP _ _ _ _ _ _ _ _; first | refine r_2 ?_) | assumption | intro _)
    all_goals first | (exfalso; omega) | exact q_drop (hK r hr) | trace_state
  rw [if_neg hk] at hK
  obtain ⟨kk, rfl⟩ : ∃ kk : Nat, k = (kk : Int) := ⟨k.toNat, by omega⟩
  have hkn : kk < a.n := by omega
  have hk5 : kk < 5 := by omega
  rw [Int.toNat_natCast] at hK
  cases hg : aget (r.lo.map fun x => (x.slot, x.o)) s with
  | none =>
    rw [lo_nofind hr hg] at hK
    simp only at hK
    repeat' ((fail_if_success (show wpC _ (.seq (.seq (.region 8 _ _) _) _) _ _ _ _)); first | (show wpO _ _ _ _ _ _ _; first | refine wpO_nil ?_ | (show wpO _ _ _ (⟨_, .binOp _ _ _ _ _, _, _, _, _⟩ :: _) _ _ _; first | refine s_tt ?_ | refine s_ff ?_ | refine s_rdp ?_ | (refine s_cmp (fun _ => ?_) (fun _ => ?_) <;> (first | (exfalso; omega) | contradiction | skip)) | (refine s_cb (fun _ => ?_) (fun _ => ?_) <;> (first | (exfalso; omega) | contradiction | skip)) | refine s_sks ?_ | (refine s_g (fun _ => ?_) (fun _ => ?_) <;> (first | (exfalso; omega) | contradiction | skip))) | (show wpO _ _ _ (⟨_, .lookup _ _ _ _, _, _, _, _⟩ :: _) _ _ _; first | refine s_rdm ?_ | refine s_look (fun _ _ => ?_) (fun _ => ?_) | refine s_sks ?_ | (refine s_g (fun _ => ?_) (fun _ => ?_) <;> (first | (exfalso; omega) | contradiction | skip))) | (show wpO _ _ _ (⟨_, .indexAddr _ _ _, _, _, _, _⟩ :: _) _ _ _; first | refine s_rdp ?_ | refine s_idx (fun _ _ _ _ _ _ _ => ?_) | refine s_sks ?_ | (refine s_g (fun _ => ?_) (fun _ => ?_) <;> (first | (exfalso; omega) | contradiction | skip))) | (show wpO _ _ _ (⟨_, .pick _ _ _, _, _, _, _⟩ :: _) _ _ _; first | refine s_rdp ?_ | (refine s_p (fun _ => ?_) (fun _ => ?_) <;> (first | (exfalso; omega) | contradiction | skip)) | refine s_sks ?_ | (refine s_g (fun _ => ?_) (fun _ => ?_) <;> (first | (exfalso; omega) | contradiction | skip))) | refine s_rdp ?_ | refine s_rdm ?_ | refine s_exq ?_ | refine s_exm ?_ | refine s_sks ?_ | refine s_skn ?_ | (refine s_g (fun _ => ?_) (fun _ => ?_) <;> (first | (exfalso; omega) | contradiction | skip))) | (show Ex _ _ _ _ _; first | (show Ex _ ⟨_, .call ⟨.value (.func _), _, _⟩, _, _, _, _⟩ _ _ _; refine e_call ?_; first | (apply p_pcs; apply pnone _; (try case hS => assumption); (case hpcs => (repeat (first | exact Pcs.blk (by infer_instance) | exact Pcs.nil | (apply Pcs.cons; infer_instance) | apply Pcs.app))))) | (show Ex _ ⟨_, .store _ _ _, _, _, _, _⟩ _ _ _; first | refine e_store1 ?_ | refine e_storeA ?_ | (refine e_storeO ?_; intro _ _))) | (show wpC _ _ _ _ _ _; first | refine wpC_seq ?_ | refine wpC_region ?_ | refine c_true ?_ | refine c_false ?_ | (refine c_b (fun _ => ?_) (fun _ => ?_) <;> (first | (exfalso; omega) | contradiction | skip)) | refine wpC_ret ?_ | refine wpC_skip ?_ | refine wpC_label ?_ | (apply wpC_drawX (id := 11) ([]) [0, 1, 2, 3, 4, 5, 6, 7, 8, 10, 11, 12, 13, 9, 14, 15, 16] rfl (by kernel_rfl); (case hpk => (repeat (first | exact Pcs.blk (by infer_instance) | exact Pcs.nil | (apply Pcs.cons; infer_instance) | apply Pcs.app))))) | (show Then _ _ _ _ _ _ _; first | refine then_normal ?_ | refine then_ret ?_) | (show wpD _ _ _ _ _ _ _ _; first | refine wpD_nil ?_ | refine d_rdp ?_ | refine d_rdm ?_ | refine d_sks ?_ | refine d_tt ?_ | refine d_ff ?_ | (refine d_cmp (fun _ => ?_) (fun _ => ?_) <;> (first | (exfalso; omega) | contradiction | skip)) | (refine d_cb (fun _ => ?_) (fun _ => ?_) <;> (first | (exfalso; omega) | contradiction | skip)) | refine d_look (fun _ _ => ?_) (fun _ => ?_) | refine d_idx (fun _ _ _ _ _ _ _ => ?_) | refine d_exs ?_ | refine d_exn ?_ | (refine d_p (fun _ => ?_) (fun _ => ?_) <;> (first | (exfalso; omega) | contradiction | skip)) | (refine d_g (fun _ => ?_) (fun _ => ?_) <;> (first | (exfalso; omega) | contradiction | skip))) | (show (_ ∨ Subs _ _) ∧ _; first | refine d_sub ?_ | refine d_cov ?_) | (show RetP _ _ _ _ _ _ _ _; first | refine r_2 ?_) | assumption | intro _)
    all_goals first | (exfalso; omega) | exact q_drop (hK r hr) | trace_state
  | some o =>
    obtain ⟨l1, x, l2, hsp, rfl⟩ := lo_split hr hg
    rw [hsp.find hr] at hK
    simp only at hK
    have hxm : x ∈ r.lo := by rw [hsp.eq]; simp
    have hxc := hr.ch x hxm
    have hset := fun ch hc => hsp.set hr (k := kk) (ch := ch) hc
    have hsl := hsp.hs
    have heq := hsp.eq
    have hK0 := hK r
    clear hsp
    obtain ⟨m1, m2, bes, bclk, ses, sclk, lb, lo, M⟩ := r
    simp only at heq hM hg hset
    subst heq
    have hhp : (LdR.mk m1 m2 bes bclk ses sclk lb (l1 ++ x :: l2) M).hp a d = [(d, cellsO (ldV a.b a.fr a.n a.p a.ready m1 m2 a.next) 89), (m1, .map bes bclk), (m2, .map ses sclk)] ++ ((opH l1 ++ ((x.o, cellsO x.cells 112) :: opH l2)) ++ M) := by rw [← opMid]
    obtain ⟨xs, xo, xe, xv, xc⟩ := x
    simp only at hxc hK hg hset hsl
    subst hsl
    have hat := opAt (Opn.mk xs xo xe xv xc) hk5
    have hput := opSet xs xo xe xv xc hk5
    have hble : Nat.ble (0 + 56 + kk * 1 + 1) 62 = true := Nat.ble_eq_true_of_le (by omega)
    rw [hhp]
    cases hv : xv kk with
    | true =>
      rw [if_pos hv] at hK0
      rw [show (Opn.mk xs xo xe xv xc).v kk = true from hv] at hat
      have h := hK0 hr
      rw [hhp] at h
      clear hK hK0 hset
      repeat' (first | (refine s_rdp ?_ (hr := by (apply rd_indexArr (k := kk) (n := 1); exact rfl; exact rfl; exact rfl; exact rfl; omega; done))) | refine s_rdm ?_ (hr := by (apply rd_loadI; exact rfl; exact rfl; infer_instance; exact hat; done)) | refine d_rdm ?_ (hr := by (apply rd_loadI; exact rfl; exact rfl; infer_instance; exact hat; done)) | (show wpO _ _ _ _ _ _ _; first | refine wpO_nil ?_ | (show wpO _ _ _ (⟨_, .binOp _ _ _ _ _, _, _, _, _⟩ :: _) _ _ _; first | refine s_tt ?_ | refine s_ff ?_ | refine s_rdp ?_ | (refine s_cmp (fun _ => ?_) (fun _ => ?_) <;> (first | (exfalso; omega) | contradiction | skip)) | (refine s_cb (fun _ => ?_) (fun _ => ?_) <;> (first | (exfalso; omega) | contradiction | skip)) | refine s_sks ?_ | (refine s_g (fun _ => ?_) (fun _ => ?_) <;> (first | (exfalso; omega) | contradiction | skip))) | (show wpO _ _ _ (⟨_, .lookup _ _ _ _, _, _, _, _⟩ :: _) _ _ _; first | refine s_rdm ?_ | refine s_look (fun _ _ => ?_) (fun _ => ?_) | refine s_sks ?_ | (refine s_g (fun _ => ?_) (fun _ => ?_) <;> (first | (exfalso; omega) | contradiction | skip))) | (show wpO _ _ _ (⟨_, .indexAddr _ _ _, _, _, _, _⟩ :: _) _ _ _; first | refine s_rdp ?_ | refine s_idx (fun _ _ _ _ _ _ _ => ?_) | refine s_sks ?_ | (refine s_g (fun _ => ?_) (fun _ => ?_) <;> (first | (exfalso; omega) | contradiction | skip))) | (show wpO _ _ _ (⟨_, .pick _ _ _, _, _, _, _⟩ :: _) _ _ _; first | refine s_rdp ?_ | (refine s_p (fun _ => ?_) (fun _ => ?_) <;> (first | (exfalso; omega) | contradiction | skip)) | refine s_sks ?_ | (refine s_g (fun _ => ?_) (fun _ => ?_) <;> (first | (exfalso; omega) | contradiction | skip))) | refine s_rdp ?_ | refine s_rdm ?_ | refine s_exq ?_ | refine s_exm ?_ | refine s_sks ?_ | refine s_skn ?_ | (refine s_g (fun _ => ?_) (fun _ => ?_) <;> (first | (exfalso; omega) | contradiction | skip))) | (show Ex _ _ _ _ _; first | (show Ex _ ⟨_, .call ⟨.value (.func _), _, _⟩, _, _, _, _⟩ _ _ _; refine e_call ?_; first | (apply p_pcs; apply pnoneV _; (try case hS => assumption); (case hpcs => (repeat (first | exact Pcs.blk (by infer_instance) | exact Pcs.nil | (apply Pcs.cons; infer_instance) | apply Pcs.app))))) | (show Ex _ ⟨_, .store _ _ _, _, _, _, _⟩ _ _ _; first | refine e_store1 ?_ | refine e_storeA ?_ | (refine e_storeO ?_; intro _ _))) | (show wpC _ _ _ _ _ _; first | refine wpC_seq ?_ | refine wpC_region ?_ | refine c_true ?_ | refine c_false ?_ | (refine c_b (fun _ => ?_) (fun _ => ?_) <;> (first | (exfalso; omega) | contradiction | skip)) | refine wpC_ret ?_ | refine wpC_skip ?_ | refine wpC_label ?_ | (apply wpC_drawX (id := 11) ([]) [0, 1, 2, 3, 4, 5, 6, 7, 8, 10, 11, 12, 13, 9, 14, 15, 16] rfl (by kernel_rfl); (case hpk => (repeat (first | exact Pcs.blk (by infer_instance) | exact Pcs.nil | (apply Pcs.cons; infer_instance) | apply Pcs.app))))) | (show Then _ _ _ _ _ _ _; first | refine then_normal ?_ | refine then_ret ?_) | (show wpD _ _ _ _ _ _ _ _; first | refine wpD_nil ?_ | refine d_rdp ?_ | refine d_rdm ?_ | refine d_sks ?_ | refine d_tt ?_ | refine d_ff ?_ | (refine d_cmp (fun _ => ?_) (fun _ => ?_) <;> (first | (exfalso; omega) | contradiction | skip)) | (refine d_cb (fun _ => ?_) (fun _ => ?_) <;> (first | (exfalso; omega) | contradiction | skip)) | refine d_look (fun _ _ => ?_) (fun _ => ?_) | refine d_idx (fun _ _ _ _ _ _ _ => ?_) | refine d_exs ?_ | refine d_exn ?_ | (refine d_p (fun _ => ?_) (fun _ => ?_) <;> (first | (exfalso; omega) | contradiction | skip)) | (refine d_g (fun _ => ?_) (fun _ => ?_) <;> (first | (exfalso; omega) | contradiction | skip))) | (show (_ ∨ Subs _ _) ∧ _; first | refine d_sub ?_ | refine d_cov ?_) | (show RetP _ _ _ _ _ _ _ _; first | refine r_2 ?_) | assumption | intro _)
      all_goals first | (exfalso; omega) | exact q_drop h | trace_state
    | false =>
      rw [if_neg (by rw [hv]; simp)] at hK
      rw [show (Opn.mk xs xo xe xv xc).v kk = false from hv] at hat
      have hc5 := cnt_set hk5 hv
      have fin : ∀ ch, ch = decide (maj a.n ≤ cnt5 (setv xv kk)) → K (.tuple #[.bool (decide (cnt5 xv + 1 = maj a.n)), .int .i64 0]) (([(d, cellsO (ldV a.b a.fr a.n a.p a.ready m1 m2 a.next) 89), (m1, .map bes bclk), (m2, .map ses sclk)] ++ ((opH l1 ++ ((xo, cellsO (Opn.mk xs xo xe (setv xv kk) ch).cells 112) :: opH l2)) ++ M)) ++ F) := fun ch hc => by
        have h := hK _ (hset ch hc)
        rw [show (LdR.mk m1 m2 bes bclk ses sclk lb (l1 ++ ⟨xs, xo, xe, setv xv kk, ch⟩ :: l2) M).hp { a with L := setO a.L xs kk } d = [(d, cellsO (ldV a.b a.fr a.n a.p a.ready m1 m2 a.next) 89), (m1, .map bes bclk), (m2, .map ses sclk)] ++ (opH (l1 ++ ⟨xs, xo, xe, setv xv kk, ch⟩ :: l2) ++ M) from rfl, opMid] at h
        exact h
      clear hK hK0 hset hhp
      cases xc with
      | true =>
        have hch : maj a.n ≤ cnt5 xv := of_decide_eq_true hxc.symm
        have h := fin true (decide_eq_true (by omega)).symm
        rw [decide_eq_false (by omega)] at h
        clear fin
        repeat' (first | (refine s_rdp ?_ (hr := by (apply rd_indexArr (k := kk) (n := 1); exact rfl; exact rfl; exact rfl; exact rfl; omega; done))) | refine s_rdm ?_ (hr := by (apply rd_loadI; exact rfl; exact rfl; infer_instance; exact hat; done)) | refine d_rdm ?_ (hr := by (apply rd_loadI; exact rfl; exact rfl; infer_instance; exact hat; done)) | (show wpO _ _ _ _ _ _ _; first | refine wpO_nil ?_ | (show wpO _ _ _ (⟨_, .binOp _ _ _ _ _, _, _, _, _⟩ :: _) _ _ _; first | refine s_tt ?_ | refine s_ff ?_ | refine s_rdp ?_ | (refine s_cmp (fun _ => ?_) (fun _ => ?_) <;> (first | (exfalso; omega) | contradiction | skip)) | (refine s_cb (fun _ => ?_) (fun _ => ?_) <;> (first | (exfalso; omega) | contradiction | skip)) | refine s_sks ?_ | (refine s_g (fun _ => ?_) (fun _ => ?_) <;> (first | (exfalso; omega) | contradiction | skip))) | (show wpO _ _ _ (⟨_, .lookup _ _ _ _, _, _, _, _⟩ :: _) _ _ _; first | refine s_rdm ?_ | refine s_look (fun _ _ => ?_) (fun _ => ?_) | refine s_sks ?_ | (refine s_g (fun _ => ?_) (fun _ => ?_) <;> (first | (exfalso; omega) | contradiction | skip))) | (show wpO _ _ _ (⟨_, .indexAddr _ _ _, _, _, _, _⟩ :: _) _ _ _; first | refine s_rdp ?_ | refine s_idx (fun _ _ _ _ _ _ _ => ?_) | refine s_sks ?_ | (refine s_g (fun _ => ?_) (fun _ => ?_) <;> (first | (exfalso; omega) | contradiction | skip))) | (show wpO _ _ _ (⟨_, .pick _ _ _, _, _, _, _⟩ :: _) _ _ _; first | refine s_rdp ?_ | (refine s_p (fun _ => ?_) (fun _ => ?_) <;> (first | (exfalso; omega) | contradiction | skip)) | refine s_sks ?_ | (refine s_g (fun _ => ?_) (fun _ => ?_) <;> (first | (exfalso; omega) | contradiction | skip))) | refine s_rdp ?_ | refine s_rdm ?_ | refine s_exq ?_ | refine s_exm ?_ | refine s_sks ?_ | refine s_skn ?_ | (refine s_g (fun _ => ?_) (fun _ => ?_) <;> (first | (exfalso; omega) | contradiction | skip))) | (show Ex _ _ _ _ _; first | (refine e_store1 (l' := (Opn.mk xs xo xe (setv xv kk) true).cells) ?_ (hlen := hble) (hl' := hput)) | (show Ex _ ⟨_, .call ⟨.value (.func _), _, _⟩, _, _, _, _⟩ _ _ _; refine e_call ?_; first | (apply p_pcs; apply pnoneV _; (try case hS => assumption); (case hpcs => (repeat (first | exact Pcs.blk (by infer_instance) | exact Pcs.nil | (apply Pcs.cons; infer_instance) | apply Pcs.app))))) | (show Ex _ ⟨_, .store _ _ _, _, _, _, _⟩ _ _ _; first | refine e_store1 ?_ | refine e_storeA ?_ | (refine e_storeO ?_; intro _ _))) | (show wpC _ _ _ _ _ _; first | refine wpC_seq ?_ | refine wpC_region ?_ | refine c_true ?_ | refine c_false ?_ | (refine c_b (fun _ => ?_) (fun _ => ?_) <;> (first | (exfalso; omega) | contradiction | skip)) | refine wpC_ret ?_ | refine wpC_skip ?_ | refine wpC_label ?_ | (apply wpC_drawX (id := 11) ([]) [0, 1, 2, 3, 4, 5, 6, 7, 8, 10, 11, 12, 13, 9, 14, 15, 16] rfl (by kernel_rfl); (case hpk => (repeat (first | exact Pcs.blk (by infer_instance) | exact Pcs.nil | (apply Pcs.cons; infer_instance) | apply Pcs.app))))) | (show Then _ _ _ _ _ _ _; first | refine then_normal ?_ | refine then_ret ?_) | (show wpD _ _ _ _ _ _ _ _; first | refine wpD_nil ?_ | refine d_rdp ?_ | refine d_rdm ?_ | refine d_sks ?_ | refine d_tt ?_ | refine d_ff ?_ | (refine d_cmp (fun _ => ?_) (fun _ => ?_) <;> (first | (exfalso; omega) | contradiction | skip)) | (refine d_cb (fun _ => ?_) (fun _ => ?_) <;> (first | (exfalso; omega) | contradiction | skip)) | refine d_look (fun _ _ => ?_) (fun _ => ?_) | refine d_idx (fun _ _ _ _ _ _ _ => ?_) | refine d_exs ?_ | refine d_exn ?_ | (refine d_p (fun _ => ?_) (fun _ => ?_) <;> (first | (exfalso; omega) | contradiction | skip)) | (refine d_g (fun _ => ?_) (fun _ => ?_) <;> (first | (exfalso; omega) | contradiction | skip))) | (show (_ ∨ Subs _ _) ∧ _; first | refine d_sub ?_ | refine d_cov ?_) | (show RetP _ _ _ _ _ _ _ _; first | refine r_2 ?_) | assumption | intro _)
        all_goals first | (exfalso; omega) | exact q_drop h | trace_state
      | false =>
        have hch : ¬ maj a.n ≤ cnt5 xv := of_decide_eq_false hxc.symm
        by_cases hm : cnt5 xv + 1 = maj a.n
        · have h := fin true (decide_eq_true (by omega)).symm
          rw [decide_eq_true hm] at h
          clear fin
          repeat' (first | (refine s_rdp ?_ (hr := by (apply rd_indexArr (k := kk) (n := 1); exact rfl; exact rfl; exact rfl; exact rfl; omega; done))) | refine s_rdm ?_ (hr := by (apply rd_loadI; exact rfl; exact rfl; infer_instance; exact hat; done)) | refine d_rdm ?_ (hr := by (apply rd_loadI; exact rfl; exact rfl; infer_instance; exact hat; done)) | (show wpO _ _ _ _ _ _ _; first | refine wpO_nil ?_ | (show wpO _ _ _ (⟨_, .binOp _ _ _ _ _, _, _, _, _⟩ :: _) _ _ _; first | refine s_tt ?_ | refine s_ff ?_ | refine s_rdp ?_ | (refine s_cmp (fun _ => ?_) (fun _ => ?_) <;> (first | (exfalso; omega) | contradiction | skip)) | (refine s_cb (fun _ => ?_) (fun _ => ?_) <;> (first | (exfalso; omega) | contradiction | skip)) | refine s_sks ?_ | (refine s_g (fun _ => ?_) (fun _ => ?_) <;> (first | (exfalso; omega) | contradiction | skip))) | (show wpO _ _ _ (⟨_, .lookup _ _ _ _, _, _, _, _⟩ :: _) _ _ _; first | refine s_rdm ?_ | refine s_look (fun _ _ => ?_) (fun _ => ?_) | refine s_sks ?_ | (refine s_g (fun _ => ?_) (fun _ => ?_) <;> (first | (exfalso; omega) | contradiction | skip))) | (show wpO _ _ _ (⟨_, .indexAddr _ _ _, _, _, _, _⟩ :: _) _ _ _; first | refine s_rdp ?_ | refine s_idx (fun _ _ _ _ _ _ _ => ?_) | refine s_sks ?_ | (refine s_g (fun _ => ?_) (fun _ => ?_) <;> (first | (exfalso; omega) | contradiction | skip))) | (show wpO _ _ _ (⟨_, .pick _ _ _, _, _, _, _⟩ :: _) _ _ _; first | refine s_rdp ?_ | (refine s_p (fun _ => ?_) (fun _ => ?_) <;> (first | (exfalso; omega) | contradiction | skip)) | refine s_sks ?_ | (refine s_g (fun _ => ?_) (fun _ => ?_) <;> (first | (exfalso; omega) | contradiction | skip))) | refine s_rdp ?_ | refine s_rdm ?_ | refine s_exq ?_ | refine s_exm ?_ | refine s_sks ?_ | refine s_skn ?_ | (refine s_g (fun _ => ?_) (fun _ => ?_) <;> (first | (exfalso; omega) | contradiction | skip))) | (show Ex _ _ _ _ _; first | (refine e_store1 (l' := (Opn.mk xs xo xe (setv xv kk) false).cells) ?_ (hlen := hble) (hl' := hput)) | (show Ex _ ⟨_, .call ⟨.value (.func _), _, _⟩, _, _, _, _⟩ _ _ _; refine e_call ?_; first | (apply p_pcs; apply pnoneV _; (try case hS => assumption); (case hpcs => (repeat (first | exact Pcs.blk (by infer_instance) | exact Pcs.nil | (apply Pcs.cons; infer_instance) | apply Pcs.app)))) | (apply pvotes _ (v := setv xv kk)) | (apply pmajN _ n1 n5)) | (show Ex _ ⟨_, .store _ _ _, _, _, _, _⟩ _ _ _; first | refine e_store1 ?_ | refine e_storeA ?_ | (refine e_storeO ?_; intro _ _))) | (show wpC _ _ _ _ _ _; first | refine wpC_seq ?_ | refine wpC_region ?_ | refine c_true ?_ | refine c_false ?_ | (refine c_b (fun _ => ?_) (fun _ => ?_) <;> (first | (exfalso; omega) | contradiction | skip)) | refine wpC_ret ?_ | refine wpC_skip ?_ | refine wpC_label ?_ | (apply wpC_drawX (id := 11) ([]) [0, 1, 2, 3, 4, 5, 6, 7, 8, 10, 11, 12, 13, 9, 14, 15, 16] rfl (by kernel_rfl); (case hpk => (repeat (first | exact Pcs.blk (by infer_instance) | exact Pcs.nil | (apply Pcs.cons; infer_instance) | apply Pcs.app))))) | (show Then _ _ _ _ _ _ _; first | refine then_normal ?_ | refine then_ret ?_) | (show wpD _ _ _ _ _ _ _ _; first | refine wpD_nil ?_ | refine d_rdp ?_ | refine d_rdm ?_ | refine d_sks ?_ | refine d_tt ?_ | refine d_ff ?_ | (refine d_cmp (fun _ => ?_) (fun _ => ?_) <;> (first | (exfalso; omega) | contradiction | skip)) | (refine d_cb (fun _ => ?_) (fun _ => ?_) <;> (first | (exfalso; omega) | contradiction | skip)) | refine d_look (fun _ _ => ?_) (fun _ => ?_) | refine d_idx (fun _ _ _ _ _ _ _ => ?_) | refine d_exs ?_ | refine d_exn ?_ | (refine d_p (fun _ => ?_) (fun _ => ?_) <;> (first | (exfalso; omega) | contradiction | skip)) | (refine d_g (fun _ => ?_) (fun _ => ?_) <;> (first | (exfalso; omega) | contradiction | skip))) | (show (_ ∨ Subs _ _) ∧ _; first | refine d_sub ?_ | refine d_cov ?_) | (show RetP _ _ _ _ _ _ _ _; first | refine r_2 ?_) | assumption | intro _)
          all_goals first | (exfalso; omega) | exact q_drop h | trace_state
        · have h := fin false (decide_eq_false (by omega)).symm
          rw [decide_eq_false hm] at h
          clear fin
          repeat' (first | (refine s_rdp ?_ (hr := by (apply rd_indexArr (k := kk) (n := 1); exact rfl; exact rfl; exact rfl; exact rfl; omega; done))) | refine s_rdm ?_ (hr := by (apply rd_loadI; exact rfl; exact rfl; infer_instance; exact hat; done)) | refine d_rdm ?_ (hr := by (apply rd_loadI; exact rfl; exact rfl; infer_instance; exact hat; done)) | (show wpO _ _ _ _ _ _ _; first | refine wpO_nil ?_ | (show wpO _ _ _ (⟨_, .binOp _ _ _ _ _, _, _, _, _⟩ :: _) _ _ _; first | refine s_tt ?_ | refine s_ff ?_ | refine s_rdp ?_ | (refine s_cmp (fun _ => ?_) (fun _ => ?_) <;> (first | (exfalso; omega) | contradiction | skip)) | (refine s_cb (fun _ => ?_) (fun _ => ?_) <;> (first | (exfalso; omega) | contradiction | skip)) | refine s_sks ?_ | (refine s_g (fun _ => ?_) (fun _ => ?_) <;> (first | (exfalso; omega) | contradiction | skip))) | (show wpO _ _ _ (⟨_, .lookup _ _ _ _, _, _, _, _⟩ :: _) _ _ _; first | refine s_rdm ?_ | refine s_look (fun _ _ => ?_) (fun _ => ?_) | refine s_sks ?_ | (refine s_g (fun _ => ?_) (fun _ => ?_) <;> (first | (exfalso; omega) | contradiction | skip))) | (show wpO _ _ _ (⟨_, .indexAddr _ _ _, _, _, _, _⟩ :: _) _ _ _; first | refine s_rdp ?_ | refine s_idx (fun _ _ _ _ _ _ _ => ?_) | refine s_sks ?_ | (refine s_g (fun _ => ?_) (fun _ => ?_) <;> (first | (exfalso; omega) | contradiction | skip))) | (show wpO _ _ _ (⟨_, .pick _ _ _, _, _, _, _⟩ :: _) _ _ _; first | refine s_rdp ?_ | (refine s_p (fun _ => ?_) (fun _ => ?_) <;> (first | (exfalso; omega) | contradiction | skip)) | refine s_sks ?_ | (refine s_g (fun _ => ?_) (fun _ => ?_) <;> (first | (exfalso; omega) | contradiction | skip))) | refine s_rdp ?_ | refine s_rdm ?_ | refine s_exq ?_ | refine s_exm ?_ | refine s_sks ?_ | refine s_skn ?_ | (refine s_g (fun _ => ?_) (fun _ => ?_) <;> (first | (exfalso; omega) | contradiction | skip))) | (show Ex _ _ _ _ _; first | (refine e_store1 (l' := (Opn.mk xs xo xe (setv xv kk) false).cells) ?_ (hlen := hble) (hl' := hput)) | (show Ex _ ⟨_, .call ⟨.value (.func _), _, _⟩, _, _, _, _⟩ _ _ _; refine e_call ?_; first | (apply p_pcs; apply pnoneV _; (try case hS => assumption); (case hpcs => (repeat (first | exact Pcs.blk (by infer_instance) | exact Pcs.nil | (apply Pcs.cons; infer_instance) | apply Pcs.app)))) | (apply pvotes _ (v := setv xv kk)) | (apply pmajN _ n1 n5)) | (show Ex _ ⟨_, .store _ _ _, _, _, _, _⟩ _ _ _; first | refine e_store1 ?_ | refine e_storeA ?_ | (refine e_storeO ?_; intro _ _))) | (show wpC _ _ _ _ _ _; first | refine wpC_seq ?_ | refine wpC_region ?_ | refine c_true ?_ | refine c_false ?_ | (refine c_b (fun _ => ?_) (fun _ => ?_) <;> (first | (exfalso; omega) | contradiction | skip)) | refine wpC_ret ?_ | refine wpC_skip ?_ | refine wpC_label ?_ | (apply wpC_drawX (id := 11) ([]) [0, 1, 2, 3, 4, 5, 6, 7, 8, 10, 11, 12, 13, 9, 14, 15, 16] rfl (by kernel_rfl); (case hpk => (repeat (first | exact Pcs.blk (by infer_instance) | exact Pcs.nil | (apply Pcs.cons; infer_instance) | apply Pcs.app))))) | (show Then _ _ _ _ _ _ _; first | refine then_normal ?_ | refine then_ret ?_) | (show wpD _ _ _ _ _ _ _ _; first | refine wpD_nil ?_ | refine d_rdp ?_ | refine d_rdm ?_ | refine d_sks ?_ | refine d_tt ?_ | refine d_ff ?_ | (refine d_cmp (fun _ => ?_) (fun _ => ?_) <;> (first | (exfalso; omega) | contradiction | skip)) | (refine d_cb (fun _ => ?_) (fun _ => ?_) <;> (first | (exfalso; omega) | contradiction | skip)) | refine d_look (fun _ _ => ?_) (fun _ => ?_) | refine d_idx (fun _ _ _ _ _ _ _ => ?_) | refine d_exs ?_ | refine d_exn ?_ | (refine d_p (fun _ => ?_) (fun _ => ?_) <;> (first | (exfalso; omega) | contradiction | skip)) | (refine d_g (fun _ => ?_) (fun _ => ?_) <;> (first | (exfalso; omega) | contradiction | skip))) | (show (_ ∨ Subs _ _) ∧ _; first | refine d_sub ?_ | refine d_cov ?_) | (show RetP _ _ _ _ _ _ _ _; first | refine r_2 ?_) | assumption | intro _)
          all_goals first | (exfalso; omega) | exact q_drop h | trace_state
set_option maxHeartbeats 4000000 in
set_option maxRecDepth 100000 in
theorem pchosen (e : World) {a : Ld} {d : Nat} {r : LdR} {s : Int} {F : Hp} {K : Value → Hp → Prop} (hr : r.ok a)
    (h0 : a.chosenE s = none → K (.tuple #[.agg zeroE.cells.toArray, .bool false]) (r.hp a d ++ F))
    (h1 : ∀ c, a.chosenE s = some c → EnSz c → ∀ y : EnR, y.c = c → ∀ Bo Bd, EnO y Bo Bd → K (.tuple #[.agg y.cells.toArray, .bool true]) ((Bo ++ Bd) ++ (r.hp a d ++ F))) :
    callsK Try.prog e 27 #[pv d, .int .i64 s] (r.hp a d ++ F) K := by
  have hM := hr.open_
  unfold Ld.chosenE at h0 h1
  refine calls_body (N := 40) (args := [pv d, .int .i64 s]) Try.func27 rfl rfl rfl (by simp) ?_
  cases hg : aget (r.lo.map fun x => (x.slot, x.o)) s with
  | none =>
    rw [lo_nofind hr hg] at h0
    have h := h0 rfl
    clear h0 h1
    repeat' (first | refine r_C1 ?_ | (show wpO _ _ _ _ _ _ _; first | refine wpO_nil ?_ | (show wpO _ _ _ (⟨_, .binOp _ _ _ _ _, _, _, _, _⟩ :: _) _ _ _; first | refine s_tt ?_ | refine s_ff ?_ | refine s_rdp ?_ | (refine s_cmp (fun _ => ?_) (fun _ => ?_) <;> (first | (exfalso; omega) | contradiction | skip)) | (refine s_cb (fun _ => ?_) (fun _ => ?_) <;> (first | (exfalso; omega) | contradiction | skip)) | refine s_sks ?_ | (refine s_g (fun _ => ?_) (fun _ => ?_) <;> (first | (exfalso; omega) | contradiction | skip))) | (show wpO _ _ _ (⟨_, .lookup _ _ _ _, _, _, _, _⟩ :: _) _ _ _; first | refine s_rdm ?_ | refine s_look (fun _ _ => ?_) (fun _ => ?_) | refine s_sks ?_ | (refine s_g (fun _ => ?_) (fun _ => ?_) <;> (first | (exfalso; omega) | contradiction | skip))) | (show wpO _ _ _ (⟨_, .pick _ _ _, _, _, _, _⟩ :: _) _ _ _; first | refine s_rdp ?_ | (refine s_p (fun _ => ?_) (fun _ => ?_) <;> (first | (exfalso; omega) | contradiction | skip)) | refine s_sks ?_ | (refine s_g (fun _ => ?_) (fun _ => ?_) <;> (first | (exfalso; omega) | contradiction | skip))) | refine s_rdp ?_ | refine s_rdm ?_ | refine s_exq ?_ | refine s_exm ?_ | refine s_sks ?_ | refine s_skn ?_ | (refine s_g (fun _ => ?_) (fun _ => ?_) <;> (first | (exfalso; omega) | contradiction | skip))) | (show Ex _ _ _ _ _; first | (show Ex _ ⟨_, .call ⟨.value (.func _), _, _⟩, _, _, _, _⟩ _ _ _; refine e_call ?_; first | (apply p_pcs; apply pnone _; (try case hS => assumption); (case hpcs => (repeat (first | exact Pcs.blk (by infer_instance) | exact Pcs.nil | (apply Pcs.cons; infer_instance) | apply Pcs.app))))) | (show Ex _ ⟨_, .alloc _, _, _, _, _⟩ _ _ _; first | (refine e_allocA ?_; intro _) | (refine e_alloc1 ?_; intro _)) | (show Ex _ ⟨_, .store _ _ _, _, _, _, _⟩ _ _ _; first | refine e_store1 ?_ | refine e_storeA ?_ | (refine e_storeO ?_; intro _ _))) | (show wpC _ _ _ _ _ _; first | refine wpC_seq ?_ | refine wpC_region ?_ | refine c_true ?_ | refine c_false ?_ | (refine c_b (fun _ => ?_) (fun _ => ?_) <;> (first | (exfalso; omega) | contradiction | skip)) | refine wpC_ret ?_ | refine wpC_skip ?_ | refine wpC_label ?_) | (show Then _ _ _ _ _ _ _; first | refine then_normal ?_ | refine then_ret ?_) | (show RetP _ _ _ _ _ _ _ _; first | refine r_C1 ?_ | refine r_DC ?_) | assumption | intro _)
    all_goals first | (exfalso; omega) | exact q_drop h | trace_state
  | some o =>
    obtain ⟨l1, x, l2, hsp, rfl⟩ := lo_split hr hg
    rw [hsp.find hr] at h0 h1
    simp only [Option.bind_some] at h0 h1
    have hxm : x ∈ r.lo := by rw [hsp.eq]; simp
    have hxc := hr.ch x hxm
    obtain ⟨hei, hes⟩ := hr.li x hxm
    have hsl := hsp.hs
    have heq := hsp.eq
    clear hsp
    obtain ⟨m1, m2, bes, bclk, ses, sclk, lb, lo, M⟩ := r
    simp only at heq hM hg hei
    subst heq
    have hhp : (LdR.mk m1 m2 bes bclk ses sclk lb (l1 ++ x :: l2) M).hp a d = [(d, cellsO (ldV a.b a.fr a.n a.p a.ready m1 m2 a.next) 89), (m1, .map bes bclk), (m2, .map ses sclk)] ++ ((opH l1 ++ ((x.o, cellsO x.cells 112) :: opH l2)) ++ M) := by rw [← opMid]
    rw [hhp] at h0 h1 ⊢
    obtain ⟨xs, xo, xe, xv, xc⟩ := x
    simp only at hxc hg hsl hei hes
    subst hsl
    have hcc : Ol.ch a.n (Opn.mk xs xo xe xv xc).c = xc := hxc.symm
    rw [hcc] at h0 h1
    clear hr hhp hcc
    cases xc with
    | false =>
      have h := h0 rfl
      clear h0 h1
      repeat' (first | refine r_C1 ?_ | (show wpO _ _ _ _ _ _ _; first | refine wpO_nil ?_ | (show wpO _ _ _ (⟨_, .binOp _ _ _ _ _, _, _, _, _⟩ :: _) _ _ _; first | refine s_tt ?_ | refine s_ff ?_ | refine s_rdp ?_ | (refine s_cmp (fun _ => ?_) (fun _ => ?_) <;> (first | (exfalso; omega) | contradiction | skip)) | (refine s_cb (fun _ => ?_) (fun _ => ?_) <;> (first | (exfalso; omega) | contradiction | skip)) | refine s_sks ?_ | (refine s_g (fun _ => ?_) (fun _ => ?_) <;> (first | (exfalso; omega) | contradiction | skip))) | (show wpO _ _ _ (⟨_, .lookup _ _ _ _, _, _, _, _⟩ :: _) _ _ _; first | refine s_rdm ?_ | refine s_look (fun _ _ => ?_) (fun _ => ?_) | refine s_sks ?_ | (refine s_g (fun _ => ?_) (fun _ => ?_) <;> (first | (exfalso; omega) | contradiction | skip))) | (show wpO _ _ _ (⟨_, .pick _ _ _, _, _, _, _⟩ :: _) _ _ _; first | refine s_rdp ?_ | (refine s_p (fun _ => ?_) (fun _ => ?_) <;> (first | (exfalso; omega) | contradiction | skip)) | refine s_sks ?_ | (refine s_g (fun _ => ?_) (fun _ => ?_) <;> (first | (exfalso; omega) | contradiction | skip))) | refine s_rdp ?_ | refine s_rdm ?_ | refine s_exq ?_ | refine s_exm ?_ | refine s_sks ?_ | refine s_skn ?_ | (refine s_g (fun _ => ?_) (fun _ => ?_) <;> (first | (exfalso; omega) | contradiction | skip))) | (show Ex _ _ _ _ _; first | (show Ex _ ⟨_, .call ⟨.value (.func _), _, _⟩, _, _, _, _⟩ _ _ _; refine e_call ?_; first | (apply p_pcs; apply pnoneV _; (try case hS => assumption); (case hpcs => (repeat (first | exact Pcs.blk (by infer_instance) | exact Pcs.nil | (apply Pcs.cons; infer_instance) | apply Pcs.app))))) | (show Ex _ ⟨_, .alloc _, _, _, _, _⟩ _ _ _; first | (refine e_allocA ?_; intro _) | (refine e_alloc1 ?_; intro _)) | (show Ex _ ⟨_, .store _ _ _, _, _, _, _⟩ _ _ _; first | refine e_store1 ?_ | refine e_storeA ?_ | (refine e_storeO ?_; intro _ _))) | (show wpC _ _ _ _ _ _; first | refine wpC_seq ?_ | refine wpC_region ?_ | refine c_true ?_ | refine c_false ?_ | (refine c_b (fun _ => ?_) (fun _ => ?_) <;> (first | (exfalso; omega) | contradiction | skip)) | refine wpC_ret ?_ | refine wpC_skip ?_ | refine wpC_label ?_) | (show Then _ _ _ _ _ _ _; first | refine then_normal ?_ | refine then_ret ?_) | (show RetP _ _ _ _ _ _ _ _; first | refine r_C1 ?_ | refine r_DC ?_) | assumption | intro _)
      all_goals first | (exfalso; omega) | exact q_drop h | trace_state
    | true =>
      have h := h1 xe.c rfl hes
      clear h0 h1
      repeat' (first | refine r_C1 ?_ | (show wpO _ _ _ _ _ _ _; first | refine wpO_nil ?_ | (show wpO _ _ _ (⟨_, .binOp _ _ _ _ _, _, _, _, _⟩ :: _) _ _ _; first | refine s_tt ?_ | refine s_ff ?_ | refine s_rdp ?_ | (refine s_cmp (fun _ => ?_) (fun _ => ?_) <;> (first | (exfalso; omega) | contradiction | skip)) | (refine s_cb (fun _ => ?_) (fun _ => ?_) <;> (first | (exfalso; omega) | contradiction | skip)) | refine s_sks ?_ | (refine s_g (fun _ => ?_) (fun _ => ?_) <;> (first | (exfalso; omega) | contradiction | skip))) | (show wpO _ _ _ (⟨_, .lookup _ _ _ _, _, _, _, _⟩ :: _) _ _ _; first | refine s_rdm ?_ | refine s_look (fun _ _ => ?_) (fun _ => ?_) | refine s_sks ?_ | (refine s_g (fun _ => ?_) (fun _ => ?_) <;> (first | (exfalso; omega) | contradiction | skip))) | (show wpO _ _ _ (⟨_, .pick _ _ _, _, _, _, _⟩ :: _) _ _ _; first | refine s_rdp ?_ | (refine s_p (fun _ => ?_) (fun _ => ?_) <;> (first | (exfalso; omega) | contradiction | skip)) | refine s_sks ?_ | (refine s_g (fun _ => ?_) (fun _ => ?_) <;> (first | (exfalso; omega) | contradiction | skip))) | refine s_rdp ?_ | refine s_rdm ?_ | refine s_exq ?_ | refine s_exm ?_ | refine s_sks ?_ | refine s_skn ?_ | (refine s_g (fun _ => ?_) (fun _ => ?_) <;> (first | (exfalso; omega) | contradiction | skip))) | (show Ex _ _ _ _ _; first | (show Ex _ ⟨_, .call ⟨.value (.func _), _, _⟩, _, _, _, _⟩ _ _ _; refine e_call ?_; first | (apply p_pcs; apply pnoneV _; (try case hS => assumption); (case hpcs => (repeat (first | exact Pcs.blk (by infer_instance) | exact Pcs.nil | (apply Pcs.cons; infer_instance) | apply Pcs.app)))) | (apply p_pcs; apply cloneEntry_spec _ hei hes; (try case hS => assumption); (case hpcs => (repeat (first | exact Pcs.blk (by infer_instance) | exact Pcs.nil | (apply Pcs.cons; infer_instance) | apply Pcs.app))))) | (show Ex _ ⟨_, .alloc _, _, _, _, _⟩ _ _ _; first | (refine e_allocA ?_; intro _) | (refine e_alloc1 ?_; intro _)) | (show Ex _ ⟨_, .store _ _ _, _, _, _, _⟩ _ _ _; first | refine e_store1 ?_ | refine e_storeA ?_ | (refine e_storeO ?_; intro _ _))) | (show wpC _ _ _ _ _ _; first | refine wpC_seq ?_ | refine wpC_region ?_ | refine c_true ?_ | refine c_false ?_ | (refine c_b (fun _ => ?_) (fun _ => ?_) <;> (first | (exfalso; omega) | contradiction | skip)) | refine wpC_ret ?_ | refine wpC_skip ?_ | refine wpC_label ?_) | (show Then _ _ _ _ _ _ _; first | refine then_normal ?_ | refine then_ret ?_) | (show RetP _ _ _ _ _ _ _ _; first | refine r_C1 ?_ | refine r_DC ?_) | assumption | intro _)
      all_goals first | (exfalso; omega) | skip
      rename_i y hyc Bo Bd hO
      exact q_drop (h y hyc Bo Bd hO)
end Go.Vl

namespace Go.Vl
open Go.Proofs Classical
def ldsF (dd : Nat → Nat) (rr : Nat → LdR) (A : Nat → Ld) : Nat → Hp
  | 0 => []
  | l + 1 => (rr l).hp (A l) (dd l) ++ ldsF dd rr A l
set_option maxHeartbeats 4000000 in
set_option maxRecDepth 100000 in
theorem ldsF_congr {dd dd' : Nat → Nat} {rr rr' : Nat → LdR} {A A' : Nat → Ld} : ∀ {N : Nat}, (∀ l, l < N → dd l = dd' l ∧ rr l = rr' l ∧ A l = A' l) → ldsF dd rr A N = ldsF dd' rr' A' N
  | 0, _ => rfl
  | N + 1, h => by
    obtain ⟨h1, h2, h3⟩ := h N (by omega)
    show (rr N).hp (A N) (dd N) ++ _ = (rr' N).hp (A' N) (dd' N) ++ _
    rw [h1, h2, h3, ldsF_congr (N := N) fun l hl => h l (by omega)]
set_option maxHeartbeats 4000000 in
set_option maxRecDepth 100000 in
theorem ldsF_at {dd : Nat → Nat} {rr : Nat → LdR} {A : Nat → Ld} {l : Nat} : ∀ {N : Nat}, l < N → ∃ X Y : Hp, ldsF dd rr A N = X ++ ((rr l).hp (A l) (dd l) ++ Y) ∧ ∀ r' a', ldsF dd (upd1 rr l r') (upd1 A l a') N = X ++ (r'.hp a' (dd l) ++ Y)
  | 0, h => absurd h (Nat.not_lt_zero _)
  | N + 1, h => by
    by_cases hl : l < N
    · obtain ⟨X, Y, h1, h2⟩ := ldsF_at (dd := dd) (rr := rr) (A := A) hl
      refine ⟨(rr N).hp (A N) (dd N) ++ X, Y, ?_, fun r' a' => ?_⟩
      · show _ ++ ldsF dd rr A N = _
        rw [h1]; exact (List.append_assoc _ _ _).symm
      · show ((upd1 rr l r') N).hp ((upd1 A l a') N) (dd N) ++ ldsF dd (upd1 rr l r') (upd1 A l a') N = _
        rw [h2 r' a', upd1_ne (by omega), upd1_ne (by omega)]
        exact (List.append_assoc _ _ _).symm
    · obtain rfl : l = N := by omega
      refine ⟨[], ldsF dd rr A l, rfl, fun r' a' => ?_⟩
      show ((upd1 rr l r') l).hp ((upd1 A l a') l) (dd l) ++ ldsF dd (upd1 rr l r') (upd1 A l a') l = _
      rw [upd1_same, upd1_same, ldsF_congr (N := l) (dd' := dd) (rr' := rr) (A' := A) fun j hj => ⟨rfl, upd1_ne (by omega), upd1_ne (by omega)⟩]
      rfl
def askF (ab : Nat → Nat) (n : Nat) (sk : Nat → Nat → Bool) : Nat → Hp
  | 0 => []
  | l + 1 => askF ab n sk l ++ [(ab l, cellsO ((vts (sk l) n).map boC).flatten 4)]
set_option maxHeartbeats 4000000 in
set_option maxRecDepth 100000 in
theorem askF_congr {ab ab' : Nat → Nat} {n : Nat} {sk sk' : Nat → Nat → Bool} : ∀ {N : Nat}, (∀ l, l < N → ab l = ab' l ∧ sk l = sk' l) → askF ab n sk N = askF ab' n sk' N
  | 0, _ => rfl
  | N + 1, h => by
    obtain ⟨h1, h2⟩ := h N (by omega)
    show askF ab n sk N ++ [(ab N, cellsO ((vts (sk N) n).map boC).flatten 4)] = askF ab' n sk' N ++ [(ab' N, cellsO ((vts (sk' N) n).map boC).flatten 4)]
    rw [h1, h2, askF_congr (N := N) fun l hl => h l (by omega)]
set_option maxHeartbeats 4000000 in
set_option maxRecDepth 100000 in
theorem askF_at {ab : Nat → Nat} {n : Nat} {sk : Nat → Nat → Bool} {l : Nat} : ∀ {N : Nat}, l < N → ∃ X Y : Hp, askF ab n sk N = X ++ ((ab l, cellsO ((vts (sk l) n).map boC).flatten 4) :: Y) ∧ ∀ p, askF ab n (upd1 sk l p) N = X ++ ((ab l, cellsO ((vts p n).map boC).flatten 4) :: Y)
  | 0, h => absurd h (Nat.not_lt_zero _)
  | N + 1, h => by
    by_cases hl : l < N
    · obtain ⟨X, Y, h1, h2⟩ := askF_at (ab := ab) (n := n) (sk := sk) hl
      refine ⟨X, Y ++ [(ab N, cellsO ((vts (sk N) n).map boC).flatten 4)], ?_, fun p => ?_⟩
      · show askF ab n sk N ++ _ = _
        rw [h1, List.append_assoc]; rfl
      · show askF ab n (upd1 sk l p) N ++ [(ab N, cellsO ((vts (upd1 sk l p N) n).map boC).flatten 4)] = _
        rw [h2 p, upd1_ne (by omega), List.append_assoc]; rfl
    · obtain rfl : l = N := by omega
      refine ⟨askF ab n sk l, [], rfl, fun p => ?_⟩
      show askF ab n (upd1 sk l p) l ++ [(ab l, cellsO ((vts (upd1 sk l p l) n).map boC).flatten 4)] = _
      rw [upd1_same, askF_congr (N := l) (ab' := ab) (sk' := sk) fun j hj => ⟨rfl, upd1_ne (by omega)⟩]
set_option maxHeartbeats 4000000 in
set_option maxRecDepth 100000 in
theorem flatS {α : Type} (f : α → Value) : ∀ l : List α, (l.map fun x => [f x]).flatten = l.map f
  | [] => rfl
  | a :: l => by rw [List.map_cons, List.flatten_cons, flatS f l]; rfl
/-- what stays in its place -/
structure MvC where
  gb : Nat
  rb : Nat
  vl : Value
  Bl : Hp
  va : Value
  Ba : Hp
  dd : Nat → Nat
  ab : Nat → Nat
structure MvC.ok (c : MvC) (n N : Nat) : Prop where
  l : InSl c.Bl 1 ((List.range N).map fun l => [pv (c.dd l)]) c.vl
  a : InSl c.Ba 1 ((List.range N).map fun l => [Value.slice (some ⟨c.ab l, 0, none⟩) n n]) c.va
structure MvS where
  S : Px
  R : Nat → Rep
  rr : Nat → LdR
  G : Hp
abbrev MvS.hp (s : MvS) (c : MvC) (n N : Nat) : Hp := [(c.gb, cellsO [.int .i64 (n : Int), .slice (some ⟨c.rb, 0, none⟩) n n, c.vl, c.va] 69), (c.rb, cellsO (repL s.R n) 72)] ++ (c.Bl ++ (c.Ba ++ (ldsF c.dd s.rr s.S.A N ++ (askF c.ab n s.S.asked N ++ (repB s.R n ++ s.G)))))
structure RpOK (G : Hp) (prom : Bal) (acc : List Sl) (x : Rep) : Prop where
  prom : x.prom = prom
  c : x.ls.map SlR.c = acc
  s : SlO 51 59 x.v x.ls.length (x.ls.map SlR.cells).flatten x.B
  e : ∀ y ∈ x.ls, EnIn G y.en ∧ EnSz y.en.c
structure MvS.ok (s : MvS) (n N : Nat) : Prop where
  px : PxOK n N s.S
  rep : ∀ k, k < n → RpOK s.G (s.S.prom k) (s.S.acc k) (s.R k)
  ld : ∀ l, l < N → (s.rr l).ok (s.S.A l)
set_option maxHeartbeats 4000000 in
set_option maxRecDepth 100000 in
theorem RpOK.more {G G' : Hp} {p : Bal} {acc : List Sl} {x : Rep} (h : RpOK G p acc x) (hs : ∀ y ∈ G, y ∈ G') : RpOK G' p acc x := ⟨h.prom, h.c, h.s, fun y hy => ⟨(h.e y hy).1.more hs, (h.e y hy).2⟩⟩
set_option maxHeartbeats 4000000 in
set_option maxRecDepth 100000 in
theorem RpOK.len {G : Hp} {n N k : Nat} {S : Px} {x : Rep} (hp : PxOK n N S) (hk : k < n) {p : Bal} (h : RpOK G p (S.acc k) x) : x.ls.length ≤ 4097 := by
  have h1 : x.ls.length = ((S.acc k).map Sl.slot).length := by rw [← h.c]; simp
  rw [h1]
  refine nod_len 4097 _ 0 (hp.nod k hk) fun s hs => ?_
  obtain ⟨y, hy, rfl⟩ := List.mem_map.1 hs
  obtain ⟨m, hm, _, he, _⟩ := hp.acd k hk y hy
  have := hp.slot hm he
  omega
def dumR : LdR := ⟨0, 0, #[], 0, #[], 0, [], [], []⟩
def ddOf (ds : List (Nat × LdR)) (l : Nat) : Nat := (ds.reverse.getD l (0, dumR)).1
def rrOf (ds : List (Nat × LdR)) (l : Nat) : LdR := (ds.reverse.getD l (0, dumR)).2
set_option maxHeartbeats 4000000 in
set_option maxRecDepth 100000 in
theorem ofs_last (x : Nat × LdR) (ds : List (Nat × LdR)) : ddOf (x :: ds) ds.length = x.1 ∧ rrOf (x :: ds) ds.length = x.2 := by
  unfold ddOf rrOf
  rw [List.reverse_cons, List.getD_eq_getElem?_getD, List.getElem?_append_right (by rw [List.length_reverse]; exact Nat.le_refl _), List.length_reverse, Nat.sub_self]
  exact ⟨rfl, rfl⟩
set_option maxHeartbeats 4000000 in
set_option maxRecDepth 100000 in
theorem ofs_old (x : Nat × LdR) (ds : List (Nat × LdR)) {l : Nat} (hl : l < ds.length) : ddOf (x :: ds) l = ddOf ds l ∧ rrOf (x :: ds) l = rrOf ds l := by
  unfold ddOf rrOf
  rw [List.reverse_cons, List.getD_eq_getElem?_getD, List.getD_eq_getElem?_getD, List.getElem?_append_left (by rw [List.length_reverse]; exact hl)]
  exact ⟨rfl, rfl⟩
set_option maxHeartbeats 4000000 in
set_option maxRecDepth 100000 in
theorem ldsH_F (A : Nat → Ld) : ∀ ds : List (Nat × LdR), ldsH A ds = ldsF (ddOf ds) (rrOf ds) A ds.length
  | [] => rfl
  | x :: ds => by
    show x.2.hp (A ds.length) x.1 ++ ldsH A ds = (rrOf (x :: ds) ds.length).hp (A ds.length) (ddOf (x :: ds) ds.length) ++ ldsF _ _ A ds.length
    rw [(ofs_last x ds).1, (ofs_last x ds).2, ldsH_F A ds]
    rw [ldsF_congr (N := ds.length) (dd' := ddOf ds) (rr' := rrOf ds) (A' := A) fun l hl => ⟨(ofs_old x ds hl).1, (ofs_old x ds hl).2, rfl⟩]
set_option maxHeartbeats 4000000 in
set_option maxRecDepth 100000 in
theorem askH_F (n : Nat) : ∀ (k : Nat) (aa : List Nat), aa.length = k → (aa.map fun b => (b, cellsO (List.replicate n [Value.bool false]).flatten 4)) = askF (fun l => aa.getD l 0) n (fun _ _ => false) k
  | 0, aa, h => by rw [List.length_eq_zero_iff.1 h]; rfl
  | k + 1, aa, h => by
    obtain ⟨aa', b, rfl⟩ : ∃ aa' b, aa = aa' ++ [b] := ⟨aa.dropLast, aa.getLast (by intro h0; rw [h0] at h; cases h), (List.dropLast_concat_getLast _).symm⟩
    have hl : aa'.length = k := by rw [List.length_append] at h; simpa using h
    rw [List.map_append, askH_F n k aa' hl]
    show _ = askF (fun l => (aa' ++ [b]).getD l 0) n (fun _ _ => false) k ++ [((aa' ++ [b]).getD k 0, cellsO ((vts (fun _ => false) n).map boC).flatten 4)]
    rw [askF_congr (N := k) (ab := fun l => (aa' ++ [b]).getD l 0) (ab' := fun l => aa'.getD l 0) (sk := fun _ _ => false) (sk' := fun _ _ => false) fun l hl2 => ⟨by
      show (aa' ++ [b]).getD l 0 = aa'.getD l 0
      rw [List.getD_eq_getElem?_getD, List.getD_eq_getElem?_getD, List.getElem?_append_left (by omega)], rfl⟩]
    rw [List.getD_eq_getElem?_getD, List.getElem?_append_right (by omega), hl, Nat.sub_self]
    show _ = _ ++ [(b, cellsO ((vts noV n).map boC).flatten 4)]
    rw [← rep_vts]
    rfl
set_option maxHeartbeats 4000000 in
set_option maxRecDepth 100000 in
theorem new_world {n N : Nat} {s : GrS} (n1 : 1 ≤ n) (n5 : n ≤ 5) (hN : N < 1000) (hk : s.k = N) (h : GrOK n s) (gb rb : Nat) :
    ∃ (c : MvC) (t : MvS), c.gb = gb ∧ c.rb = rb ∧ c.ok n N ∧ t.ok n N ∧ t.hp c n N = [(gb, cellsO [.int .i64 (n : Int), .slice (some ⟨rb, 0, none⟩) n n, s.vl, s.va] 69), (rb, cellsO (repL rep0 n) 72)] ++ (s.Bl ++ (s.Ba ++ (s.X ++ (s.Y ++ [])))) := by
  obtain ⟨k, vl, Bl, va, Ba, ds, aa, X, Y⟩ := s
  simp only at hk
  subst hk
  have hl := h.l
  have ha := h.a
  have hd := h.dl
  have hx := h.x
  have hy := h.y
  have hok := h.ok
  simp only at hl ha hd hx hy hok
  have hal : aa.length = k := by have := ha.1; rw [List.length_map] at this; omega
  have hrows : ∀ f : Nat → Value, ((List.range k).map fun l => [f l]).flatten = (List.range k).map f := fun f => flatS f _
  refine ⟨⟨gb, rb, vl, Bl, va, Ba, ddOf ds, fun l => aa.getD l 0⟩, ⟨⟨fun l => newA (balL n l) 0 n, fun _ => ⟨0, 0⟩, fun _ => [], fun _ _ => false, fun _ _ _ => False⟩, rep0, rrOf ds, []⟩, rfl, rfl, ⟨?_, ?_⟩, ⟨PxOK.new n1 n5 hN, fun j _ => ⟨rfl, rfl, SlO.nil 51 59, fun y hy => (by cases hy)⟩, fun l hl => ?_⟩, ?_⟩
  · refine SlO.inB (e := 43) ?_ (fun r hr => by obtain ⟨x, _, rfl⟩ := List.mem_map.1 hr; exact ⟨rfl, rfl⟩)
    refine hl.cast (by simp) ?_
    rw [hrows]
    refine List.ext_getElem? fun j => ?_
    rw [List.getElem?_map, List.getElem?_map]
    by_cases hj : j < k
    · rw [List.getElem?_range hj]
      have : j < ds.reverse.length := by rw [List.length_reverse]; omega
      rw [List.getElem?_eq_getElem this]
      show some (pv _) = some (pv (ds.reverse.getD j (0, dumR)).1)
      rw [List.getD_eq_getElem?_getD, List.getElem?_eq_getElem this]
      rfl
    · rw [List.getElem?_eq_none (by rw [List.length_reverse]; omega), List.getElem?_eq_none (by rw [List.length_range]; omega)]
      rfl
  · refine SlO.inB (e := 99) ?_ (fun r hr => by obtain ⟨x, _, rfl⟩ := List.mem_map.1 hr; exact ⟨rfl, rfl⟩)
    refine ha.cast (by simp) ?_
    rw [hrows]
    refine List.ext_getElem? fun j => ?_
    rw [List.getElem?_map, List.getElem?_map]
    by_cases hj : j < k
    · rw [List.getElem?_range hj]
      have : j < aa.length := by omega
      rw [List.getElem?_eq_getElem this]
      show some _ = some (Value.slice (some ⟨aa.getD j 0, 0, none⟩) n n)
      rw [List.getD_eq_getElem?_getD, List.getElem?_eq_getElem this]
      rfl
    · rw [List.getElem?_eq_none (by omega), List.getElem?_eq_none (by rw [List.length_range]; omega)]
      rfl
  · have hj : l < ds.reverse.length := by rw [List.length_reverse]; omega
    show (ds.reverse.getD l (0, dumR)).2.ok (newA (balL n l) 0 n)
    obtain ⟨P, Q, hPQ⟩ := List.append_of_mem (List.getElem_mem hj)
    have he : ds.reverse.getD l (0, dumR) = ds.reverse[l] := by rw [List.getD_eq_getElem?_getD, List.getElem?_eq_getElem hj]; rfl
    rw [he]
    have hsp : ds.reverse = ds.reverse.take l ++ ds.reverse[l] :: ds.reverse.drop (l + 1) := by rw [List.getElem_cons_drop, List.take_append_drop]
    have hsp2 : ds = (ds.reverse.drop (l + 1)).reverse ++ ds.reverse[l] :: (ds.reverse.take l).reverse := by
      have := congrArg List.reverse hsp
      rw [List.reverse_reverse, List.reverse_append, List.reverse_cons] at this
      simpa using this
    have := hok _ _ _ hsp2
    rw [List.length_reverse, List.length_take] at this
    rw [Nat.min_eq_left (by omega)] at this
    exact this
  · show _ ++ (Bl ++ (Ba ++ (ldsF (ddOf ds) (rrOf ds) (fun l => newA (balL n l) 0 n) k ++ (askF (fun l => aa.getD l 0) n (fun _ _ => false) k ++ (repB rep0 n ++ []))))) = _
    rw [← repB_0, List.append_nil, hx, hy, ldsH_F, hd, askH_F n k aa hal]
    rfl
end Go.Vl
