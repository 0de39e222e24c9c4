/-
  Steps of the proof: HB, HC, HD, HH, HI.
-/
import Derived.Test.YtpegidbkplgplaaGreatQ19
import Derived.Test.YtpegidbkplgplaaGreatQ18
namespace Go.Vl
open Go.Proofs Classical
set_option maxHeartbeats 4000000 in
set_option maxRecDepth 100000 in
theorem slInn {v : Value} {ls : List SlR} {B : Hp} (h : SlO 73 59 v ls.length (ls.map SlR.cells).flatten B) : InSl B 59 (ls.map SlR.cells) v :=
  SlO.inB (by rw [List.length_map]; exact h) (fun r hr => by obtain ⟨x, _, rfl⟩ := List.mem_map.1 hr; exact ⟨rfl, rfl⟩)
attribute [local irreducible] eqW eqV wpC wpO wpD Ex Rd callsK RetP Drop valK
end Go.Vl

namespace Go.Vl
open Go.Proofs Classical
set_option maxHeartbeats 4000000 in
set_option maxRecDepth 100000 in
theorem info4 : ∃ i, Tryz.prog.info? 4 = some i ∧ i.zero = some (.bool false) ∧ i.size = 1 ∧ i.bytes = 1 := by
  have h1 : (Tryz.prog.info? 4).bind (fun i => i.zero) = some (.bool false) := by kernel_rfl
  have h2 : (Tryz.prog.info? 4).map (fun i => (i.size, i.bytes)) = some (1, 1) := by kernel_rfl
  cases h : Tryz.prog.info? 4 with
  | none => rw [h] at h2; cases h2
  | some i =>
    rw [h] at h1 h2
    simp only [Option.map_some, Option.some.injEq, Prod.mk.injEq] at h2
    exact ⟨i, rfl, h1, h2.1, h2.2⟩
section
variable {N : Nat} {rr : Option Nat} {e : World} {ρ : Fr} {H : Hp} {d : Option Nat} {ty : TypeId} {pos : String} {af : Array Edge} {g : Option (Nat × Bool)} {K : Value → Hp → Prop}
set_option maxHeartbeats 4000000 in
set_option maxRecDepth 100000 in
theorem e_mk99 {x : Operand} {n : Nat} (h : ∀ b, K (.slice (some ⟨b, 0, none⟩) n n) ((b, cellsO (List.replicate n [Value.bool false]).flatten 4) :: H)) (hx : ev ρ x = .int .i64 (n : Int)) (hn : n ≤ 5) : Ex ⟨Tryz.prog, N, rr, e⟩ ⟨d, .makeSlice 66 x x, ty, pos, af, g⟩ K ρ H := by
  obtain ⟨i, h1, h2, h3, h4⟩ := info4
  exact e_makeSlice (el := 4) h hx (by kernel_rfl) h1 h2 h3 (by decide) (by rw [h4]; omega) (by omega)
end
attribute [local irreducible] eqW eqV wpC wpO wpD Ex Rd callsK RetP Drop valK
set_option maxHeartbeats 4000000 in
set_option maxRecDepth 100000 in
theorem pnewE (e : World) {b : Bal} {fr : Int} {n : Nat} {F : Hp} {K : Value → Hp → Prop} (hok : newOK b fr (n : Int)) (h0 : ∀ (d : Nat) (r : LdR), r.ok (newA b fr n) → K (.tuple #[pv d, .int .i64 0]) (r.hp (newA b fr n) d ++ F)) :
    callsK Tryz.prog e 4 #[.agg b.cells.toArray, .int .i64 fr, .int .i64 (n : Int)] F K :=
  pnew e (fun h => absurd hok h) fun _ d H hH => by
    rw [Int.toNat_natCast] at hH
    obtain ⟨r, h1, rfl⟩ := hH
    exact h0 d r h1
end Go.Vl

namespace Go.Vl
open Classical
/-- for how many of the first n -/
def cnt (p : Nat → Bool) : Nat → Nat
  | 0 => 0
  | n + 1 => cnt p n + if p n then 1 else 0
noncomputable def hit (f n k j : Nat) : Bool := decide (∃ t, t < k ∧ (f + t) % n = j)
end Go.Vl

namespace Go.Vl
open Go.Proofs Classical
abbrev boC (b : Bool) : List Value := [.bool b]
/-- the first n votes -/
def vts (p : Nat → Bool) (n : Nat) : List Bool := (List.range n).map p
set_option maxHeartbeats 4000000 in
set_option maxRecDepth 100000 in
theorem vts_len (p : Nat → Bool) (n : Nat) : (vts p n).length = n := by unfold vts; simp
set_option maxHeartbeats 4000000 in
set_option maxRecDepth 100000 in
theorem vts_at {p : Nat → Bool} {n k : Nat} (h : k < n) : (vts p n)[k]? = some (p k) := by unfold vts; simp [h]
set_option maxHeartbeats 4000000 in
set_option maxRecDepth 100000 in
theorem vts_set {p : Nat → Bool} {n k : Nat} : (vts p n).set k true = vts (setv p k) n := by
  refine List.ext_getElem? fun j => ?_
  rw [List.getElem?_set, vts_len]
  by_cases hj : j < n
  · rw [vts_at hj, vts_at hj]
    by_cases hk : k = j
    · subst hk; rw [if_pos rfl, if_pos hj, setv_same]
    · rw [if_neg hk, setv_ne (fun h => hk h.symm)]
  · by_cases hk : k = j
    · subst hk; rw [if_pos rfl, if_neg hj, List.getElem?_eq_none (by rw [vts_len]; omega)]
    · rw [if_neg hk, List.getElem?_eq_none (by rw [vts_len]; omega), List.getElem?_eq_none (by rw [vts_len]; omega)]
set_option maxHeartbeats 4000000 in
set_option maxRecDepth 100000 in
theorem vts_0 (n : Nat) : List.replicate n false = vts noV n := by
  unfold vts
  exact List.ext_getElem? fun j => by
    by_cases hj : j < n
    · simp [hj]
    · simp [hj]
set_option maxHeartbeats 4000000 in
set_option maxRecDepth 100000 in
theorem rep_vts (n : Nat) : (List.replicate n [Value.bool false]).flatten = ((vts noV n).map boC).flatten := by rw [← vts_0, List.map_replicate]
/-- beyond n nobody has done anything -/
def Vn (n : Nat) (v : Nat → Bool) : Prop := ∀ j, n ≤ j → v j = false
set_option maxHeartbeats 4000000 in
set_option maxRecDepth 100000 in
theorem Vn.set {n k : Nat} {v : Nat → Bool} (h : Vn n v) (hk : k < n) : Vn n (setv v k) := fun j hj => by rw [setv_ne (by omega)]; exact h j hj
set_option maxHeartbeats 4000000 in
set_option maxRecDepth 100000 in
theorem vn_no (n : Nat) : Vn n noV := fun _ _ => rfl
set_option maxHeartbeats 4000000 in
set_option maxRecDepth 100000 in
theorem cnt_5 {n : Nat} {v : Nat → Bool} (h : Vn n v) (hn : n ≤ 5) : cnt v n = cnt5 v := by
  have h1 : ∀ b : Bool, (if b = true then 1 else 0) = b.toNat := fun b => by cases b <;> rfl
  unfold cnt5
  rcases (by omega : n = 0 ∨ n = 1 ∨ n = 2 ∨ n = 3 ∨ n = 4 ∨ n = 5) with rfl | rfl | rfl | rfl | rfl | rfl <;> simp only [cnt, h1]
  · rw [h 0 (by omega), h 1 (by omega), h 2 (by omega), h 3 (by omega), h 4 (by omega)]; rfl
  · rw [h 1 (by omega), h 2 (by omega), h 3 (by omega), h 4 (by omega)]; simp
  · rw [h 2 (by omega), h 3 (by omega), h 4 (by omega)]; simp
  · rw [h 3 (by omega), h 4 (by omega)]; simp
  · rw [h 4 (by omega)]; simp
  · simp
/-- a slot of the plain text -/
structure RsR where
  slot : Int
  en : EnR
  v : Nat → Bool
  n : Nat
  g : Nat
abbrev RsR.cells (x : RsR) : List Value := [.int .i64 x.slot, .int .i64 x.en.c.kind, .int .i64 x.en.c.ses, .int .i64 x.en.c.req,
  .int .i64 x.en.c.op.time, .int .i64 x.en.c.op.site, .int .i64 x.en.c.op.kind, .int .i64 x.en.c.op.node, .int .i64 x.en.c.op.parent, .string x.en.c.op.name, .string x.en.c.op.key, .string x.en.c.op.val,
  .int .i64 x.en.c.origin, .int .i64 x.en.c.seq, x.en.vo,
  .int .i64 x.en.c.num, .int .i64 (x.en.c.st 0), .int .i64 (x.en.c.st 1), .int .i64 (x.en.c.st 2), .int .i64 (x.en.c.st 3), .int .i64 (x.en.c.st 4), .int .i64 (x.en.c.st 5), .int .i64 (x.en.c.st 6), .int .i64 (x.en.c.st 7),
  .int .i64 (x.en.c.sea 0), .int .i64 (x.en.c.sea 1), .int .i64 (x.en.c.sea 2), .int .i64 (x.en.c.sea 3), .int .i64 (x.en.c.sea 4), .int .i64 (x.en.c.sea 5), .int .i64 (x.en.c.sea 6), .int .i64 (x.en.c.sea 7),
  .int .i64 (x.en.c.spo 0), .int .i64 (x.en.c.spo 1), .int .i64 (x.en.c.spo 2), .int .i64 (x.en.c.spo 3), .int .i64 (x.en.c.spo 4), .int .i64 (x.en.c.spo 5), .int .i64 (x.en.c.spo 6), .int .i64 (x.en.c.spo 7),
  .int .i64 x.en.c.src, .int .i64 (x.en.c.vec 0), .int .i64 (x.en.c.vec 1), .int .i64 (x.en.c.vec 2), .int .i64 (x.en.c.vec 3), .int .i64 (x.en.c.vec 4), .int .i64 (x.en.c.vec 5), .int .i64 (x.en.c.vec 6), .int .i64 (x.en.c.vec 7),
  .int .i64 x.en.c.clock, .int .i64 x.en.c.snap, .int .i64 x.en.c.idx, .int .i64 x.en.c.many, x.en.vd, .int .i64 x.en.c.site, .int .i64 x.en.c.sponsor, .int .i64 x.en.c.len,
  .slice (some ⟨x.g, 0, none⟩) x.n x.n]
abbrev RsR.c (x : RsR) : Ol := ⟨x.slot, x.en.c, x.v⟩
abbrev vbH (v : Nat → Bool) (n g : Nat) : Hp := [(g, cellsO ((vts v n).map boC).flatten 4)]
def rsH (l : List RsR) : Hp := l.flatMap fun x => vbH x.v x.n x.g
set_option maxHeartbeats 4000000 in
set_option maxRecDepth 100000 in
theorem rsH_app (a b : List RsR) : rsH (a ++ b) = rsH a ++ rsH b := List.flatMap_append
set_option maxHeartbeats 4000000 in
set_option maxRecDepth 100000 in
theorem flat1 : ∀ l : List Bool, (l.map boC).flatten = l.map Value.bool
  | [] => rfl
  | b :: l => by rw [List.map_cons, List.flatten_cons, flat1 l]; rfl
set_option maxHeartbeats 4000000 in
set_option maxRecDepth 100000 in
theorem vts_flat (p : Nat → Bool) {n k : Nat} (hk : k < n) : ((vts p n).map boC).flatten[0 + k * 1]? = some (.bool (p k)) := by
  rw [Nat.zero_add, Nat.mul_one, flat1, List.getElem?_map, vts_at hk]; rfl
set_option maxHeartbeats 4000000 in
set_option maxRecDepth 100000 in
theorem vts_flatSet (p : Nat → Bool) {n k : Nat} : ((vts p n).map boC).flatten.set (0 + k * 1) (.bool true) = ((vts (setv p k) n).map boC).flatten := by
  rw [Nat.zero_add, Nat.mul_one, flat1, flat1, ← vts_set, List.map_set]
set_option maxHeartbeats 4000000 in
set_option maxRecDepth 100000 in
theorem vts_flatLen (p : Nat → Bool) {n k : Nat} (hk : k < n) : Nat.ble (0 + k * 1 + 1) ((vts p n).map boC).flatten.length = true := by
  rw [flat1, List.length_map, vts_len]; exact Nat.ble_eq_true_of_le (by omega)
set_option maxHeartbeats 4000000 in
set_option maxRecDepth 100000 in
theorem vts_SlO (v : Nat → Bool) {n : Nat} (hn : n ≤ 5) (g : Nat) : SlO 4 1 (.slice (some ⟨g, 0, none⟩) n n) n ((vts v n).map boC).flatten (vbH v n g) := by
  have hl : ((vts v n).map boC).flatten.length = n := by rw [flat1, List.length_map, vts_len]
  refine ⟨by omega, .inr ⟨g, n, _, rfl, rfl, Nat.le_refl _, by unfold maxLen; omega, ?_, ?_⟩⟩
  · show n * 1 ≤ (((vts v n).map boC).flatten.toArray).size
    rw [List.size_toArray]; omega
  · show (((vts v n).map boC).flatten.toArray).toList.take (n * 1) = _
    rw [List.take_of_length_le (by rw [List.toList_toArray]; omega), List.toList_toArray]
set_option maxHeartbeats 4000000 in
set_option maxRecDepth 100000 in
theorem vts_in (v : Nat → Bool) {n : Nat} (hn : n ≤ 5) (g : Nat) : InSl (vbH v n g) 1 ((vts v n).map boC) (.slice (some ⟨g, 0, none⟩) n n) := by
  have h := vts_SlO v hn g
  refine SlO.inB (e := 4) (by rw [List.length_map, vts_len]; exact h) fun r hr => ?_
  obtain ⟨x, _, rfl⟩ := List.mem_map.1 hr
  exact ⟨rfl, rfl⟩
structure RfR where
  g : Nat
  cv : Value
  lc : List SlR
  Cb : Hp
  sv : Value
  ls : List RsR
  Sb : Hp
  M : Hp
abbrev rfC (b : Bal) (fr : Int) (n g : Nat) (cv : Value) (ready : Bool) (next : Int) (sv : Value) : List Value := [.int .i64 b.r, .int .i64 b.p, .int .i64 fr, .int .i64 (n : Int), .slice (some ⟨g, 0, none⟩) n n, cv, .bool ready, .int .i64 next, sv]
abbrev RfR.hp (r : RfR) (a : Ld) (d : Nat) : Hp := ([(d, cellsO (rfC a.b a.fr a.n r.g r.cv a.ready a.next r.sv) 69)] ++ vbH a.p a.n r.g) ++ ((r.Cb ++ r.Sb) ++ (rsH r.ls ++ r.M))
structure RfR.ok (r : RfR) (a : Ld) : Prop where
  cs : SlO 73 59 r.cv r.lc.length (r.lc.map SlR.cells).flatten r.Cb
  ss : SlO 97 58 r.sv r.ls.length (r.ls.map RsR.cells).flatten r.Sb
  came : r.lc.map (fun s => (s.slot, s.c)) = a.came
  L : r.ls.map RsR.c = a.L
  n : ∀ x ∈ r.ls, x.n = a.n
  vp : Vn a.n a.p
  vl : ∀ x ∈ r.ls, Vn a.n x.v
  ci : ∀ s ∈ r.lc, EnIn r.M s.en ∧ EnSz s.en.c
  li : ∀ x ∈ r.ls, EnIn r.M x.en ∧ EnSz x.en.c
  a : a.ok
attribute [local irreducible] eqW eqV wpC wpO wpD Ex Rd callsK RetP Drop valK
set_option maxHeartbeats 4000000 in
set_option maxRecDepth 100000 in
theorem rless8 (e : World) {a b : Bal} {F : Hp} {K : Value → Hp → Prop} (h1 : a.lt b → K (.bool true) F) (h0 : ¬ a.lt b → K (.bool false) F) : callsK Tryz.prog e 45 #[.agg a.cells.toArray, .agg b.cells.toArray] F K := by
  refine calls_body (N := 24) (args := [.agg a.cells.toArray, .agg b.cells.toArray]) Tryz.func45 rfl rfl rfl (by simp) ?_
  repeat' (first | (show wpO _ _ _ _ _ _ _; first | refine wpO_nil ?_ | (show wpO _ _ _ (⟨_, .binOp _ _ _ _ _, _, _, _, _⟩ :: _) _ _ _; first | refine s_tt ?_ | refine s_ff ?_ | refine s_rdp ?_ | ((first | refine s_cmp (fun _ => ?_) (fun _ => ?_) | refine s_cb (fun _ => ?_) (fun _ => ?_)) <;> (first | (exfalso; omega) | contradiction | skip))) | (show wpO _ _ _ (⟨_, .pick _ _ _, _, _, _, _⟩ :: _) _ _ _; first | refine s_rdp ?_ | (refine s_p (fun _ => ?_) (fun _ => ?_) <;> (first | (exfalso; omega) | contradiction | skip))) | refine s_rdp ?_ | refine s_rdm ?_ | refine s_exq ?_ | refine s_exm ?_ | refine s_sks ?_ | refine s_skn ?_ | (refine s_g (fun _ => ?_) (fun _ => ?_) <;> (first | (exfalso; omega) | contradiction | skip))) | (show Ex _ _ _ _ _; first | (show Ex _ ⟨_, .box _ _, _, _, _, _⟩ _ _ _; first | (refine e_boxA ?_; intro _) | (refine e_box1 ?_; intro _))) | (show wpC _ _ _ _ _ _; first | refine wpC_seq ?_ | refine wpC_region ?_ | refine wpC_ret ?_ | refine wpC_skip ?_ | refine wpC_label ?_) | (show Then _ _ _ _ _ _ _; first | refine then_normal ?_ | refine then_ret ?_) | (show RetP _ _ _ _ _ _ _ _; first | refine r_1 ?_))
  all_goals first
    | exact q_drop (h1 (by unfold Bal.lt; omega))
    | exact q_drop (h0 (fun h => by unfold Bal.lt at h; omega))
    | trace_state
set_option maxHeartbeats 4000000 in
set_option maxRecDepth 100000 in
theorem rmaj8 (e : World) {n : Nat} {F : Hp} {K : Value → Hp → Prop} (h1 : 1 ≤ n) (h5 : n ≤ 5) (hK : K (.int .i64 ((maj n : Nat) : Int)) F) : callsK Tryz.prog e 8 #[.int .i64 (n : Int)] F K := by
  have hq : IntKind.i64.wrap (Int.tdiv (n : Int) 2) = ((n / 2 : Nat) : Int) := by
    rcases (by omega : n = 1 ∨ n = 2 ∨ n = 3 ∨ n = 4 ∨ n = 5) with rfl | rfl | rfl | rfl | rfl <;> decide
  refine calls_body (N := 12) (args := [.int .i64 (n : Int)]) Tryz.func8 rfl rfl rfl (by simp) ?_
  repeat' (first | (refine s_rdp ?_ (hr := by (apply rd_quoI; exact rfl; exact rfl; decide; exact hq; done))) | (show wpO _ _ _ _ _ _ _; first | refine wpO_nil ?_ | (show wpO _ _ _ (⟨_, .binOp _ _ _ _ _, _, _, _, _⟩ :: _) _ _ _; first | refine s_tt ?_ | refine s_ff ?_ | refine s_rdp ?_ | ((first | refine s_cmp (fun _ => ?_) (fun _ => ?_) | refine s_cb (fun _ => ?_) (fun _ => ?_)) <;> (first | (exfalso; omega) | contradiction | skip))) | (show wpO _ _ _ (⟨_, .pick _ _ _, _, _, _, _⟩ :: _) _ _ _; first | refine s_rdp ?_ | (refine s_p (fun _ => ?_) (fun _ => ?_) <;> (first | (exfalso; omega) | contradiction | skip))) | refine s_rdp ?_ | refine s_rdm ?_ | refine s_exq ?_ | refine s_exm ?_ | refine s_sks ?_ | refine s_skn ?_ | (refine s_g (fun _ => ?_) (fun _ => ?_) <;> (first | (exfalso; omega) | contradiction | skip))) | (show wpC _ _ _ _ _ _; first | refine wpC_seq ?_ | refine wpC_region ?_ | refine c_true ?_ | refine c_false ?_ | (refine c_b (fun _ => ?_) (fun _ => ?_) <;> (first | (exfalso; omega) | contradiction | skip)) | refine wpC_ret ?_ | refine wpC_skip ?_ | refine wpC_label ?_) | (show Then _ _ _ _ _ _ _; first | refine then_normal ?_ | refine then_ret ?_) | (show RetP _ _ _ _ _ _ _ _; first | refine r_1 ?_))
  all_goals first | (exfalso; omega) | exact q_drop hK | trace_state
set_option maxHeartbeats 4000000 in
set_option maxRecDepth 100000 in
theorem rtally (e : World) {p : Nat → Bool} {n : Nat} {v : Value} {I F : Hp} {K : Value → Hp → Prop} (hv : InSl I 1 ((vts p n).map boC) v) (hn : n ≤ 5) (hK : K (.int .i64 ((cnt p n : Nat) : Int)) (I ++ F)) : callsK Tryz.prog e 48 #[v] (I ++ F) K := by
  have hl := vts_len p n
  refine calls_body (N := 18) (args := [v]) Tryz.func48 rfl rfl rfl (by simp) ?_
  repeat' ((fail_if_success (show wpC _ (.loop _) _ _ _ _)); first | (show wpO _ _ _ _ _ _ _; first | refine wpO_nil ?_ | (show wpO _ _ _ (⟨_, .binOp _ _ _ _ _, _, _, _, _⟩ :: _) _ _ _; first | refine s_tt ?_ | refine s_ff ?_ | refine s_rdp ?_ | ((first | refine s_cmp (fun _ => ?_) (fun _ => ?_) | refine s_cb (fun _ => ?_) (fun _ => ?_)) <;> (first | (exfalso; omega) | contradiction | skip))) | (show wpO _ _ _ (⟨_, .indexAddr _ _ _, _, _, _, _⟩ :: _) _ _ _; first | refine s_rdp ?_ | refine s_idx (fun _ _ _ _ _ _ _ => ?_)) | refine s_rdp ?_ | refine s_rdm ?_ | refine s_exq ?_ | refine s_exm ?_) | (show wpC _ _ _ _ _ _; first | refine wpC_seq ?_ | refine wpC_region ?_ | refine c_true ?_ | refine c_false ?_ | (refine c_b (fun _ => ?_) (fun _ => ?_) <;> (first | (exfalso; omega) | contradiction | skip)) | refine wpC_block ?_ | refine wpC_ret ?_ | refine wpC_skip ?_ | refine wpC_exit ?_ | refine wpC_label ?_) | (show Then _ _ _ _ _ _ _; first | refine then_normal ?_ | refine then_ret ?_ | refine then_exit ?_) | (show InBlock _ _ _ _ _ _; first | refine inBlock_normal ?_ | refine inBlock_ret ?_ | refine inBlock_same ?_ | refine b_other ?_) | (show LoopPost _ _ _ _ _ _; first | refine loop_ret ?_ | refine loop_exit ?_) | (show RetP _ _ _ _ _ _ _ _; first | refine r_1 ?_))
  refine wpC_loopA (κ := Nat) [3, 4, 5, 6, 7, 8, 9, 10, 11, 12, 13, 14, 15, 16] (fun k => [(3, .int .i64 ((cnt p k : Nat) : Int)), (4, .int .i64 (k : Int))]) (fun _ => I ++ F) (fun k => k ≤ n ∧ cnt p k ≤ k) (fun k => n - k) 0 ⟨Nat.zero_le _, Nat.le_refl _⟩ ⟨rfl, rfl, trivial⟩ q_drp ?_
  rintro k ρx ⟨hk, hck⟩
  by_cases hkl : k < n
  · have hat := vts_at (p := p) hkl
    cases hb : p k with
    | true =>
      rw [hb] at hat
      have hc : cnt p (k + 1) = cnt p k + 1 := by rw [cnt, hb]; rfl
      repeat' (first | (show wpO _ _ _ _ _ _ _; first | refine wpO_nil ?_ | (show wpO _ _ _ (⟨_, .binOp _ _ _ _ _, _, _, _, _⟩ :: _) _ _ _; first | refine s_tt ?_ | refine s_ff ?_ | refine s_rdp ?_ | ((first | refine s_cmp (fun _ => ?_) (fun _ => ?_) | refine s_cb (fun _ => ?_) (fun _ => ?_)) <;> (first | (exfalso; omega) | contradiction | skip))) | (show wpO _ _ _ (⟨_, .indexAddr _ _ _, _, _, _, _⟩ :: _) _ _ _; first | refine s_rdp ?_ | refine s_idx (fun _ _ _ _ _ _ _ => ?_)) | refine s_rdp ?_ | refine s_rdm ?_ | refine s_exq ?_ | refine s_exm ?_) | (show wpC _ _ _ _ _ _; first | refine wpC_seq ?_ | refine wpC_region ?_ | refine c_true ?_ | refine c_false ?_ | (refine c_b (fun _ => ?_) (fun _ => ?_) <;> (first | (exfalso; omega) | contradiction | skip)) | refine wpC_block ?_ | refine wpC_ret ?_ | refine wpC_skip ?_ | refine wpC_exit ?_ | refine wpC_label ?_) | (show Then _ _ _ _ _ _ _; first | refine then_normal ?_ | refine then_ret ?_ | refine then_exit ?_) | (show InBlock _ _ _ _ _ _; first | refine inBlock_normal ?_ | refine inBlock_ret ?_ | refine inBlock_same ?_ | refine b_other ?_) | (show LoopPost _ _ _ _ _ _; first | refine loop_ret ?_ | refine loop_exit ?_) | (show RetP _ _ _ _ _ _ _ _; first | refine r_1 ?_))
      all_goals first
        | (exfalso; omega)
        | (refine lp_end (k + 1) (by omega) ⟨by omega, by omega⟩ (h3 := ⟨?_, by exact rfl, trivial⟩)
           exact congrArg (fun x : Nat => Value.int .i64 (x : Int)) hc.symm)
        | trace_state
    | false =>
      rw [hb] at hat
      have hc : cnt p (k + 1) = cnt p k := by rw [cnt, hb]; rfl
      repeat' (first | (show wpO _ _ _ _ _ _ _; first | refine wpO_nil ?_ | (show wpO _ _ _ (⟨_, .binOp _ _ _ _ _, _, _, _, _⟩ :: _) _ _ _; first | refine s_tt ?_ | refine s_ff ?_ | refine s_rdp ?_ | ((first | refine s_cmp (fun _ => ?_) (fun _ => ?_) | refine s_cb (fun _ => ?_) (fun _ => ?_)) <;> (first | (exfalso; omega) | contradiction | skip))) | (show wpO _ _ _ (⟨_, .indexAddr _ _ _, _, _, _, _⟩ :: _) _ _ _; first | refine s_rdp ?_ | refine s_idx (fun _ _ _ _ _ _ _ => ?_)) | refine s_rdp ?_ | refine s_rdm ?_ | refine s_exq ?_ | refine s_exm ?_) | (show wpC _ _ _ _ _ _; first | refine wpC_seq ?_ | refine wpC_region ?_ | refine c_true ?_ | refine c_false ?_ | (refine c_b (fun _ => ?_) (fun _ => ?_) <;> (first | (exfalso; omega) | contradiction | skip)) | refine wpC_block ?_ | refine wpC_ret ?_ | refine wpC_skip ?_ | refine wpC_exit ?_ | refine wpC_label ?_) | (show Then _ _ _ _ _ _ _; first | refine then_normal ?_ | refine then_ret ?_ | refine then_exit ?_) | (show InBlock _ _ _ _ _ _; first | refine inBlock_normal ?_ | refine inBlock_ret ?_ | refine inBlock_same ?_ | refine b_other ?_) | (show LoopPost _ _ _ _ _ _; first | refine loop_ret ?_ | refine loop_exit ?_) | (show RetP _ _ _ _ _ _ _ _; first | refine r_1 ?_))
      all_goals first
        | (exfalso; omega)
        | (refine lp_end (k + 1) (by omega) ⟨by omega, by omega⟩ (h3 := ⟨?_, by exact rfl, trivial⟩)
           exact congrArg (fun x : Nat => Value.int .i64 (x : Int)) hc.symm)
        | trace_state
  · obtain rfl : k = n := by omega
    repeat' (first | (show wpO _ _ _ _ _ _ _; first | refine wpO_nil ?_ | (show wpO _ _ _ (⟨_, .binOp _ _ _ _ _, _, _, _, _⟩ :: _) _ _ _; first | refine s_tt ?_ | refine s_ff ?_ | refine s_rdp ?_ | ((first | refine s_cmp (fun _ => ?_) (fun _ => ?_) | refine s_cb (fun _ => ?_) (fun _ => ?_)) <;> (first | (exfalso; omega) | contradiction | skip))) | (show wpO _ _ _ (⟨_, .indexAddr _ _ _, _, _, _, _⟩ :: _) _ _ _; first | refine s_rdp ?_ | refine s_idx (fun _ _ _ _ _ _ _ => ?_)) | refine s_rdp ?_ | refine s_rdm ?_ | refine s_exq ?_ | refine s_exm ?_) | (show wpC _ _ _ _ _ _; first | refine wpC_seq ?_ | refine wpC_region ?_ | refine c_true ?_ | refine c_false ?_ | (refine c_b (fun _ => ?_) (fun _ => ?_) <;> (first | (exfalso; omega) | contradiction | skip)) | refine wpC_block ?_ | refine wpC_ret ?_ | refine wpC_skip ?_ | refine wpC_exit ?_ | refine wpC_label ?_) | (show Then _ _ _ _ _ _ _; first | refine then_normal ?_ | refine then_ret ?_ | refine then_exit ?_) | (show InBlock _ _ _ _ _ _; first | refine inBlock_normal ?_ | refine inBlock_ret ?_ | refine inBlock_same ?_ | refine b_other ?_) | (show LoopPost _ _ _ _ _ _; first | refine loop_ret ?_ | refine loop_exit ?_) | (show RetP _ _ _ _ _ _ _ _; first | refine r_1 ?_))
    all_goals first | (exfalso; omega) | exact q_drop hK | trace_state
end Go.Vl

namespace Go.Vl
open Go.Proofs Classical
/-- how the best of a slot is put into a list -/
def bestL (lc : List SlR) (y : SlR) (lc' : List SlR) : Prop :=
  (∃ k t, lc[k]? = some t ∧ t.slot = y.slot ∧ (∀ u ∈ lc.take k, u.slot ≠ y.slot) ∧ ((t.bal.lt y.bal ∧ lc' = lc.set k y) ∨ (¬ t.bal.lt y.bal ∧ lc' = lc))) ∨ ((∀ t ∈ lc, t.slot ≠ y.slot) ∧ lc' = lc ++ [y])
abbrev sOf (lc : List SlR) : List (Int × Sl) := lc.map fun s => (s.slot, s.c)
set_option maxHeartbeats 4000000 in
set_option maxRecDepth 100000 in
theorem best_step {lc lc' : List SlR} {y : SlR} (hn : ((sOf lc).map Prod.fst).Nodup) (h : bestL lc y lc') : sOf lc' = best1 (sOf lc) y.c := by
  rcases h with ⟨k, t, hk, hs, _, hc⟩ | ⟨hno, rfl⟩
  · have hkc : (sOf lc)[k]? = some (y.slot, t.c) := by rw [List.getElem?_map, hk]; exact congrArg (fun s => some (s, t.c)) hs
    have hg : aget (sOf lc) y.c.slot = some t.c := aget_of_mem hn (List.mem_of_getElem? hkc)
    unfold best1
    rw [hg]
    rcases hc with ⟨hl, rfl⟩ | ⟨hl, rfl⟩
    · simp only
      rw [if_pos (show t.c.bal.lt y.c.bal from hl), aput_set hn hkc]
      unfold sOf
      rw [List.map_set]
    · simp only
      rw [if_neg (show ¬ t.c.bal.lt y.c.bal from hl)]
  · have hg : aget (sOf lc) y.c.slot = none := by
      rw [aget_none]
      intro p hp
      obtain ⟨t, ht, rfl⟩ := List.mem_map.1 hp
      exact hno t ht
    unfold best1
    rw [hg]
    simp only
    rw [aput_new hg]
    unfold sOf
    rw [List.map_append]
    rfl
set_option maxHeartbeats 4000000 in
set_option maxRecDepth 100000 in
theorem bestL_mem {lc lc' : List SlR} {y : SlR} (h : bestL lc y lc') : ∀ s ∈ lc', s = y ∨ s ∈ lc := by
  intro s hs
  rcases h with ⟨k, t, _, _, _, ⟨_, rfl⟩ | ⟨_, rfl⟩⟩ | ⟨_, rfl⟩
  · exact (List.mem_or_eq_of_mem_set hs).symm
  · exact .inr hs
  · rcases List.mem_append.1 hs with hs | hs
    · exact .inr hs
    · exact .inl (List.mem_singleton.1 hs)
attribute [local irreducible] eqW eqV wpC wpO wpD Ex Rd callsK RetP Drop valK
set_option maxHeartbeats 4000000 in
set_option maxRecDepth 100000 in
theorem rclone_spec (e : World) {x : EnR} {P F : Hp} {K : Value → Hp → Prop} (hx : EnIn P x) (hz : EnSz x.c) (hK : ∀ y : EnR, y.c = x.c → ∀ Bo Bd, EnO y Bo Bd → K (.agg y.cells.toArray) ((Bo ++ Bd) ++ (P ++ F))) :
    callsK Tryz.prog e 39 #[.agg x.cells.toArray] (P ++ F) K := by
  have hxo := hx.o
  have hxd := hx.d
  have hno : SlO 40 8 (.slice none 0 0) 0 [] [] := SlO.nil 40 8
  have hzo := hz.o
  have hzd := hz.d
  refine calls_body (N := 14) (args := [.agg x.cells.toArray]) Tryz.func39 rfl rfl rfl (by simp) ?_
  repeat' ((fail_if_success (show wpC _ (.seq (.region 2 _ _) _) _ _ _ _)); first | (show wpO _ _ _ _ _ _ _; first | refine wpO_nil ?_ | refine s_rdp ?_ | refine s_rdm ?_ | refine s_exq ?_ | refine s_exm ?_) | (show Ex _ _ _ _ _; first | (show Ex _ ⟨_, .alloc _, _, _, _, _⟩ _ _ _; first | (refine e_allocA ?_; intro _) | (refine e_alloc1 ?_; intro _)) | (show Ex _ ⟨_, .box _ _, _, _, _, _⟩ _ _ _; first | (refine e_boxA ?_; intro _) | (refine e_box1 ?_; intro _)) | (show Ex _ ⟨_, .store _ _ _, _, _, _, _⟩ _ _ _; first | refine e_store1 ?_ | refine e_storeA ?_ | (refine e_storeO ?_; intro _ _)) | (show Ex _ ⟨_, .call ⟨.builtin .append, _, _⟩, _, _, _, _⟩ _ _ _; (first | refine e_append ?_ | refine e_appendIn ?_); intro _ _ _)) | (show wpC _ _ _ _ _ _; first | refine wpC_seq ?_ | refine wpC_region ?_ | refine wpC_ret ?_ | refine wpC_skip ?_ | refine wpC_label ?_) | (show Then _ _ _ _ _ _ _; first | refine then_normal ?_ | refine then_ret ?_) | (show RetP _ _ _ _ _ _ _ _; first | refine r_C1 ?_ | refine r_DC ?_))
  rename_i b1 b2 v1 B1 h1
  obtain ⟨a1, c1, hv1⟩ := SlO.val h1
  subst hv1
  have h1' := h1
  clear h1 hno
  have e1 : 0 + x.c.ops.length = x.c.ops.length := Nat.zero_add _
  simp only [Nat.zero_add, List.nil_append] at h1'
  have h1 : True ∧ SlO 40 8 (.slice a1 x.c.ops.length c1) x.c.ops.length (x.c.ops.map OpC.cells).flatten B1 := ⟨trivial, h1'⟩
  clear h1'
  have hnd : SlO 5 1 (.slice none 0 0) 0 [] [] := SlO.nil 5 1
  repeat' ((fail_if_success (show wpC _ (.seq (.region 3 _ _) _) _ _ _ _)); first | (show wpO _ _ _ _ _ _ _; first | refine wpO_nil ?_ | refine s_rdp ?_ | refine s_rdm ?_ | refine s_exq ?_ | refine s_exm ?_) | (show Ex _ _ _ _ _; first | (show Ex _ ⟨_, .alloc _, _, _, _, _⟩ _ _ _; first | (refine e_allocA ?_; intro _) | (refine e_alloc1 ?_; intro _)) | (show Ex _ ⟨_, .box _ _, _, _, _, _⟩ _ _ _; first | (refine e_boxA ?_; intro _) | (refine e_box1 ?_; intro _)) | (show Ex _ ⟨_, .store _ _ _, _, _, _, _⟩ _ _ _; first | refine e_store1 ?_ | refine e_storeA ?_ | (refine e_storeO ?_; intro _ _)) | (show Ex _ ⟨_, .call ⟨.builtin .append, _, _⟩, _, _, _, _⟩ _ _ _; (first | refine e_append ?_ | refine e_appendIn ?_); intro _ _ _)) | (show wpC _ _ _ _ _ _; first | refine wpC_seq ?_ | refine wpC_region ?_ | refine wpC_ret ?_ | refine wpC_skip ?_ | refine wpC_label ?_) | (show Then _ _ _ _ _ _ _; first | refine then_normal ?_ | refine then_ret ?_) | (show RetP _ _ _ _ _ _ _ _; first | refine r_C1 ?_ | refine r_DC ?_))
  rename_i v2 B2 h2
  obtain ⟨a2, c2, hv2⟩ := SlO.val h2
  subst hv2
  have e2 : 0 + x.c.data.length = x.c.data.length := Nat.zero_add _
  simp only [Nat.zero_add, List.nil_append] at h2
  repeat' (first | refine r_CA ?_ | (show wpO _ _ _ _ _ _ _; first | refine wpO_nil ?_ | refine s_rdp ?_ | refine s_rdm ?_ | refine s_exq ?_ | refine s_exm ?_) | (show Ex _ _ _ _ _; first | (show Ex _ ⟨_, .alloc _, _, _, _, _⟩ _ _ _; first | (refine e_allocA ?_; intro _) | (refine e_alloc1 ?_; intro _)) | (show Ex _ ⟨_, .box _ _, _, _, _, _⟩ _ _ _; first | (refine e_boxA ?_; intro _) | (refine e_box1 ?_; intro _)) | (show Ex _ ⟨_, .store _ _ _, _, _, _, _⟩ _ _ _; first | refine e_store1 ?_ | refine e_storeA ?_ | (refine e_storeO ?_; intro _ _)) | (show Ex _ ⟨_, .call ⟨.builtin .append, _, _⟩, _, _, _, _⟩ _ _ _; (first | refine e_append ?_ | refine e_appendIn ?_); intro _ _ _)) | (show wpC _ _ _ _ _ _; first | refine wpC_seq ?_ | refine wpC_region ?_ | refine wpC_ret ?_ | refine wpC_skip ?_ | refine wpC_label ?_) | (show Then _ _ _ _ _ _ _; first | refine then_normal ?_ | refine then_ret ?_) | (show RetP _ _ _ _ _ _ _ _; first | refine r_C1 ?_ | refine r_DC ?_))
  exact q_drop (hK ⟨x.c, a1, c1, a2, c2⟩ rfl B1 B2 ⟨h1.2, h2⟩)
set_option maxHeartbeats 4000000 in
set_option maxRecDepth 100000 in
theorem rnew (e : World) {b : Bal} {fr n : Int} {F : Hp} {K : Value → Hp → Prop} (h1 : ¬ newOK b fr n → K (.tuple #[.pointer none, .int .i64 1]) F) (h0 : newOK b fr n → ∀ (d : Nat) (r : RfR), r.ok (newA b fr n.toNat) → K (.tuple #[pv d, .int .i64 0]) (r.hp (newA b fr n.toNat) d ++ F)) :
    callsK Tryz.prog e 5 #[.agg b.cells.toArray, .int .i64 fr, .int .i64 n] F K := by
  by_cases hok : newOK b fr n
  · have h := h0 hok
    obtain ⟨k, rfl⟩ : ∃ k : Nat, n = (k : Int) := ⟨n.toNat, by have := hok.n1; omega⟩
    rw [Int.toNat_natCast] at h
    have hA := newA_ok (n := k) hok
    obtain ⟨a1, a2, a3, a4, a5, a6, a7, a8⟩ := hok
    refine calls_body (N := 51) (args := [.agg b.cells.toArray, .int .i64 fr, .int .i64 (k : Int)]) Tryz.func5 rfl rfl rfl (by simp) ?_
    repeat' (first | (show wpO _ _ _ _ _ _ _; first | refine wpO_nil ?_ | (show wpO _ _ _ (⟨_, .binOp _ _ _ _ _, _, _, _, _⟩ :: _) _ _ _; first | refine s_tt ?_ | refine s_ff ?_ | refine s_rdp ?_ | ((first | refine s_cmp (fun _ => ?_) (fun _ => ?_) | refine s_cb (fun _ => ?_) (fun _ => ?_)) <;> (first | (exfalso; omega) | contradiction | skip))) | (show wpO _ _ _ (⟨_, .pick _ _ _, _, _, _, _⟩ :: _) _ _ _; first | refine s_rdp ?_ | (refine s_p (fun _ => ?_) (fun _ => ?_) <;> (first | (exfalso; omega) | contradiction | skip))) | refine s_rdp ?_ | refine s_rdm ?_ | refine s_exq ?_ | refine s_exm ?_ | refine s_sks ?_ | refine s_skn ?_ | (refine s_g (fun _ => ?_) (fun _ => ?_) <;> (first | (exfalso; omega) | contradiction | skip))) | (show Ex _ _ _ _ _; first | (refine e_mk99 (n := k) (fun _ => ?_) (by exact rfl) (by omega)) | (show Ex _ ⟨_, .box _ _, _, _, _, _⟩ _ _ _; first | (refine e_boxA ?_; intro _) | (refine e_box1 ?_; intro _))) | (show wpC _ _ _ _ _ _; first | refine wpC_seq ?_ | refine wpC_region ?_ | refine c_true ?_ | refine c_false ?_ | (refine c_b (fun _ => ?_) (fun _ => ?_) <;> (first | (exfalso; omega) | contradiction | skip)) | refine wpC_ret ?_ | refine wpC_skip ?_ | refine wpC_label ?_ | (apply wpC_drawX (id := 3) ([]) [0, 1, 2, 3, 5, 4, 6, 7, 8, 9] rfl (by kernel_rfl); (case hpk => (repeat (first | exact Pcs.blk (by infer_instance) | exact Pcs.nil | (apply Pcs.cons; infer_instance) | apply Pcs.app))))) | (show Then _ _ _ _ _ _ _; first | refine then_normal ?_ | refine then_ret ?_) | (show wpD _ _ _ _ _ _ _ _; first | refine wpD_nil ?_ | refine d_rdp ?_ | refine d_rdm ?_ | refine d_sks ?_ | refine d_tt ?_ | refine d_ff ?_ | ((first | refine d_cmp (fun _ => ?_) (fun _ => ?_) | refine d_cb (fun _ => ?_) (fun _ => ?_)) <;> (first | (exfalso; omega) | contradiction | skip)) | refine d_exs ?_ | refine d_exn ?_ | ((first | refine d_p (fun _ => ?_) (fun _ => ?_) | refine d_g (fun _ => ?_) (fun _ => ?_)) <;> (first | (exfalso; omega) | contradiction | skip))) | (show (_ ∨ Subs _ _) ∧ _; first | refine d_sub ?_ | refine d_cov ?_) | (show RetP _ _ _ _ _ _ _ _; first | refine r_2 ?_) | assumption | intro _)
    all_goals first | (exfalso; omega) | skip
    rename_i g d
    have h := h d ⟨g, .slice none 0 0, [], [], .slice none 0 0, [], [], []⟩ ⟨SlO.nil 73 59, SlO.nil 97 58, rfl, rfl, fun x hx => (by cases hx), vn_no _, fun x hx => (by cases hx), fun x hx => (by cases hx), fun x hx => (by cases hx), hA⟩
    have h2 : K (.tuple #[pv d, .int .i64 0]) ([(d, cellsO (rfC b fr k g (.slice none 0 0) false fr (.slice none 0 0)) 69), (g, cellsO (List.replicate k [Value.bool false]).flatten 4)] ++ F) := by rw [rep_vts]; exact h
    exact q_drop h2
  · have h := h1 hok
    refine calls_body (N := 51) (args := [.agg b.cells.toArray, .int .i64 fr, .int .i64 n]) Tryz.func5 rfl rfl rfl (by simp) ?_
    repeat' ((fail_if_success (show wpC _ (.seq (.region 3 _ _) _) _ _ _ _)); first | (show wpO _ _ _ _ _ _ _; first | refine wpO_nil ?_ | (show wpO _ _ _ (⟨_, .binOp _ _ _ _ _, _, _, _, _⟩ :: _) _ _ _; first | refine s_tt ?_ | refine s_ff ?_ | refine s_rdp ?_ | ((first | refine s_cmp (fun _ => ?_) (fun _ => ?_) | refine s_cb (fun _ => ?_) (fun _ => ?_)) <;> (first | (exfalso; omega) | contradiction | skip))) | (show wpO _ _ _ (⟨_, .pick _ _ _, _, _, _, _⟩ :: _) _ _ _; first | refine s_rdp ?_ | (refine s_p (fun _ => ?_) (fun _ => ?_) <;> (first | (exfalso; omega) | contradiction | skip))) | refine s_rdp ?_ | refine s_rdm ?_ | refine s_exq ?_ | refine s_exm ?_ | refine s_sks ?_ | refine s_skn ?_ | (refine s_g (fun _ => ?_) (fun _ => ?_) <;> (first | (exfalso; omega) | contradiction | skip))) | (show Ex _ _ _ _ _; first | (show Ex _ ⟨_, .box _ _, _, _, _, _⟩ _ _ _; first | (refine e_boxA ?_; intro _) | (refine e_box1 ?_; intro _))) | (show wpC _ _ _ _ _ _; first | refine wpC_seq ?_ | refine wpC_region ?_ | refine c_true ?_ | refine c_false ?_ | (refine c_b (fun _ => ?_) (fun _ => ?_) <;> (first | (exfalso; omega) | contradiction | skip)) | refine wpC_ret ?_ | refine wpC_skip ?_ | refine wpC_label ?_ | (apply wpC_drawX (id := 3) ([]) [0, 1, 2, 3, 5, 4, 6, 7, 8, 9] rfl (by kernel_rfl); (case hpk => (repeat (first | exact Pcs.blk (by infer_instance) | exact Pcs.nil | (apply Pcs.cons; infer_instance) | apply Pcs.app))))) | (show Then _ _ _ _ _ _ _; first | refine then_normal ?_ | refine then_ret ?_) | (show wpD _ _ _ _ _ _ _ _; first | refine wpD_nil ?_ | refine d_rdp ?_ | refine d_rdm ?_ | refine d_sks ?_ | refine d_tt ?_ | refine d_ff ?_ | ((first | refine d_cmp (fun _ => ?_) (fun _ => ?_) | refine d_cb (fun _ => ?_) (fun _ => ?_)) <;> (first | (exfalso; omega) | contradiction | skip)) | refine d_exs ?_ | refine d_exn ?_ | ((first | refine d_p (fun _ => ?_) (fun _ => ?_) | refine d_g (fun _ => ?_) (fun _ => ?_)) <;> (first | (exfalso; omega) | contradiction | skip))) | (show (_ ∨ Subs _ _) ∧ _; first | refine d_sub ?_ | refine d_cov ?_) | (show RetP _ _ _ _ _ _ _ _; first | refine r_2 ?_))
    all_goals first
      | exact q_drop h
      | (exfalso; exact hok (by constructor <;> omega))
      | trace_state
set_option maxHeartbeats 4000000 in
set_option maxRecDepth 100000 in
theorem rbest (e : World) {x : SlR} {v : Value} {lc : List SlR} {Cb P F : Hp} {K : Value → Hp → Prop} (hS : SlO 73 59 v lc.length (lc.map SlR.cells).flatten Cb) (hx : EnIn P x.en) (hz : EnSz x.en.c) (hlen : lc.length * 528 + 528 ≤ 140737488355328)
    (hK : ∀ (y : SlR) v' lc' Cb', y.c = x.c → y.ok → SlO 73 59 v' lc'.length (lc'.map SlR.cells).flatten Cb' → bestL lc y lc' → K v' ((Cb' ++ y.hp) ++ (P ++ F))) :
    callsK Tryz.prog e 47 #[v, slV x] (Cb ++ (P ++ F)) K := by
  have hml : (lc.map SlR.cells).length = lc.length := List.length_map _
  refine calls_body (N := 41) (args := [v, slV x]) Tryz.func47 rfl rfl rfl (by simp) ?_
  repeat' ((fail_if_success (show wpC _ (.loop _) _ _ _ _)); first | (show wpO _ _ _ _ _ _ _; first | refine wpO_nil ?_ | (show wpO _ _ _ (⟨_, .binOp _ _ _ _ _, _, _, _, _⟩ :: _) _ _ _; first | refine s_tt ?_ | refine s_ff ?_ | refine s_rdp ?_ | ((first | refine s_cmp (fun _ => ?_) (fun _ => ?_) | refine s_cb (fun _ => ?_) (fun _ => ?_)) <;> (first | (exfalso; omega) | contradiction | skip))) | (show wpO _ _ _ (⟨_, .indexAddr _ _ _, _, _, _, _⟩ :: _) _ _ _; first | refine s_rdp ?_ | refine s_idx (fun _ _ _ _ _ _ _ => ?_)) | refine s_rdp ?_ | refine s_rdm ?_ | refine s_exq ?_ | refine s_exm ?_) | (show Ex _ _ _ _ _; first | (show Ex _ ⟨_, .call ⟨.value (.func _), _, _⟩, _, _, _, _⟩ _ _ _; refine e_call ?_; first | (apply p_pcs; apply rclone_spec _ hx hz; (try case hS => assumption); (case hpcs => (repeat (first | exact Pcs.blk (by infer_instance) | exact Pcs.nil | (apply Pcs.cons; infer_instance) | apply Pcs.app))))) | (show Ex _ ⟨_, .box _ _, _, _, _, _⟩ _ _ _; first | (refine e_boxA ?_; intro _) | (refine e_box1 ?_; intro _)) | (show Ex _ ⟨_, .store _ _ _, _, _, _, _⟩ _ _ _; first | refine e_store1 ?_ | refine e_storeA ?_ | (refine e_storeO ?_; intro _ _)) | (show Ex _ ⟨_, .buildSlice _ _ _, _, _, _, _⟩ _ _ _; first | (refine e_buildSlice ?_; intro _) | (refine e_buildNil ?_; intro _ _ _)) | (show Ex _ ⟨_, .call ⟨.builtin .append, _, _⟩, _, _, _, _⟩ _ _ _; (first | refine e_append ?_ | refine e_appendIn ?_); intro _ _ _)) | (show wpC _ _ _ _ _ _; first | refine wpC_seq ?_ | refine wpC_region ?_ | refine c_true ?_ | refine c_false ?_ | (refine c_b (fun _ => ?_) (fun _ => ?_) <;> (first | (exfalso; omega) | contradiction | skip)) | refine wpC_block ?_ | refine wpC_ret ?_ | refine wpC_skip ?_ | refine wpC_exit ?_ | refine wpC_label ?_ | ((first | apply wpC_drawX (id := 5) ([]) [0, 1, 2, 3, 4, 5, 6, 7] rfl (by kernel_rfl) | apply wpC_drawX (id := 6) ([]) [0, 1, 2, 3, 4, 5, 6, 7] rfl (by kernel_rfl)); (case hpk => (repeat (first | exact Pcs.blk (by infer_instance) | exact Pcs.nil | (apply Pcs.cons; infer_instance) | apply Pcs.app))))) | (show Then _ _ _ _ _ _ _; first | refine then_normal ?_ | refine then_ret ?_ | refine then_exit ?_) | (show InBlock _ _ _ _ _ _; first | refine inBlock_normal ?_ | refine inBlock_ret ?_ | refine inBlock_same ?_ | refine b_other ?_) | (show LoopPost _ _ _ _ _ _; first | refine loop_ret ?_ | refine loop_exit ?_) | (show wpD _ _ _ _ _ _ _ _; first | refine wpD_nil ?_ | refine d_rdp ?_ | refine d_rdm ?_ | refine d_tt ?_ | refine d_ff ?_ | ((first | refine d_cmp (fun _ => ?_) (fun _ => ?_) | refine d_cb (fun _ => ?_) (fun _ => ?_)) <;> (first | (exfalso; omega) | contradiction | skip)) | refine d_idx (fun _ _ _ _ _ _ _ => ?_) | refine d_exs ?_ | refine d_exn ?_) | (show (_ ∨ Subs _ _) ∧ _; first | refine d_sub ?_ | refine d_cov ?_) | (show RetP _ _ _ _ _ _ _ _; first | refine r_1 ?_) | assumption | intro _)
  rename_i b3 y hyc Bo Bd hO
  have hin := slInn hS
  have hK := hK ⟨x.slot, x.bal, y, Bo, Bd⟩
  have hyc2 : (SlR.mk x.slot x.bal y Bo Bd).c = x.c := by show Sl.mk _ _ _ = Sl.mk _ _ _; rw [hyc]
  refine wpC_loopA (κ := Nat) [4, 5, 10, 11, 12, 13, 14, 15, 16, 17, 18, 19, 20, 21, 22, 23, 24, 25, 26, 27, 28, 29, 30, 31, 32, 33, 34, 35, 36] (fun k => [(5, .int .i64 (k : Int))]) (fun _ => (Cb ++ [(b3, cellsO (SlR.mk x.slot x.bal y Bo Bd).cells 73)]) ++ ((Bo ++ Bd) ++ (P ++ F))) (fun k => k ≤ lc.length ∧ ∀ t ∈ lc.take k, t.slot ≠ x.slot) (fun k => lc.length - k) 0 ⟨Nat.zero_le _, by simp⟩ ⟨rfl, trivial⟩ q_drp ?_
  rintro k ρx ⟨hk, hno⟩
  cases hr : lc[k]? with
  | some t =>
    have hkl := (List.getElem?_eq_some_iff.1 hr).1
    by_cases hts : t.slot = x.slot
    · by_cases hlt : t.bal.lt x.bal
      · have hrc : (lc.map SlR.cells)[k]? = some t.cells := by rw [List.getElem?_map, hr]; rfl
        rcases hS.2 with ⟨a, rfl, hn, rfl⟩ | ⟨g, cap, cur, rfl, rfl, hnc, hcm, hcs, ht⟩
        · omega
        · have hra : RowAt cur (0 + k * 59) 59 t.cells := by
            refine ⟨rfl, fun j w hj => ?_⟩
            have h9 := flat_get (n := 59) (fun r hr => by obtain ⟨x, _, rfl⟩ := List.mem_map.1 hr; rfl) hrc j w hj
            rw [← ht] at h9
            have := take_some h9
            simpa using this
          repeat' (first | (show wpO _ _ _ _ _ _ _; first | refine wpO_nil ?_ | (show wpO _ _ _ (⟨_, .binOp _ _ _ _ _, _, _, _, _⟩ :: _) _ _ _; first | refine s_tt ?_ | refine s_ff ?_ | refine s_rdp ?_ | ((first | refine s_cmp (fun _ => ?_) (fun _ => ?_) | refine s_cb (fun _ => ?_) (fun _ => ?_)) <;> (first | (exfalso; omega) | contradiction | skip))) | (show wpO _ _ _ (⟨_, .indexAddr _ _ _, _, _, _, _⟩ :: _) _ _ _; first | refine s_rdp ?_ | refine s_idx (fun _ _ _ _ _ _ _ => ?_)) | refine s_rdp ?_ | refine s_rdm ?_ | refine s_exq ?_ | refine s_exm ?_) | (show Ex _ _ _ _ _; first | (refine e_storeRowR (rows := lc.map SlR.cells) (r := (SlR.mk x.slot x.bal y Bo Bd).cells) (i := k) (sz := 59) ?_ rfl rfl rfl rfl hS rfl (fun r hr => by obtain ⟨x, _, rfl⟩ := List.mem_map.1 hr; rfl) hml hkl (by infer_instance)) | (show Ex _ ⟨_, .call ⟨.value (.func _), _, _⟩, _, _, _, _⟩ _ _ _; refine e_call ?_; first | (apply rless8 _ (a := t.bal) (b := x.bal))) | (show Ex _ ⟨_, .box _ _, _, _, _, _⟩ _ _ _; first | (refine e_boxA ?_; intro _) | (refine e_box1 ?_; intro _)) | (show Ex _ ⟨_, .store _ _ _, _, _, _, _⟩ _ _ _; first | refine e_store1 ?_ | refine e_storeA ?_ | (refine e_storeO ?_; intro _ _)) | (show Ex _ ⟨_, .buildSlice _ _ _, _, _, _, _⟩ _ _ _; first | (refine e_buildSlice ?_; intro _) | (refine e_buildNil ?_; intro _ _ _)) | (show Ex _ ⟨_, .call ⟨.builtin .append, _, _⟩, _, _, _, _⟩ _ _ _; (first | refine e_append ?_ | refine e_appendIn ?_); intro _ _ _)) | (show wpC _ _ _ _ _ _; first | refine wpC_seq ?_ | refine wpC_region ?_ | refine c_true ?_ | refine c_false ?_ | (refine c_b (fun _ => ?_) (fun _ => ?_) <;> (first | (exfalso; omega) | contradiction | skip)) | refine wpC_block ?_ | refine wpC_ret ?_ | refine wpC_skip ?_ | refine wpC_exit ?_ | refine wpC_label ?_ | ((first | apply wpC_drawX (id := 5) ([]) [0, 1, 2, 3, 4, 5, 6, 7] rfl (by kernel_rfl) | apply wpC_drawX (id := 6) ([]) [0, 1, 2, 3, 4, 5, 6, 7] rfl (by kernel_rfl)); (case hpk => (repeat (first | exact Pcs.blk (by infer_instance) | exact Pcs.nil | (apply Pcs.cons; infer_instance) | apply Pcs.app))))) | (show Then _ _ _ _ _ _ _; first | refine then_normal ?_ | refine then_ret ?_ | refine then_exit ?_) | (show InBlock _ _ _ _ _ _; first | refine inBlock_normal ?_ | refine inBlock_ret ?_ | refine inBlock_same ?_ | refine b_other ?_) | (show LoopPost _ _ _ _ _ _; first | refine loop_ret ?_ | refine loop_exit ?_) | (show wpD _ _ _ _ _ _ _ _; first | refine wpD_nil ?_ | refine d_rdp ?_ | refine d_rdm ?_ | refine d_tt ?_ | refine d_ff ?_ | ((first | refine d_cmp (fun _ => ?_) (fun _ => ?_) | refine d_cb (fun _ => ?_) (fun _ => ?_)) <;> (first | (exfalso; omega) | contradiction | skip)) | refine d_idx (fun _ _ _ _ _ _ _ => ?_) | refine d_exs ?_ | refine d_exn ?_) | (show (_ ∨ Subs _ _) ∧ _; first | refine d_sub ?_ | refine d_cov ?_) | (show RetP _ _ _ _ _ _ _ _; first | refine r_1 ?_) | assumption | intro _)
          all_goals first | (exfalso; omega) | (exfalso; contradiction) | skip
          rename_i cur' hS'
          have hmap : (lc.map SlR.cells).set k (SlR.mk x.slot x.bal y Bo Bd).cells = (lc.set k ⟨x.slot, x.bal, y, Bo, Bd⟩).map SlR.cells := by rw [List.map_set]
          rw [hmap] at hS'
          exact q_drop (hK _ _ _ hyc2 hO (hS'.cast (by simp) rfl) (.inl ⟨k, t, hr, hts, hno, .inl ⟨hlt, rfl⟩⟩))
      · repeat' (first | (show wpO _ _ _ _ _ _ _; first | refine wpO_nil ?_ | (show wpO _ _ _ (⟨_, .binOp _ _ _ _ _, _, _, _, _⟩ :: _) _ _ _; first | refine s_tt ?_ | refine s_ff ?_ | refine s_rdp ?_ | ((first | refine s_cmp (fun _ => ?_) (fun _ => ?_) | refine s_cb (fun _ => ?_) (fun _ => ?_)) <;> (first | (exfalso; omega) | contradiction | skip))) | (show wpO _ _ _ (⟨_, .indexAddr _ _ _, _, _, _, _⟩ :: _) _ _ _; first | refine s_rdp ?_ | refine s_idx (fun _ _ _ _ _ _ _ => ?_)) | refine s_rdp ?_ | refine s_rdm ?_ | refine s_exq ?_ | refine s_exm ?_) | (show Ex _ _ _ _ _; first | (show Ex _ ⟨_, .call ⟨.value (.func _), _, _⟩, _, _, _, _⟩ _ _ _; refine e_call ?_; first | (apply rless8 _ (a := t.bal) (b := x.bal))) | (show Ex _ ⟨_, .box _ _, _, _, _, _⟩ _ _ _; first | (refine e_boxA ?_; intro _) | (refine e_box1 ?_; intro _)) | (show Ex _ ⟨_, .store _ _ _, _, _, _, _⟩ _ _ _; first | refine e_store1 ?_ | refine e_storeA ?_ | (refine e_storeO ?_; intro _ _)) | (show Ex _ ⟨_, .buildSlice _ _ _, _, _, _, _⟩ _ _ _; first | (refine e_buildSlice ?_; intro _) | (refine e_buildNil ?_; intro _ _ _)) | (show Ex _ ⟨_, .call ⟨.builtin .append, _, _⟩, _, _, _, _⟩ _ _ _; (first | refine e_append ?_ | refine e_appendIn ?_); intro _ _ _)) | (show wpC _ _ _ _ _ _; first | refine wpC_seq ?_ | refine wpC_region ?_ | refine c_true ?_ | refine c_false ?_ | (refine c_b (fun _ => ?_) (fun _ => ?_) <;> (first | (exfalso; omega) | contradiction | skip)) | refine wpC_block ?_ | refine wpC_ret ?_ | refine wpC_skip ?_ | refine wpC_exit ?_ | refine wpC_label ?_ | ((first | apply wpC_drawX (id := 5) ([]) [0, 1, 2, 3, 4, 5, 6, 7] rfl (by kernel_rfl) | apply wpC_drawX (id := 6) ([]) [0, 1, 2, 3, 4, 5, 6, 7] rfl (by kernel_rfl)); (case hpk => (repeat (first | exact Pcs.blk (by infer_instance) | exact Pcs.nil | (apply Pcs.cons; infer_instance) | apply Pcs.app))))) | (show Then _ _ _ _ _ _ _; first | refine then_normal ?_ | refine then_ret ?_ | refine then_exit ?_) | (show InBlock _ _ _ _ _ _; first | refine inBlock_normal ?_ | refine inBlock_ret ?_ | refine inBlock_same ?_ | refine b_other ?_) | (show LoopPost _ _ _ _ _ _; first | refine loop_ret ?_ | refine loop_exit ?_) | (show wpD _ _ _ _ _ _ _ _; first | refine wpD_nil ?_ | refine d_rdp ?_ | refine d_rdm ?_ | refine d_tt ?_ | refine d_ff ?_ | ((first | refine d_cmp (fun _ => ?_) (fun _ => ?_) | refine d_cb (fun _ => ?_) (fun _ => ?_)) <;> (first | (exfalso; omega) | contradiction | skip)) | refine d_idx (fun _ _ _ _ _ _ _ => ?_) | refine d_exs ?_ | refine d_exn ?_) | (show (_ ∨ Subs _ _) ∧ _; first | refine d_sub ?_ | refine d_cov ?_) | (show RetP _ _ _ _ _ _ _ _; first | refine r_1 ?_) | assumption | intro _)
        all_goals first | (exfalso; omega) | (exfalso; contradiction) | exact q_drop (hK _ _ _ hyc2 hO hS (.inl ⟨k, t, hr, hts, hno, .inr ⟨hlt, rfl⟩⟩)) | trace_state
    · repeat' (first | (show wpO _ _ _ _ _ _ _; first | refine wpO_nil ?_ | (show wpO _ _ _ (⟨_, .binOp _ _ _ _ _, _, _, _, _⟩ :: _) _ _ _; first | refine s_tt ?_ | refine s_ff ?_ | refine s_rdp ?_ | ((first | refine s_cmp (fun _ => ?_) (fun _ => ?_) | refine s_cb (fun _ => ?_) (fun _ => ?_)) <;> (first | (exfalso; omega) | contradiction | skip))) | (show wpO _ _ _ (⟨_, .indexAddr _ _ _, _, _, _, _⟩ :: _) _ _ _; first | refine s_rdp ?_ | refine s_idx (fun _ _ _ _ _ _ _ => ?_)) | refine s_rdp ?_ | refine s_rdm ?_ | refine s_exq ?_ | refine s_exm ?_) | (show Ex _ _ _ _ _; first | (show Ex _ ⟨_, .box _ _, _, _, _, _⟩ _ _ _; first | (refine e_boxA ?_; intro _) | (refine e_box1 ?_; intro _)) | (show Ex _ ⟨_, .store _ _ _, _, _, _, _⟩ _ _ _; first | refine e_store1 ?_ | refine e_storeA ?_ | (refine e_storeO ?_; intro _ _)) | (show Ex _ ⟨_, .buildSlice _ _ _, _, _, _, _⟩ _ _ _; first | (refine e_buildSlice ?_; intro _) | (refine e_buildNil ?_; intro _ _ _)) | (show Ex _ ⟨_, .call ⟨.builtin .append, _, _⟩, _, _, _, _⟩ _ _ _; (first | refine e_append ?_ | refine e_appendIn ?_); intro _ _ _)) | (show wpC _ _ _ _ _ _; first | refine wpC_seq ?_ | refine wpC_region ?_ | refine c_true ?_ | refine c_false ?_ | (refine c_b (fun _ => ?_) (fun _ => ?_) <;> (first | (exfalso; omega) | contradiction | skip)) | refine wpC_block ?_ | refine wpC_ret ?_ | refine wpC_skip ?_ | refine wpC_exit ?_ | refine wpC_label ?_ | ((first | apply wpC_drawX (id := 5) ([]) [0, 1, 2, 3, 4, 5, 6, 7] rfl (by kernel_rfl) | apply wpC_drawX (id := 6) ([]) [0, 1, 2, 3, 4, 5, 6, 7] rfl (by kernel_rfl)); (case hpk => (repeat (first | exact Pcs.blk (by infer_instance) | exact Pcs.nil | (apply Pcs.cons; infer_instance) | apply Pcs.app))))) | (show Then _ _ _ _ _ _ _; first | refine then_normal ?_ | refine then_ret ?_ | refine then_exit ?_) | (show InBlock _ _ _ _ _ _; first | refine inBlock_normal ?_ | refine inBlock_ret ?_ | refine inBlock_same ?_ | refine b_other ?_) | (show LoopPost _ _ _ _ _ _; first | refine loop_ret ?_ | refine loop_exit ?_) | (show wpD _ _ _ _ _ _ _ _; first | refine wpD_nil ?_ | refine d_rdp ?_ | refine d_rdm ?_ | refine d_tt ?_ | refine d_ff ?_ | ((first | refine d_cmp (fun _ => ?_) (fun _ => ?_) | refine d_cb (fun _ => ?_) (fun _ => ?_)) <;> (first | (exfalso; omega) | contradiction | skip)) | refine d_idx (fun _ _ _ _ _ _ _ => ?_) | refine d_exs ?_ | refine d_exn ?_) | (show (_ ∨ Subs _ _) ∧ _; first | refine d_sub ?_ | refine d_cov ?_) | (show RetP _ _ _ _ _ _ _ _; first | refine r_1 ?_))
      all_goals first
        | (exfalso; omega)
        | (refine lp_end (k + 1) (by omega) ⟨hkl, fun u hu => ?_⟩
           rw [List.take_add_one, hr] at hu
           rcases List.mem_append.1 hu with hu | hu
           · exact hno u hu
           · rw [List.mem_singleton.1 hu]; exact hts)
        | trace_state
  | none =>
    have hge : lc.length ≤ k := List.getElem?_eq_none_iff.1 hr
    rw [List.take_of_length_le hge] at hno
    repeat' (first | (show wpO _ _ _ _ _ _ _; first | refine wpO_nil ?_ | (show wpO _ _ _ (⟨_, .binOp _ _ _ _ _, _, _, _, _⟩ :: _) _ _ _; first | refine s_tt ?_ | refine s_ff ?_ | refine s_rdp ?_ | ((first | refine s_cmp (fun _ => ?_) (fun _ => ?_) | refine s_cb (fun _ => ?_) (fun _ => ?_)) <;> (first | (exfalso; omega) | contradiction | skip))) | (show wpO _ _ _ (⟨_, .indexAddr _ _ _, _, _, _, _⟩ :: _) _ _ _; first | refine s_rdp ?_ | refine s_idx (fun _ _ _ _ _ _ _ => ?_)) | refine s_rdp ?_ | refine s_rdm ?_ | refine s_exq ?_ | refine s_exm ?_) | (show Ex _ _ _ _ _; first | (refine e_append (news := (SlR.mk x.slot x.bal y Bo Bd).cells) ?_; intro _ _ _) | (show Ex _ ⟨_, .box _ _, _, _, _, _⟩ _ _ _; first | (refine e_boxA ?_; intro _) | (refine e_box1 ?_; intro _)) | (show Ex _ ⟨_, .store _ _ _, _, _, _, _⟩ _ _ _; first | refine e_store1 ?_ | refine e_storeA ?_ | (refine e_storeO ?_; intro _ _)) | (show Ex _ ⟨_, .buildSlice _ _ _, _, _, _, _⟩ _ _ _; first | (refine e_buildSlice ?_; intro _) | (refine e_buildNil ?_; intro _ _ _)) | (show Ex _ ⟨_, .call ⟨.builtin .append, _, _⟩, _, _, _, _⟩ _ _ _; (first | refine e_append ?_ | refine e_appendIn ?_); intro _ _ _)) | (show wpC _ _ _ _ _ _; first | refine wpC_seq ?_ | refine wpC_region ?_ | refine c_true ?_ | refine c_false ?_ | (refine c_b (fun _ => ?_) (fun _ => ?_) <;> (first | (exfalso; omega) | contradiction | skip)) | refine wpC_block ?_ | refine wpC_ret ?_ | refine wpC_skip ?_ | refine wpC_exit ?_ | refine wpC_label ?_ | ((first | apply wpC_drawX (id := 5) ([]) [0, 1, 2, 3, 4, 5, 6, 7] rfl (by kernel_rfl) | apply wpC_drawX (id := 6) ([]) [0, 1, 2, 3, 4, 5, 6, 7] rfl (by kernel_rfl)); (case hpk => (repeat (first | exact Pcs.blk (by infer_instance) | exact Pcs.nil | (apply Pcs.cons; infer_instance) | apply Pcs.app))))) | (show Then _ _ _ _ _ _ _; first | refine then_normal ?_ | refine then_ret ?_ | refine then_exit ?_) | (show InBlock _ _ _ _ _ _; first | refine inBlock_normal ?_ | refine inBlock_ret ?_ | refine inBlock_same ?_ | refine b_other ?_) | (show LoopPost _ _ _ _ _ _; first | refine loop_ret ?_ | refine loop_exit ?_) | (show wpD _ _ _ _ _ _ _ _; first | refine wpD_nil ?_ | refine d_rdp ?_ | refine d_rdm ?_ | refine d_tt ?_ | refine d_ff ?_ | ((first | refine d_cmp (fun _ => ?_) (fun _ => ?_) | refine d_cb (fun _ => ?_) (fun _ => ?_)) <;> (first | (exfalso; omega) | contradiction | skip)) | refine d_idx (fun _ _ _ _ _ _ _ => ?_) | refine d_exs ?_ | refine d_exn ?_) | (show (_ ∨ Subs _ _) ∧ _; first | refine d_sub ?_ | refine d_cov ?_) | (show RetP _ _ _ _ _ _ _ _; first | refine r_1 ?_) | assumption | intro _)
    all_goals first | (exfalso; omega) | skip
    rename_i bx v' Bs' hv'
    exact q_drop (hK v' (lc ++ [⟨x.slot, x.bal, y, Bo, Bd⟩]) Bs' hyc2 hO (hv'.cast (by simp) (by simp)) (.inr ⟨hno, rfl⟩))
end Go.Vl
