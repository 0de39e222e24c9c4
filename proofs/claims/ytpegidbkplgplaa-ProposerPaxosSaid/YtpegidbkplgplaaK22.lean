/-
  Steps of the proof: HH, JA, HX, JB, JC.
-/
import Derived.Test.YtpegidbkplgplaaK20
import Derived.Test.YtpegidbkplgplaaK21
import Derived.Test.YtpegidbkplgplaaK19
namespace Go.Vl
open Go.Proofs Classical
abbrev boC (b : Bool) : List Value := [.bool b]
/-- the first n votes -/
def vts (p : Nat → Bool) (n : Nat) : List Bool := (List.range n).map p
set_option maxHeartbeats 4000000 in
set_option maxRecDepth 100000 in
theorem vts_len (p : Nat → Bool) (n : Nat) : (vts p n).length = n := by unfold vts; simp
set_option maxHeartbeats 4000000 in
set_option maxRecDepth 100000 in
theorem vts_at {p : Nat → Bool} {n k : Nat} (h : k < n) : (vts p n)[k]? = some (p k) := by unfold vts; simp [h]
set_option maxHeartbeats 4000000 in
set_option maxRecDepth 100000 in
theorem vts_set {p : Nat → Bool} {n k : Nat} : (vts p n).set k true = vts (setv p k) n := by
  refine List.ext_getElem? fun j => ?_
  rw [List.getElem?_set, vts_len]
  by_cases hj : j < n
  · rw [vts_at hj, vts_at hj]
    by_cases hk : k = j
    · subst hk; rw [if_pos rfl, if_pos hj, setv_same]
    · rw [if_neg hk, setv_ne (fun h => hk h.symm)]
  · by_cases hk : k = j
    · subst hk; rw [if_pos rfl, if_neg hj, List.getElem?_eq_none (by rw [vts_len]; omega)]
    · rw [if_neg hk, List.getElem?_eq_none (by rw [vts_len]; omega), List.getElem?_eq_none (by rw [vts_len]; omega)]
set_option maxHeartbeats 4000000 in
set_option maxRecDepth 100000 in
theorem vts_0 (n : Nat) : List.replicate n false = vts noV n := by
  unfold vts
  exact List.ext_getElem? fun j => by
    by_cases hj : j < n
    · simp [hj]
    · simp [hj]
set_option maxHeartbeats 4000000 in
set_option maxRecDepth 100000 in
theorem rep_vts (n : Nat) : (List.replicate n [Value.bool false]).flatten = ((vts noV n).map boC).flatten := by rw [← vts_0, List.map_replicate]
/-- beyond n nobody has done anything -/
def Vn (n : Nat) (v : Nat → Bool) : Prop := ∀ j, n ≤ j → v j = false
set_option maxHeartbeats 4000000 in
set_option maxRecDepth 100000 in
theorem Vn.set {n k : Nat} {v : Nat → Bool} (h : Vn n v) (hk : k < n) : Vn n (setv v k) := fun j hj => by rw [setv_ne (by omega)]; exact h j hj
set_option maxHeartbeats 4000000 in
set_option maxRecDepth 100000 in
theorem vn_no (n : Nat) : Vn n noV := fun _ _ => rfl
set_option maxHeartbeats 4000000 in
set_option maxRecDepth 100000 in
theorem cnt_5 {n : Nat} {v : Nat → Bool} (h : Vn n v) (hn : n ≤ 5) : cnt v n = cnt5 v := by
  have h1 : ∀ b : Bool, (if b = true then 1 else 0) = b.toNat := fun b => by cases b <;> rfl
  unfold cnt5
  rcases (by omega : n = 0 ∨ n = 1 ∨ n = 2 ∨ n = 3 ∨ n = 4 ∨ n = 5) with rfl | rfl | rfl | rfl | rfl | rfl <;> simp only [cnt, h1]
  · rw [h 0 (by omega), h 1 (by omega), h 2 (by omega), h 3 (by omega), h 4 (by omega)]; rfl
  · rw [h 1 (by omega), h 2 (by omega), h 3 (by omega), h 4 (by omega)]; simp
  · rw [h 2 (by omega), h 3 (by omega), h 4 (by omega)]; simp
  · rw [h 3 (by omega), h 4 (by omega)]; simp
  · rw [h 4 (by omega)]; simp
  · simp
/-- a slot of the plain text -/
structure RsR where
  slot : Int
  en : EnR
  v : Nat → Bool
  n : Nat
  g : Nat
abbrev RsR.cells (x : RsR) : List Value := [.int .i64 x.slot, .int .i64 x.en.c.kind, .int .i64 x.en.c.ses, .int .i64 x.en.c.req,
  .int .i64 x.en.c.op.time, .int .i64 x.en.c.op.site, .int .i64 x.en.c.op.kind, .int .i64 x.en.c.op.node, .int .i64 x.en.c.op.parent, .string x.en.c.op.name, .string x.en.c.op.key, .string x.en.c.op.val,
  .int .i64 x.en.c.origin, .int .i64 x.en.c.seq, x.en.vo,
  .int .i64 x.en.c.num, .int .i64 (x.en.c.st 0), .int .i64 (x.en.c.st 1), .int .i64 (x.en.c.st 2), .int .i64 (x.en.c.st 3), .int .i64 (x.en.c.st 4), .int .i64 (x.en.c.st 5), .int .i64 (x.en.c.st 6), .int .i64 (x.en.c.st 7),
  .int .i64 (x.en.c.sea 0), .int .i64 (x.en.c.sea 1), .int .i64 (x.en.c.sea 2), .int .i64 (x.en.c.sea 3), .int .i64 (x.en.c.sea 4), .int .i64 (x.en.c.sea 5), .int .i64 (x.en.c.sea 6), .int .i64 (x.en.c.sea 7),
  .int .i64 (x.en.c.spo 0), .int .i64 (x.en.c.spo 1), .int .i64 (x.en.c.spo 2), .int .i64 (x.en.c.spo 3), .int .i64 (x.en.c.spo 4), .int .i64 (x.en.c.spo 5), .int .i64 (x.en.c.spo 6), .int .i64 (x.en.c.spo 7),
  .int .i64 x.en.c.src, .int .i64 (x.en.c.vec 0), .int .i64 (x.en.c.vec 1), .int .i64 (x.en.c.vec 2), .int .i64 (x.en.c.vec 3), .int .i64 (x.en.c.vec 4), .int .i64 (x.en.c.vec 5), .int .i64 (x.en.c.vec 6), .int .i64 (x.en.c.vec 7),
  .int .i64 x.en.c.clock, .int .i64 x.en.c.snap, .int .i64 x.en.c.idx, .int .i64 x.en.c.many, x.en.vd, .int .i64 x.en.c.site, .int .i64 x.en.c.sponsor, .int .i64 x.en.c.len,
  .slice (some ⟨x.g, 0, none⟩) x.n x.n]
abbrev RsR.c (x : RsR) : Ol := ⟨x.slot, x.en.c, x.v⟩
abbrev vbH (v : Nat → Bool) (n g : Nat) : Hp := [(g, cellsO ((vts v n).map boC).flatten 4)]
def rsH (l : List RsR) : Hp := l.flatMap fun x => vbH x.v x.n x.g
set_option maxHeartbeats 4000000 in
set_option maxRecDepth 100000 in
theorem rsH_app (a b : List RsR) : rsH (a ++ b) = rsH a ++ rsH b := List.flatMap_append
set_option maxHeartbeats 4000000 in
set_option maxRecDepth 100000 in
theorem flat1 : ∀ l : List Bool, (l.map boC).flatten = l.map Value.bool
  | [] => rfl
  | b :: l => by rw [List.map_cons, List.flatten_cons, flat1 l]; rfl
set_option maxHeartbeats 4000000 in
set_option maxRecDepth 100000 in
theorem vts_flat (p : Nat → Bool) {n k : Nat} (hk : k < n) : ((vts p n).map boC).flatten[0 + k * 1]? = some (.bool (p k)) := by
  rw [Nat.zero_add, Nat.mul_one, flat1, List.getElem?_map, vts_at hk]; rfl
set_option maxHeartbeats 4000000 in
set_option maxRecDepth 100000 in
theorem vts_flatSet (p : Nat → Bool) {n k : Nat} : ((vts p n).map boC).flatten.set (0 + k * 1) (.bool true) = ((vts (setv p k) n).map boC).flatten := by
  rw [Nat.zero_add, Nat.mul_one, flat1, flat1, ← vts_set, List.map_set]
set_option maxHeartbeats 4000000 in
set_option maxRecDepth 100000 in
theorem vts_flatLen (p : Nat → Bool) {n k : Nat} (hk : k < n) : Nat.ble (0 + k * 1 + 1) ((vts p n).map boC).flatten.length = true := by
  rw [flat1, List.length_map, vts_len]; exact Nat.ble_eq_true_of_le (by omega)
set_option maxHeartbeats 4000000 in
set_option maxRecDepth 100000 in
theorem vts_SlO (v : Nat → Bool) {n : Nat} (hn : n ≤ 5) (g : Nat) : SlO 4 1 (.slice (some ⟨g, 0, none⟩) n n) n ((vts v n).map boC).flatten (vbH v n g) := by
  have hl : ((vts v n).map boC).flatten.length = n := by rw [flat1, List.length_map, vts_len]
  refine ⟨by omega, .inr ⟨g, n, _, rfl, rfl, Nat.le_refl _, by unfold maxLen; omega, ?_, ?_⟩⟩
  · show n * 1 ≤ (((vts v n).map boC).flatten.toArray).size
    rw [List.size_toArray]; omega
  · show (((vts v n).map boC).flatten.toArray).toList.take (n * 1) = _
    rw [List.take_of_length_le (by rw [List.toList_toArray]; omega), List.toList_toArray]
set_option maxHeartbeats 4000000 in
set_option maxRecDepth 100000 in
theorem vts_in (v : Nat → Bool) {n : Nat} (hn : n ≤ 5) (g : Nat) : InSl (vbH v n g) 1 ((vts v n).map boC) (.slice (some ⟨g, 0, none⟩) n n) := by
  have h := vts_SlO v hn g
  refine SlO.inB (e := 4) (by rw [List.length_map, vts_len]; exact h) fun r hr => ?_
  obtain ⟨x, _, rfl⟩ := List.mem_map.1 hr
  exact ⟨rfl, rfl⟩
structure RfR where
  g : Nat
  cv : Value
  lc : List SlR
  Cb : Hp
  sv : Value
  ls : List RsR
  Sb : Hp
  M : Hp
abbrev rfC (b : Bal) (fr : Int) (n g : Nat) (cv : Value) (ready : Bool) (next : Int) (sv : Value) : List Value := [.int .i64 b.r, .int .i64 b.p, .int .i64 fr, .int .i64 (n : Int), .slice (some ⟨g, 0, none⟩) n n, cv, .bool ready, .int .i64 next, sv]
abbrev RfR.hp (r : RfR) (a : Ld) (d : Nat) : Hp := ([(d, cellsO (rfC a.b a.fr a.n r.g r.cv a.ready a.next r.sv) 102)] ++ vbH a.p a.n r.g) ++ ((r.Cb ++ r.Sb) ++ (rsH r.ls ++ r.M))
structure RfR.ok (r : RfR) (a : Ld) : Prop where
  cs : SlO 51 59 r.cv r.lc.length (r.lc.map SlR.cells).flatten r.Cb
  ss : SlO 114 58 r.sv r.ls.length (r.ls.map RsR.cells).flatten r.Sb
  came : r.lc.map (fun s => (s.slot, s.c)) = a.came
  L : r.ls.map RsR.c = a.L
  n : ∀ x ∈ r.ls, x.n = a.n
  vp : Vn a.n a.p
  vl : ∀ x ∈ r.ls, Vn a.n x.v
  ci : ∀ s ∈ r.lc, EnIn r.M s.en ∧ EnSz s.en.c
  li : ∀ x ∈ r.ls, EnIn r.M x.en ∧ EnSz x.en.c
  a : a.ok
attribute [local irreducible] eqW eqV wpC wpO wpD Ex Rd callsK RetP Drop valK
set_option maxHeartbeats 4000000 in
set_option maxRecDepth 100000 in
theorem rless8 (e : World) {a b : Bal} {F : Hp} {K : Value → Hp → Prop} (h1 : a.lt b → K (.bool true) F) (h0 : ¬ a.lt b → K (.bool false) F) : callsK Try.prog e 39 #[.agg a.cells.toArray, .agg b.cells.toArray] F K := by
  refine calls_body (N := 24) (args := [.agg a.cells.toArray, .agg b.cells.toArray]) Try.func39 rfl rfl rfl (by simp) ?_
  repeat' (first | (show wpO _ _ _ _ _ _ _; first | refine wpO_nil ?_ | (show wpO _ _ _ (⟨_, .binOp _ _ _ _ _, _, _, _, _⟩ :: _) _ _ _; first | refine s_tt ?_ | refine s_ff ?_ | refine s_rdp ?_ | (refine s_cmp (fun _ => ?_) (fun _ => ?_) <;> (first | (exfalso; omega) | contradiction | skip)) | (refine s_cb (fun _ => ?_) (fun _ => ?_) <;> (first | (exfalso; omega) | contradiction | skip)) | refine s_sks ?_ | (refine s_g (fun _ => ?_) (fun _ => ?_) <;> (first | (exfalso; omega) | contradiction | skip))) | (show wpO _ _ _ (⟨_, .pick _ _ _, _, _, _, _⟩ :: _) _ _ _; first | refine s_rdp ?_ | (refine s_p (fun _ => ?_) (fun _ => ?_) <;> (first | (exfalso; omega) | contradiction | skip)) | refine s_sks ?_ | (refine s_g (fun _ => ?_) (fun _ => ?_) <;> (first | (exfalso; omega) | contradiction | skip))) | refine s_rdp ?_ | refine s_rdm ?_ | refine s_exq ?_ | refine s_exm ?_ | refine s_sks ?_ | refine s_skn ?_ | (refine s_g (fun _ => ?_) (fun _ => ?_) <;> (first | (exfalso; omega) | contradiction | skip))) | (show Ex _ _ _ _ _; first | (show Ex _ ⟨_, .box _ _, _, _, _, _⟩ _ _ _; first | (refine e_boxA ?_; intro _) | (refine e_box1 ?_; intro _))) | (show wpC _ _ _ _ _ _; first | refine wpC_seq ?_ | refine wpC_region ?_ | refine wpC_ret ?_ | refine wpC_skip ?_ | refine wpC_label ?_) | (show Then _ _ _ _ _ _ _; first | refine then_normal ?_ | refine then_ret ?_) | (show RetP _ _ _ _ _ _ _ _; first | refine r_1 ?_))
  all_goals first
    | exact q_drop (h1 (by unfold Bal.lt; omega))
    | exact q_drop (h0 (fun h => by unfold Bal.lt at h; omega))
    | trace_state
set_option maxHeartbeats 4000000 in
set_option maxRecDepth 100000 in
theorem rmaj8 (e : World) {n : Nat} {F : Hp} {K : Value → Hp → Prop} (h1 : 1 ≤ n) (h5 : n ≤ 5) (hK : K (.int .i64 ((maj n : Nat) : Int)) F) : callsK Try.prog e 43 #[.int .i64 (n : Int)] F K := by
  have hq : IntKind.i64.wrap (Int.tdiv (n : Int) 2) = ((n / 2 : Nat) : Int) := by
    rcases (by omega : n = 1 ∨ n = 2 ∨ n = 3 ∨ n = 4 ∨ n = 5) with rfl | rfl | rfl | rfl | rfl <;> decide
  refine calls_body (N := 12) (args := [.int .i64 (n : Int)]) Try.func43 rfl rfl rfl (by simp) ?_
  repeat' (first | (refine s_rdp ?_ (hr := by (apply rd_quoI; exact rfl; exact rfl; decide; exact hq; done))) | (show wpO _ _ _ _ _ _ _; first | refine wpO_nil ?_ | (show wpO _ _ _ (⟨_, .binOp _ _ _ _ _, _, _, _, _⟩ :: _) _ _ _; first | refine s_tt ?_ | refine s_ff ?_ | refine s_rdp ?_ | (refine s_cmp (fun _ => ?_) (fun _ => ?_) <;> (first | (exfalso; omega) | contradiction | skip)) | (refine s_cb (fun _ => ?_) (fun _ => ?_) <;> (first | (exfalso; omega) | contradiction | skip)) | refine s_sks ?_ | (refine s_g (fun _ => ?_) (fun _ => ?_) <;> (first | (exfalso; omega) | contradiction | skip))) | (show wpO _ _ _ (⟨_, .pick _ _ _, _, _, _, _⟩ :: _) _ _ _; first | refine s_rdp ?_ | (refine s_p (fun _ => ?_) (fun _ => ?_) <;> (first | (exfalso; omega) | contradiction | skip)) | refine s_sks ?_ | (refine s_g (fun _ => ?_) (fun _ => ?_) <;> (first | (exfalso; omega) | contradiction | skip))) | refine s_rdp ?_ | refine s_rdm ?_ | refine s_exq ?_ | refine s_exm ?_ | refine s_sks ?_ | refine s_skn ?_ | (refine s_g (fun _ => ?_) (fun _ => ?_) <;> (first | (exfalso; omega) | contradiction | skip))) | (show wpC _ _ _ _ _ _; first | refine wpC_seq ?_ | refine wpC_region ?_ | refine c_true ?_ | refine c_false ?_ | (refine c_b (fun _ => ?_) (fun _ => ?_) <;> (first | (exfalso; omega) | contradiction | skip)) | refine wpC_ret ?_ | refine wpC_skip ?_ | refine wpC_label ?_) | (show Then _ _ _ _ _ _ _; first | refine then_normal ?_ | refine then_ret ?_) | (show RetP _ _ _ _ _ _ _ _; first | refine r_1 ?_))
  all_goals first | (exfalso; omega) | exact q_drop hK | trace_state
set_option maxHeartbeats 4000000 in
set_option maxRecDepth 100000 in
theorem rtally (e : World) {p : Nat → Bool} {n : Nat} {v : Value} {I F : Hp} {K : Value → Hp → Prop} (hv : InSl I 1 ((vts p n).map boC) v) (hn : n ≤ 5) (hK : K (.int .i64 ((cnt p n : Nat) : Int)) (I ++ F)) : callsK Try.prog e 42 #[v] (I ++ F) K := by
  have hl := vts_len p n
  refine calls_body (N := 18) (args := [v]) Try.func42 rfl rfl rfl (by simp) ?_
  repeat' ((fail_if_success (show wpC _ (.loop _) _ _ _ _)); first | (show wpO _ _ _ _ _ _ _; first | refine wpO_nil ?_ | (show wpO _ _ _ (⟨_, .binOp _ _ _ _ _, _, _, _, _⟩ :: _) _ _ _; first | refine s_tt ?_ | refine s_ff ?_ | refine s_rdp ?_ | (refine s_cmp (fun _ => ?_) (fun _ => ?_) <;> (first | (exfalso; omega) | contradiction | skip)) | (refine s_cb (fun _ => ?_) (fun _ => ?_) <;> (first | (exfalso; omega) | contradiction | skip))) | (show wpO _ _ _ (⟨_, .indexAddr _ _ _, _, _, _, _⟩ :: _) _ _ _; first | refine s_rdp ?_ | refine s_idx (fun _ _ _ _ _ _ _ => ?_)) | refine s_rdp ?_ | refine s_rdm ?_ | refine s_exq ?_ | refine s_exm ?_) | (show wpC _ _ _ _ _ _; first | refine wpC_seq ?_ | refine wpC_region ?_ | refine c_true ?_ | refine c_false ?_ | (refine c_b (fun _ => ?_) (fun _ => ?_) <;> (first | (exfalso; omega) | contradiction | skip)) | refine wpC_block ?_ | refine wpC_ret ?_ | refine wpC_skip ?_ | refine wpC_exit ?_ | refine wpC_label ?_) | (show Then _ _ _ _ _ _ _; first | refine then_normal ?_ | refine then_ret ?_ | refine then_exit ?_) | (show InBlock _ _ _ _ _ _; first | refine inBlock_normal ?_ | refine inBlock_ret ?_ | refine inBlock_same ?_ | refine b_other ?_) | (show LoopPost _ _ _ _ _ _; first | refine loop_ret ?_ | refine loop_exit ?_) | (show RetP _ _ _ _ _ _ _ _; first | refine r_1 ?_))
  refine wpC_loopA (κ := Nat) [3, 4, 5, 6, 7, 8, 9, 10, 11, 12, 13, 14, 15, 16] (fun k => [(3, .int .i64 ((cnt p k : Nat) : Int)), (4, .int .i64 (k : Int))]) (fun _ => I ++ F) (fun k => k ≤ n ∧ cnt p k ≤ k) (fun k => n - k) 0 ⟨Nat.zero_le _, Nat.le_refl _⟩ ⟨rfl, rfl, trivial⟩ q_drp ?_
  rintro k ρx ⟨hk, hck⟩
  by_cases hkl : k < n
  · have hat := vts_at (p := p) hkl
    cases hb : p k with
    | true =>
      rw [hb] at hat
      have hc : cnt p (k + 1) = cnt p k + 1 := by rw [cnt, hb]; rfl
      repeat' (first | (show wpO _ _ _ _ _ _ _; first | refine wpO_nil ?_ | (show wpO _ _ _ (⟨_, .binOp _ _ _ _ _, _, _, _, _⟩ :: _) _ _ _; first | refine s_tt ?_ | refine s_ff ?_ | refine s_rdp ?_ | (refine s_cmp (fun _ => ?_) (fun _ => ?_) <;> (first | (exfalso; omega) | contradiction | skip)) | (refine s_cb (fun _ => ?_) (fun _ => ?_) <;> (first | (exfalso; omega) | contradiction | skip))) | (show wpO _ _ _ (⟨_, .indexAddr _ _ _, _, _, _, _⟩ :: _) _ _ _; first | refine s_rdp ?_ | refine s_idx (fun _ _ _ _ _ _ _ => ?_)) | refine s_rdp ?_ | refine s_rdm ?_ | refine s_exq ?_ | refine s_exm ?_) | (show wpC _ _ _ _ _ _; first | refine wpC_seq ?_ | refine wpC_region ?_ | refine c_true ?_ | refine c_false ?_ | (refine c_b (fun _ => ?_) (fun _ => ?_) <;> (first | (exfalso; omega) | contradiction | skip)) | refine wpC_block ?_ | refine wpC_ret ?_ | refine wpC_skip ?_ | refine wpC_exit ?_ | refine wpC_label ?_) | (show Then _ _ _ _ _ _ _; first | refine then_normal ?_ | refine then_ret ?_ | refine then_exit ?_) | (show InBlock _ _ _ _ _ _; first | refine inBlock_normal ?_ | refine inBlock_ret ?_ | refine inBlock_same ?_ | refine b_other ?_) | (show LoopPost _ _ _ _ _ _; first | refine loop_ret ?_ | refine loop_exit ?_) | (show RetP _ _ _ _ _ _ _ _; first | refine r_1 ?_))
      all_goals first
        | (exfalso; omega)
        | (refine lp_end (k + 1) (by omega) ⟨by omega, by omega⟩ (h3 := ⟨?_, by exact rfl, trivial⟩)
           exact congrArg (fun x : Nat => Value.int .i64 (x : Int)) hc.symm)
        | trace_state
    | false =>
      rw [hb] at hat
      have hc : cnt p (k + 1) = cnt p k := by rw [cnt, hb]; rfl
      repeat' (first | (show wpO _ _ _ _ _ _ _; first | refine wpO_nil ?_ | (show wpO _ _ _ (⟨_, .binOp _ _ _ _ _, _, _, _, _⟩ :: _) _ _ _; first | refine s_tt ?_ | refine s_ff ?_ | refine s_rdp ?_ | (refine s_cmp (fun _ => ?_) (fun _ => ?_) <;> (first | (exfalso; omega) | contradiction | skip)) | (refine s_cb (fun _ => ?_) (fun _ => ?_) <;> (first | (exfalso; omega) | contradiction | skip))) | (show wpO _ _ _ (⟨_, .indexAddr _ _ _, _, _, _, _⟩ :: _) _ _ _; first | refine s_rdp ?_ | refine s_idx (fun _ _ _ _ _ _ _ => ?_)) | refine s_rdp ?_ | refine s_rdm ?_ | refine s_exq ?_ | refine s_exm ?_) | (show wpC _ _ _ _ _ _; first | refine wpC_seq ?_ | refine wpC_region ?_ | refine c_true ?_ | refine c_false ?_ | (refine c_b (fun _ => ?_) (fun _ => ?_) <;> (first | (exfalso; omega) | contradiction | skip)) | refine wpC_block ?_ | refine wpC_ret ?_ | refine wpC_skip ?_ | refine wpC_exit ?_ | refine wpC_label ?_) | (show Then _ _ _ _ _ _ _; first | refine then_normal ?_ | refine then_ret ?_ | refine then_exit ?_) | (show InBlock _ _ _ _ _ _; first | refine inBlock_normal ?_ | refine inBlock_ret ?_ | refine inBlock_same ?_ | refine b_other ?_) | (show LoopPost _ _ _ _ _ _; first | refine loop_ret ?_ | refine loop_exit ?_) | (show RetP _ _ _ _ _ _ _ _; first | refine r_1 ?_))
      all_goals first
        | (exfalso; omega)
        | (refine lp_end (k + 1) (by omega) ⟨by omega, by omega⟩ (h3 := ⟨?_, by exact rfl, trivial⟩)
           exact congrArg (fun x : Nat => Value.int .i64 (x : Int)) hc.symm)
        | trace_state
  · obtain rfl : k = n := by omega
    repeat' (first | (show wpO _ _ _ _ _ _ _; first | refine wpO_nil ?_ | (show wpO _ _ _ (⟨_, .binOp _ _ _ _ _, _, _, _, _⟩ :: _) _ _ _; first | refine s_tt ?_ | refine s_ff ?_ | refine s_rdp ?_ | (refine s_cmp (fun _ => ?_) (fun _ => ?_) <;> (first | (exfalso; omega) | contradiction | skip)) | (refine s_cb (fun _ => ?_) (fun _ => ?_) <;> (first | (exfalso; omega) | contradiction | skip))) | (show wpO _ _ _ (⟨_, .indexAddr _ _ _, _, _, _, _⟩ :: _) _ _ _; first | refine s_rdp ?_ | refine s_idx (fun _ _ _ _ _ _ _ => ?_)) | refine s_rdp ?_ | refine s_rdm ?_ | refine s_exq ?_ | refine s_exm ?_) | (show wpC _ _ _ _ _ _; first | refine wpC_seq ?_ | refine wpC_region ?_ | refine c_true ?_ | refine c_false ?_ | (refine c_b (fun _ => ?_) (fun _ => ?_) <;> (first | (exfalso; omega) | contradiction | skip)) | refine wpC_block ?_ | refine wpC_ret ?_ | refine wpC_skip ?_ | refine wpC_exit ?_ | refine wpC_label ?_) | (show Then _ _ _ _ _ _ _; first | refine then_normal ?_ | refine then_ret ?_ | refine then_exit ?_) | (show InBlock _ _ _ _ _ _; first | refine inBlock_normal ?_ | refine inBlock_ret ?_ | refine inBlock_same ?_ | refine b_other ?_) | (show LoopPost _ _ _ _ _ _; first | refine loop_ret ?_ | refine loop_exit ?_) | (show RetP _ _ _ _ _ _ _ _; first | refine r_1 ?_))
    all_goals first | (exfalso; omega) | exact q_drop hK | trace_state
end Go.Vl

namespace Go.Vl
open Classical
def balL (n l : Nat) : Bal := ⟨(l : Int) + 1, ((l % n : Nat) : Int)⟩
set_option maxHeartbeats 4000000 in
set_option maxRecDepth 100000 in
theorem balL_lt {n m l : Nat} : (balL n m).lt (balL n l) ↔ m < l := by
  unfold balL Bal.lt
  simp only
  constructor
  · rintro (h | ⟨h, h2⟩)
    · omega
    · obtain rfl : m = l := by omega
      omega
  · intro h; exact .inl (by omega)
set_option maxHeartbeats 4000000 in
set_option maxRecDepth 100000 in
theorem balL_inj {n m l : Nat} (h : balL n m = balL n l) : m = l := by
  have := congrArg Bal.r h
  unfold balL at this
  simp only at this
  omega
set_option maxHeartbeats 4000000 in
set_option maxRecDepth 100000 in
theorem ble_trans {a b c : Bal} (h : ¬ Bal.lt b a) (g : ¬ Bal.lt c b) : ¬ Bal.lt c a := by unfold Bal.lt at *; omega
set_option maxHeartbeats 4000000 in
set_option maxRecDepth 100000 in
theorem blt_le {a b c : Bal} (h : Bal.lt a b) (g : ¬ Bal.lt c b) : Bal.lt a c := by unfold Bal.lt at *; omega
set_option maxHeartbeats 4000000 in
set_option maxRecDepth 100000 in
theorem blt_le2 {a b c : Bal} (h : ¬ Bal.lt b a) (g : Bal.lt b c) : Bal.lt a c := by unfold Bal.lt at *; omega
set_option maxHeartbeats 4000000 in
set_option maxRecDepth 100000 in
theorem blt_asymm {a b : Bal} (h : Bal.lt a b) : ¬ Bal.lt b a := by unfold Bal.lt at *; omega
def upd1 {α : Type} (f : Nat → α) (k : Nat) (a : α) : Nat → α := fun j => if j = k then a else f j
set_option maxHeartbeats 4000000 in
set_option maxRecDepth 100000 in
theorem upd1_same {α : Type} {f : Nat → α} {k : Nat} {a : α} : upd1 f k a k = a := if_pos rfl
set_option maxHeartbeats 4000000 in
set_option maxRecDepth 100000 in
theorem upd1_ne {α : Type} {f : Nat → α} {k j : Nat} {a : α} (h : j ≠ k) : upd1 f k a j = f j := if_neg h
/-- a leader's entry for a slot -/
def Ent (a : Ld) (s : Int) (e : EnC) : Prop := ∃ x ∈ a.L, x.slot = s ∧ x.en = e
set_option maxHeartbeats 4000000 in
set_option maxRecDepth 100000 in
theorem srt_uniq {L : List Ol} (h : L.Pairwise fun x y => x.slot < y.slot) {x y : Ol} (hx : x ∈ L) (hy : y ∈ L) (hs : x.slot = y.slot) : x = y := by
  obtain ⟨i, hi⟩ := List.mem_iff_getElem?.1 hx
  obtain ⟨j, hj⟩ := List.mem_iff_getElem?.1 hy
  obtain ⟨hi1, hi2⟩ := List.getElem?_eq_some_iff.1 hi
  obtain ⟨hj1, hj2⟩ := List.getElem?_eq_some_iff.1 hj
  have hp := List.pairwise_iff_getElem.1 h
  by_cases h1 : i < j
  · have := hp i j hi1 hj1 h1; rw [hi2, hj2] at this; omega
  · by_cases h2 : j < i
    · have := hp j i hj1 hi1 h2; rw [hi2, hj2] at this; omega
    · obtain rfl : i = j := by omega
      rw [← hi2, ← hj2]
set_option maxHeartbeats 4000000 in
set_option maxRecDepth 100000 in
theorem Ent.uniq {a : Ld} (h : a.ok) {s : Int} {e f : EnC} (h1 : Ent a s e) (h2 : Ent a s f) : e = f := by
  obtain ⟨x, hx, hs, rfl⟩ := h1
  obtain ⟨y, hy, ht, rfl⟩ := h2
  rw [srt_uniq h.srt hx hy (by rw [hs, ht])]
set_option maxHeartbeats 4000000 in
set_option maxRecDepth 100000 in
theorem Ent.ready {a : Ld} (h : a.ok) {s : Int} {e : EnC} (h1 : Ent a s e) : a.ready = true := by
  cases hr : a.ready with
  | true => rfl
  | false =>
    obtain ⟨x, hx, _⟩ := h1
    rw [(h.idle hr).1] at hx
    cases hx
/-- leaders, replicas; V: which replica has accepted which leader's entry for which slot -/
structure Px where
  A : Nat → Ld
  prom : Nat → Bal
  acc : Nat → List Sl
  asked : Nat → Nat → Bool
  V : Nat → Nat → Int → Prop
/-- a leader's entry for a slot can't be chosen any more -/
def Dead (n : Nat) (V : Nat → Nat → Int → Prop) (prom : Nat → Bal) (m : Nat) (s : Int) : Prop := ∃ Q : Nat → Bool, maj n ≤ cnt Q n ∧ ∀ k, k < n → Q k = true → ¬ V k m s ∧ (balL n m).lt (prom k)
structure LdP (n : Nat) (l : Nat) (a : Ld) : Prop where
  ok : a.ok
  b : a.b = balL n l
  fr : a.fr = 0
  hn : a.n = n
  next : a.next ≤ 4097
  vn : ∀ x ∈ a.L, Vn n x.v ∧ mayE x.en
  vp : Vn n a.p
structure PxOK (n N : Nat) (S : Px) : Prop where
  ld : ∀ l, l < N → LdP n l (S.A l)
  nod : ∀ k, k < n → ((S.acc k).map Sl.slot).Nodup
  acd : ∀ k, k < n → ∀ s ∈ S.acc k, ∃ l, l < N ∧ s.bal = balL n l ∧ Ent (S.A l) s.slot s.en ∧ S.V k l s.slot
  acn : ∀ k l s, k < n → l < N → S.V k l s → ∃ y ∈ S.acc k, y.slot = s ∧ ¬ y.bal.lt (balL n l)
  prm : ∀ k l s, k < n → l < N → S.V k l s → ¬ (S.prom k).lt (balL n l)
  vot : ∀ k l s, k < n → l < N → S.V k l s → ∃ e, Ent (S.A l) s e
  flag : ∀ l k, l < N → k < n → ∀ x ∈ (S.A l).L, x.v k = true → S.V k l x.slot
  ask : ∀ l k, l < N → k < n → (S.A l).p k = true → S.asked l k = true ∧ ¬ (S.prom k).lt (balL n l)
  cam : ∀ l, l < N → (S.A l).ready = false → ∀ k, k < n → (S.A l).p k = true → ∀ m, m < l → ∀ s, S.V k m s → ∃ o, aget (S.A l).came s = some o ∧ ¬ o.bal.lt (balL n m)
  cad : ∀ l, l < N → ∀ p ∈ (S.A l).came, ∃ m, m < l ∧ p.2.bal = balL n m ∧ Ent (S.A m) p.1 p.2.en
  safe : ∀ l, l < N → (S.A l).ready = true → ∀ m, m < l → ∀ s, (∃ e, Ent (S.A l) s e ∧ Ent (S.A m) s e) ∨ Dead n S.V S.prom m s
set_option maxHeartbeats 4000000 in
set_option maxRecDepth 100000 in
theorem balL_ok {n l : Nat} (n1 : 1 ≤ n) (n5 : n ≤ 5) (hl : l < 1000) : newOK (balL n l) 0 (n : Int) := by
  have hmod : l % n < n := Nat.mod_lt _ (by omega)
  unfold balL
  constructor <;> (try simp only) <;> omega
set_option maxHeartbeats 4000000 in
set_option maxRecDepth 100000 in
theorem PxOK.new {n N : Nat} (n1 : 1 ≤ n) (n5 : n ≤ 5) (hN : N < 1000) : PxOK n N ⟨fun l => newA (balL n l) 0 n, fun _ => ⟨0, 0⟩, fun _ => [], fun _ _ => false, fun _ _ _ => False⟩ :=
  ⟨fun l hl => ⟨newA_ok (balL_ok n1 n5 (by omega)), rfl, rfl, rfl, by show (0 : Int) ≤ 4097; decide, fun x hx => (by cases hx), vn_no n⟩,
   fun _ _ => List.nodup_nil, fun _ _ _ h => (by cases h), fun _ _ _ _ _ h => h.elim, fun _ _ _ _ _ h => h.elim, fun _ _ _ _ _ h => h.elim, fun _ _ _ _ _ h => (by cases h), fun _ _ _ _ h => (by cases h), fun _ _ _ _ _ _ _ _ _ h => h.elim, fun _ _ _ h => (by cases h), fun _ _ h => (by cases h)⟩
set_option maxHeartbeats 4000000 in
set_option maxRecDepth 100000 in
theorem PxOK.prom {n N : Nat} {S : Px} (h : PxOK n N S) {k : Nat} {b : Bal} (hp : ¬ b.lt (S.prom k)) : PxOK n N { S with prom := upd1 S.prom k b } := by
  have up : ∀ (j : Nat) (c : Bal), c.lt (S.prom j) → c.lt (upd1 S.prom k b j) := fun j c hc => by
    by_cases he : j = k
    · subst he; rw [upd1_same]; exact blt_le hc hp
    · rw [upd1_ne he]; exact hc
  have dn : ∀ (j : Nat) (c : Bal), ¬ (S.prom j).lt c → ¬ (upd1 S.prom k b j).lt c := fun j c hc => by
    by_cases he : j = k
    · subst he; rw [upd1_same]; exact ble_trans hc hp
    · rw [upd1_ne he]; exact hc
  exact ⟨h.ld, h.nod, h.acd, h.acn, fun j l s hj hl hv => dn j _ (h.prm j l s hj hl hv), h.vot, h.flag, fun l j hl hj hp => ⟨(h.ask l j hl hj hp).1, dn j _ (h.ask l j hl hj hp).2⟩, h.cam, h.cad,
    fun l hl hr m hm s => (h.safe l hl hr m hm s).imp id fun ⟨Q, h1, h2⟩ => ⟨Q, h1, fun j hj hq => ⟨(h2 j hj hq).1, up j _ (h2 j hj hq).2⟩⟩⟩
set_option maxHeartbeats 4000000 in
set_option maxRecDepth 100000 in
theorem PxOK.lead {n N : Nat} {S : Px} (h : PxOK n N S) {l : Nat} {a' : Ld} {asked' : Nat → Nat → Bool} (ld : LdP n l a')
    (more : ∀ s e, Ent (S.A l) s e → Ent a' s e) (flag : ∀ k, k < n → ∀ x ∈ a'.L, x.v k = true → S.V k l x.slot)
    (ask : ∀ k, k < n → a'.p k = true → asked' l k = true ∧ ¬ (S.prom k).lt (balL n l)) (asko : ∀ j k, S.asked j k = true → asked' j k = true)
    (cam : a'.ready = false → ∀ k, k < n → a'.p k = true → ∀ m, m < l → ∀ s, S.V k m s → ∃ o, aget a'.came s = some o ∧ ¬ o.bal.lt (balL n m))
    (cad : ∀ p ∈ a'.came, ∃ m, m < l ∧ p.2.bal = balL n m ∧ Ent (S.A m) p.1 p.2.en)
    (safe : a'.ready = true → ∀ m, m < l → ∀ s, (∃ e, Ent a' s e ∧ Ent (S.A m) s e) ∨ Dead n S.V S.prom m s) : PxOK n N { S with A := upd1 S.A l a', asked := asked' } := by
  have mr : ∀ m s e, Ent (S.A m) s e → Ent (upd1 S.A l a' m) s e := fun m s e he => by
    by_cases hm : m = l
    · subst hm; rw [upd1_same]; exact more s e he
    · rw [upd1_ne hm]; exact he
  refine ⟨fun m hm => ?_, h.nod, fun k hk s hs => ?_, h.acn, h.prm, fun k m s hk hm hv => ?_, fun m k hm hk x hx hv => ?_, fun m k hm hk hp => ?_, fun m hm hr k hk hp j hj s hv => ?_, fun m hm p hp => ?_, fun m hm hr j hj s => ?_⟩
  · by_cases he : m = l
    · subst he; simp only [upd1_same]; exact ld
    · simp only [upd1_ne he]; exact h.ld m hm
  · obtain ⟨m, hm, h1, h2, h3⟩ := h.acd k hk s hs
    exact ⟨m, hm, h1, mr m _ _ h2, h3⟩
  · obtain ⟨e, he⟩ := h.vot k m s hk hm hv
    exact ⟨e, mr m _ _ he⟩
  · by_cases he : m = l
    · subst he; simp only [upd1_same] at hx; exact flag k hk x hx hv
    · simp only [upd1_ne he] at hx; exact h.flag m k hm hk x hx hv
  · by_cases he : m = l
    · subst he; simp only [upd1_same] at hp; exact ask k hk hp
    · simp only [upd1_ne he] at hp; exact ⟨asko m k (h.ask m k hm hk hp).1, (h.ask m k hm hk hp).2⟩
  · by_cases he : m = l
    · subst he; simp only [upd1_same] at hr hp ⊢; exact cam hr k hk hp j hj s hv
    · simp only [upd1_ne he] at hr hp ⊢; exact h.cam m hm hr k hk hp j hj s hv
  · by_cases he : m = l
    · subst he
      simp only [upd1_same] at hp
      obtain ⟨j, h1, h2, h3⟩ := cad p hp
      exact ⟨j, h1, h2, mr j _ _ h3⟩
    · simp only [upd1_ne he] at hp
      obtain ⟨j, h1, h2, h3⟩ := h.cad m hm p hp
      exact ⟨j, h1, h2, mr j _ _ h3⟩
  · by_cases he : m = l
    · subst he
      simp only [upd1_same] at hr ⊢
      rcases safe hr j hj s with ⟨e, h1, h2⟩ | hd
      · exact .inl ⟨e, h1, mr j _ _ h2⟩
      · exact .inr hd
    · simp only [upd1_ne he] at hr ⊢
      rcases h.safe m hm hr j hj s with ⟨e, h1, h2⟩ | hd
      · exact .inl ⟨e, h1, mr j _ _ h2⟩
      · exact .inr hd
set_option maxHeartbeats 4000000 in
set_option maxRecDepth 100000 in
theorem PxOK.accept {n N : Nat} {S : Px} (h : PxOK n N S) {k l : Nat} (hk : k < n) (hl : l < N) {s : Sl} {acc' : List Sl} (hb : s.bal = balL n l) (he : Ent (S.A l) s.slot s.en) (hp : ¬ s.bal.lt (S.prom k))
    (hn : (acc'.map Sl.slot).Nodup) (hin : s ∈ acc') (h1 : ∀ y ∈ acc', y = s ∨ y ∈ S.acc k) (h2 : ∀ y ∈ S.acc k, y.slot ≠ s.slot → y ∈ acc') :
    PxOK n N { S with prom := upd1 S.prom k s.bal, acc := upd1 S.acc k acc', V := fun j m t => S.V j m t ∨ (j = k ∧ m = l ∧ t = s.slot) } := by
  have h0 := h.prom (k := k) (b := s.bal) hp
  refine ⟨h.ld, fun j hj => ?_, fun j hj y hy => ?_, fun j m t hj hm hv => ?_, fun j m t hj hm hv => ?_, fun j m t hj hm hv => ?_, fun m j hm hj x hx hv => .inl (h.flag m j hm hj x hx hv), h0.ask, fun m hm hr j hj hpj i hi t hv => ?_, h.cad, fun m hm hr i hi t => ?_⟩
  · by_cases hjk : j = k
    · subst hjk; simp only [upd1_same]; exact hn
    · simp only [upd1_ne hjk]; exact h.nod j hj
  · by_cases hjk : j = k
    · subst hjk
      simp only [upd1_same] at hy
      rcases h1 y hy with rfl | hy
      · exact ⟨l, hl, hb, he, .inr ⟨rfl, rfl, rfl⟩⟩
      · obtain ⟨m, hm, g1, g2, g3⟩ := h.acd j hj y hy
        exact ⟨m, hm, g1, g2, .inl g3⟩
    · simp only [upd1_ne hjk] at hy
      obtain ⟨m, hm, g1, g2, g3⟩ := h.acd j hj y hy
      exact ⟨m, hm, g1, g2, .inl g3⟩
  · rcases hv with hv | ⟨rfl, rfl, rfl⟩
    · obtain ⟨y, hy, hys, hyb⟩ := h.acn j m t hj hm hv
      by_cases hjk : j = k
      · subst hjk
        simp only [upd1_same]
        by_cases hts : t = s.slot
        · exact ⟨s, hin, hts.symm, ble_trans (h.prm j m t hj hm hv) hp⟩
        · exact ⟨y, h2 y hy (by rw [hys]; exact hts), hys, hyb⟩
      · simp only [upd1_ne hjk]; exact ⟨y, hy, hys, hyb⟩
    · simp only [upd1_same]
      exact ⟨s, hin, rfl, by rw [hb]; exact Bal.lt_irrefl _⟩
  · rcases hv with hv | ⟨rfl, rfl, rfl⟩
    · exact h0.prm j m t hj hm hv
    · simp only [upd1_same]; rw [hb]; exact Bal.lt_irrefl _
  · rcases hv with hv | ⟨rfl, rfl, rfl⟩
    · exact h.vot j m t hj hm hv
    · exact ⟨_, he⟩
  · rcases hv with hv | ⟨rfl, rfl, rfl⟩
    · exact h.cam m hm hr j hj hpj i hi t hv
    · exfalso
      have := (h.ask m j hm hj hpj).2
      rw [hb] at hp
      exact hp (blt_le (balL_lt.2 hi) this)
  · rcases h0.safe m hm hr i hi t with hE | ⟨Q, g1, g2⟩
    · exact .inl hE
    · refine .inr ⟨Q, g1, fun j hj hq => ⟨fun hv => ?_, (g2 j hj hq).2⟩⟩
      rcases hv with hv | ⟨rfl, rfl, rfl⟩
      · exact (g2 j hj hq).1 hv
      · have := (g2 j hj hq).2
        simp only [upd1_same] at this
        rw [hb] at this
        exact Bal.lt_irrefl _ this
set_option maxHeartbeats 4000000 in
set_option maxRecDepth 100000 in
theorem PxOK.agree1 {n N : Nat} {S : Px} (h : PxOK n N S) (n5 : n ≤ 5) {l m : Nat} (hl : l < N) (hml : m < l) {x y : Ol} (hx : x ∈ (S.A l).L) (hy : y ∈ (S.A m).L) (hs : x.slot = y.slot) (hcy : y.ch n = true) : x.en = y.en := by
  have hE : Ent (S.A l) x.slot x.en := ⟨x, hx, rfl, rfl⟩
  have hF : Ent (S.A m) x.slot y.en := ⟨y, hy, hs.symm, rfl⟩
  have hm : m < N := by omega
  rcases h.safe l hl (hE.ready (h.ld l hl).ok) m hml x.slot with ⟨e, h1, h2⟩ | ⟨Q, h1, h2⟩
  · rw [hE.uniq (h.ld l hl).ok h1, hF.uniq (h.ld m hm).ok h2]
  · exfalso
    have hc := of_decide_eq_true hcy
    rw [← cnt_5 ((h.ld m hm).vn y hy).1 n5] at hc
    obtain ⟨k, hk, h3, h4⟩ := cnt_both (p := Q) (q := y.v) (n := n) (by unfold maj at hc h1; omega)
    exact (h2 k hk h3).1 (by rw [hs]; exact h.flag m k hm hk y hy h4)
set_option maxHeartbeats 4000000 in
set_option maxRecDepth 100000 in
theorem PxOK.agree {n N : Nat} {S : Px} (h : PxOK n N S) (n5 : n ≤ 5) {l m : Nat} (hl : l < N) (hm : m < N) {x y : Ol} (hx : x ∈ (S.A l).L) (hy : y ∈ (S.A m).L) (hs : x.slot = y.slot) (hcx : x.ch n = true) (hcy : y.ch n = true) : x.en = y.en := by
  by_cases h1 : m < l
  · exact h.agree1 n5 hl h1 hx hy hs hcy
  · by_cases h2 : l < m
    · exact (h.agree1 n5 hm h2 hy hx hs.symm hcx).symm
    · obtain rfl : l = m := by omega
      rw [srt_uniq (h.ld l hl).ok.srt hx hy hs]
end Go.Vl

namespace Go.Vl
open Go.Proofs Classical
set_option maxHeartbeats 4000000 in
set_option maxRecDepth 100000 in
theorem nod_len : ∀ (N : Nat) (l : List Int) (lo : Int), l.Nodup → (∀ x ∈ l, lo ≤ x ∧ x < lo + (N : Int)) → l.length ≤ N
  | 0, l, lo, _, h => by
    cases l with
    | nil => exact Nat.le_refl _
    | cons x l => have := h x (by simp); omega
  | N + 1, l, lo, hn, h => by
    have h1 := nod_len N (l.erase (lo + (N : Int))) lo (hn.erase _) fun x hx => by
      obtain ⟨h2, h3⟩ := (List.Nodup.mem_erase_iff hn).1 hx
      have := h x h3
      omega
    have h2 := List.length_erase (a := lo + (N : Int)) (l := l)
    split at h2 <;> omega
set_option maxHeartbeats 4000000 in
set_option maxRecDepth 100000 in
theorem key_len {a : Ld} {came : List (Int × Sl)} (h : keyOK1 a came) : came.length ≤ 4097 := by
  have h1 := nod_len 4097 (came.map Prod.fst) a.fr h.2 fun x hx => by
    obtain ⟨p, hp, rfl⟩ := List.mem_map.1 hx
    have := h.1 p hp
    omega
  rwa [List.length_map] at h1
set_option maxHeartbeats 4000000 in
set_option maxRecDepth 100000 in
theorem fold_prefix {a : Ld} (h : a.ok) {l : List Sl} (hw : a.wrong l = 0) (j : Nat) : keyOK1 a ((l.take j).foldl best1 a.came) := by
  obtain ⟨g1, g3, _⟩ := wrong_zero hw
  refine fold_ok ⟨h.key, h.nod⟩ fun s hs => ?_
  have hm := List.mem_of_mem_take hs
  obtain ⟨i, hi⟩ := List.mem_iff_getElem?.1 hm
  have := g1 i s hi
  exact ⟨this.1, this.2.1, g3 s hm⟩
noncomputable def Ld.prom2 (a : Ld) (k : Nat) (l : List Sl) : (Bool × Int) × Ld :=
  if a.ready = true then ((true, 0), { a with p := setv a.p k })
  else if maj a.n ≤ cnt5 (setv a.p k) then ((true, 0), beginA { a with p := setv a.p k, came := l.foldl best1 a.came })
  else ((false, 0), { a with p := setv a.p k, came := l.foldl best1 a.came })
set_option maxHeartbeats 4000000 in
set_option maxRecDepth 100000 in
theorem promise_2 {a : Ld} {k : Nat} {l : List Sl} (hk : k < a.n) (hw : a.wrong l = 0) (hp : a.p k = false) : a.promise (k : Int) l = a.prom2 k l := by
  unfold Ld.promise Ld.prom2
  rw [if_neg (by omega), if_neg (by rw [hw]; simp), Int.toNat_natCast, if_neg (by rw [hp]; simp)]
set_option maxHeartbeats 4000000 in
set_option maxRecDepth 100000 in
theorem beginA_ok {a : Ld} (ha : a.ok) (hi : a.L = []) (hnx : a.next = a.fr) : (beginA a).ok := by
  have hl := isLast_lastS a.fr a.came
  have hm : (a.more : Int) ≤ 4097 ∧ a.fr + (a.more : Int) ≤ 1099511627777 := by
    unfold Ld.more
    have f1 := ha.f1
    rcases hl.at_ with g | ⟨p, hp, g⟩
    · omega
    · have := ha.key p hp; omega
  refine ⟨ha.n1, ha.n5, ha.f0, ha.f1, ?_, ?_, ha.key, ha.nod, ?_, ?_, fun h => (by cases h)⟩
  · show a.fr ≤ a.next + (a.more : Int); omega
  · show a.next + (a.more : Int) ≤ _; omega
  · show (a.L ++ fillS a.came a.next a.more).Pairwise _
    rw [hi]; exact fillS_srt
  · intro x hx
    have hx : x ∈ a.L ++ fillS a.came a.next a.more := hx
    rw [hi, List.nil_append] at hx
    have := fillS_slot hx
    show a.fr ≤ x.slot ∧ x.slot < a.next + (a.more : Int)
    omega
end Go.Vl

namespace Go.Vl
open Classical
set_option maxHeartbeats 4000000 in
set_option maxRecDepth 100000 in
theorem mayE_zero : mayE zeroE.c := by
  have h : bareC zeroE.c = zeroE.c := rfl
  refine ⟨.inl rfl, ?_⟩
  rw [h]
  exact ⟨rfl, rfl, rfl, rfl, rfl, rfl, rfl, ⟨rfl, fun _ _ => rfl, fun _ _ => rfl, fun _ _ => rfl⟩, rfl, fun _ _ => rfl, rfl, rfl, rfl, rfl, rfl, rfl, rfl, rfl⟩
set_option maxHeartbeats 4000000 in
set_option maxRecDepth 100000 in
theorem best1_ge {s : Int} {b : Bal} {came : List (Int × Sl)} {x : Sl} (h : (∃ o, aget came s = some o ∧ ¬ o.bal.lt b) ∨ (x.slot = s ∧ ¬ x.bal.lt b)) : ∃ o, aget (best1 came x) s = some o ∧ ¬ o.bal.lt b := by
  unfold best1
  cases hg : aget came x.slot with
  | none =>
    simp only
    rw [aget_put]
    by_cases hs : x.slot = s
    · rw [if_pos hs]
      rcases h with ⟨o, ho, _⟩ | ⟨_, h⟩
      · rw [hs, ho] at hg; cases hg
      · exact ⟨x, rfl, h⟩
    · rw [if_neg hs]
      rcases h with h | ⟨h, _⟩
      · exact h
      · exact absurd h hs
  | some o =>
    simp only
    by_cases hl : o.bal.lt x.bal
    · rw [if_pos hl, aget_put]
      by_cases hs : x.slot = s
      · rw [if_pos hs]
        rcases h with ⟨p, hp, hb⟩ | ⟨_, h⟩
        · rw [hs, hp] at hg; cases hg
          exact ⟨x, rfl, fun hx => hb (Bal.lt_trans hl hx)⟩
        · exact ⟨x, rfl, h⟩
      · rw [if_neg hs]
        rcases h with h | ⟨h, _⟩
        · exact h
        · exact absurd h hs
    · rw [if_neg hl]
      rcases h with h | ⟨hs, h⟩
      · exact h
      · exact ⟨o, by rw [← hs]; exact hg, ble_trans h hl⟩
set_option maxHeartbeats 4000000 in
set_option maxRecDepth 100000 in
theorem fold_ge {s : Int} {b : Bal} : ∀ {l : List Sl} {came : List (Int × Sl)}, ((∃ o, aget came s = some o ∧ ¬ o.bal.lt b) ∨ ∃ x ∈ l, x.slot = s ∧ ¬ x.bal.lt b) → ∃ o, aget (l.foldl best1 came) s = some o ∧ ¬ o.bal.lt b
  | [], came, h => h.elim id fun ⟨x, hx, _⟩ => by cases hx
  | x :: l, came, h => fold_ge (l := l) (came := best1 came x) (by
    rcases h with h | ⟨y, hy, h⟩
    · exact .inl (best1_ge (.inl h))
    · rcases List.mem_cons.1 hy with rfl | hy
      · exact .inl (best1_ge (.inr h))
      · exact .inr ⟨y, hy, h⟩)
set_option maxHeartbeats 4000000 in
set_option maxRecDepth 100000 in
theorem fillS_mem {came : List (Int × Sl)} {nx : Int} : ∀ {k : Nat} {x : Ol}, x ∈ fillS came nx k → x.en = entOf came x.slot ∧ x.v = noV
  | 0, x, h => by cases h
  | k + 1, x, h => by
    rcases List.mem_append.1 h with h | h
    · exact fillS_mem h
    · rw [List.mem_singleton.1 h]; exact ⟨rfl, rfl⟩
set_option maxHeartbeats 4000000 in
set_option maxRecDepth 100000 in
theorem fillS_has {came : List (Int × Sl)} {nx : Int} : ∀ {k : Nat} {j : Nat}, j < k → (⟨nx + (j : Int), entOf came (nx + (j : Int)), noV⟩ : Ol) ∈ fillS came nx k
  | 0, j, h => absurd h (Nat.not_lt_zero _)
  | k + 1, j, h => by
    show _ ∈ fillS came nx k ++ [_]
    by_cases hj : j = k
    · subst hj; simp
    · exact List.mem_append_left _ (fillS_has (by omega))
/-- what a replica tells a leader -/
noncomputable def told (n l : Nat) (acc : List Sl) : List Sl := acc.filter fun s => decide (s.bal.lt (balL n l))
set_option maxHeartbeats 4000000 in
set_option maxRecDepth 100000 in
theorem told_mem {n l : Nat} {acc : List Sl} {s : Sl} : s ∈ told n l acc ↔ s ∈ acc ∧ s.bal.lt (balL n l) := by unfold told; simp
set_option maxHeartbeats 4000000 in
set_option maxRecDepth 100000 in
theorem nodup_take {L : List Sl} (h : (L.map Sl.slot).Nodup) {i : Nat} {s : Sl} (hi : L[i]? = some s) : ∀ t ∈ L.take i, t.slot ≠ s.slot := by
  intro t ht he
  obtain ⟨j, hj⟩ := List.mem_iff_getElem?.1 ht
  have hji : j < i := by have := (List.getElem?_eq_some_iff.1 hj).1; rw [List.length_take] at this; omega
  rw [List.getElem?_take_of_lt hji] at hj
  obtain ⟨i1, i2⟩ := List.getElem?_eq_some_iff.1 hi
  obtain ⟨j1, j2⟩ := List.getElem?_eq_some_iff.1 hj
  have := List.pairwise_iff_getElem.1 h j i (by rw [List.length_map]; exact j1) (by rw [List.length_map]; exact i1) hji
  rw [List.getElem_map, List.getElem_map, i2, j2] at this
  exact this he
set_option maxHeartbeats 4000000 in
set_option maxRecDepth 100000 in
theorem PxOK.slot {n N : Nat} {S : Px} (h : PxOK n N S) {l : Nat} (hl : l < N) {s : Int} {e : EnC} (he : Ent (S.A l) s e) : 0 ≤ s ∧ s ≤ 4096 ∧ mayE e := by
  obtain ⟨x, hx, rfl, rfl⟩ := he
  have hd := h.ld l hl
  have := hd.ok.sl x hx
  rw [hd.fr] at this
  have h2 := hd.next
  exact ⟨this.1, by omega, (hd.vn x hx).2⟩
set_option maxHeartbeats 4000000 in
set_option maxRecDepth 100000 in
theorem PxOK.told_ok {n N : Nat} {S : Px} (h : PxOK n N S) {k l : Nat} (hk : k < n) (hl : l < N) : (S.A l).wrong (told n l (S.acc k)) = 0 := by
  have hd := h.ld l hl
  have hn : ((told n l (S.acc k)).map Sl.slot).Nodup := (h.nod k hk).sublist (List.filter_sublist.map _)
  refine wrong_0 (fun i s hi => ?_) (fun s hs => ?_) fun s hs => ?_
  · obtain ⟨hm, hb⟩ := told_mem.1 (List.mem_of_getElem? hi)
    obtain ⟨m, hm2, _, he, _⟩ := h.acd k hk s hm
    have := h.slot hm2 he
    exact ⟨by rw [hd.fr]; exact this.1, by omega, by rw [hd.b]; exact hb, nodup_take hn hi⟩
  · obtain ⟨hm, _⟩ := told_mem.1 hs
    obtain ⟨m, hm2, _, he, _⟩ := h.acd k hk s hm
    have := h.slot hm2 he
    rw [hd.fr]; omega
  · obtain ⟨hm, _⟩ := told_mem.1 hs
    obtain ⟨m, hm2, _, he, _⟩ := h.acd k hk s hm
    exact (h.slot hm2 he).2.2
set_option maxHeartbeats 4000000 in
set_option maxRecDepth 100000 in
theorem PxOK.promise {n N : Nat} {S : Px} (h : PxOK n N S) (n5 : n ≤ 5) {k l : Nat} (hk : k < n) (hl : l < N) (hpe : S.prom k = balL n l) (ha : S.asked l k = false) :
    (S.A l).promise (k : Int) (told n l (S.acc k)) = (S.A l).prom2 k (told n l (S.acc k)) ∧ ((S.A l).prom2 k (told n l (S.acc k))).1.2 = 0 ∧
      PxOK n N { S with A := upd1 S.A l ((S.A l).prom2 k (told n l (S.acc k))).2, asked := upd1 S.asked l (upd1 (S.asked l) k true) } := by
  have hp : ¬ (S.prom k).lt (balL n l) := by rw [hpe]; exact Bal.lt_irrefl _
  have hd := h.ld l hl
  have hw := h.told_ok hk hl
  have hpk : (S.A l).p k = false := by
    cases hq : (S.A l).p k with
    | false => rfl
    | true => rw [(h.ask l k hl hk hq).1] at ha; cases ha
  have hq := promise_2 (by rw [hd.hn]; exact hk) hw hpk
  have asko : ∀ j i, S.asked j i = true → upd1 S.asked l (upd1 (S.asked l) k true) j i = true := fun j i hji => by
    by_cases hj : j = l
    · subst hj
      rw [upd1_same]
      by_cases hi : i = k
      · subst hi; rw [upd1_same]
      · rw [upd1_ne hi]; exact hji
    · rw [upd1_ne hj]; exact hji
  have ask : ∀ i, i < n → setv (S.A l).p k i = true → upd1 S.asked l (upd1 (S.asked l) k true) l i = true ∧ ¬ (S.prom i).lt (balL n l) := fun i hi hv => by
    by_cases hik : i = k
    · subst hik; rw [upd1_same, upd1_same]; exact ⟨rfl, hp⟩
    · rw [setv_ne hik] at hv
      exact ⟨asko l i (h.ask l i hl hi hv).1, (h.ask l i hl hi hv).2⟩
  have hvp : Vn n (setv (S.A l).p k) := hd.vp.set hk
  -- what came when it is not ready
  have hcam : (S.A l).ready = false → ∀ i, i < n → setv (S.A l).p k i = true → ∀ m, m < l → ∀ s, S.V i m s → ∃ o, aget ((told n l (S.acc k)).foldl best1 (S.A l).came) s = some o ∧ ¬ o.bal.lt (balL n m) := fun hr i hi hv m hm s hV => by
    by_cases hik : i = k
    · subst hik
      obtain ⟨y, hy, hys, hyb⟩ := h.acn i m s hk (by omega) hV
      refine fold_ge (.inr ⟨y, told_mem.2 ⟨hy, ?_⟩, hys, hyb⟩)
      obtain ⟨q, hq1, hq2, hq3, hq4⟩ := h.acd i hk y hy
      rw [hq2]
      refine balL_lt.2 ?_
      have h1 := h.prm i q _ hk hq1 hq4
      by_cases hql : q < l
      · exact hql
      · exfalso
        rw [hpe] at h1
        have h2 : ¬ l < q := fun g => h1 (balL_lt.2 g)
        obtain rfl : q = l := by omega
        have := hq3.ready hd.ok
        rw [hr] at this
        cases this
    · rw [setv_ne hik] at hv
      exact fold_ge (.inl (h.cam l hl hr i hi hv m hm s hV))
  have hcad : ∀ p ∈ (told n l (S.acc k)).foldl best1 (S.A l).came, ∃ m, m < l ∧ p.2.bal = balL n m ∧ Ent (S.A m) p.1 p.2.en := fun p hp => by
    rcases fold_mem hp with hp | ⟨s, hs, rfl⟩
    · exact h.cad l hl p hp
    · obtain ⟨hs1, hs2⟩ := told_mem.1 hs
      obtain ⟨m, hm, g1, g2, _⟩ := h.acd k hk s hs1
      rw [g1] at hs2
      exact ⟨m, balL_lt.1 hs2, g1, g2⟩
  refine ⟨hq, ?_, ?_⟩
  · unfold Ld.prom2
    split
    · rfl
    · split <;> rfl
  cases hrd : (S.A l).ready with
  | true =>
    rw [show (S.A l).prom2 k (told n l (S.acc k)) = ((true, 0), { S.A l with p := setv (S.A l).p k }) from if_pos hrd]
    exact h.lead ⟨ok_setp hd.ok _, hd.b, hd.fr, hd.hn, hd.next, hd.vn, hvp⟩ (fun _ _ h => h) (fun i hi x hx hv => h.flag l i hl hi x hx hv) ask asko (fun hr => (by rw [show (S.A l).ready = false from hr] at hrd; cases hrd)) (h.cad l hl) (fun _ => h.safe l hl hrd)
  | false =>
    have hcam := hcam hrd
    have hok1 := ok_came hd.ok (setv (S.A l).p k) hw
    obtain ⟨hL0, hnx0⟩ := hd.ok.idle hrd
    by_cases hmaj : maj (S.A l).n ≤ cnt5 (setv (S.A l).p k)
    · rw [show (S.A l).prom2 k (told n l (S.acc k)) = ((true, 0), beginA { S.A l with p := setv (S.A l).p k, came := (told n l (S.acc k)).foldl best1 (S.A l).came }) from (if_neg (by rw [hrd]; simp)).trans (if_pos hmaj)]
      have hbok := beginA_ok hok1 hL0 hnx0
      generalize hce : (told n l (S.acc k)).foldl best1 (S.A l).came = came at *
      have hkey := hok1.key
      have hnod := hok1.nod
      simp only [hd.fr] at hkey hnod
      have hlast := isLast_lastS 0 came
      obtain ⟨mo, hmo⟩ : ∃ mo : Nat, mo = (lastS 0 came + 1 - 0).toNat := ⟨_, rfl⟩
      have hmo2 : (mo : Int) = lastS 0 came + 1 := by have := hlast.lo; omega
      have hmo3 : (mo : Int) ≤ 4097 := by
        rcases hlast.at_ with g | ⟨p, hp, g⟩
        · omega
        · have := (hkey p hp).2.2.2; omega
      have hbL : (beginA { S.A l with p := setv (S.A l).p k, came := came }).L = fillS came 0 mo := by
        show (S.A l).L ++ fillS came (S.A l).next (lastS (S.A l).fr came + 1 - (S.A l).next).toNat = _
        rw [hL0, hnx0, hd.fr, ← hmo]; rfl
      have hbn : (beginA { S.A l with p := setv (S.A l).p k, came := came }).next = (mo : Int) := by
        show (S.A l).next + ((lastS (S.A l).fr came + 1 - (S.A l).next).toNat : Int) = _
        rw [hnx0, hd.fr, ← hmo]; omega
      have hEnt : ∀ s e, aget came s = some e → Ent (beginA { S.A l with p := setv (S.A l).p k, came := came }) s e.en := fun s e he => by
        have hmem := aget_some_mem he
        have h1 := hkey _ hmem
        have h2 := hlast.hi _ hmem
        simp only at h1 h2
        have h3 := fillS_has (came := came) (nx := 0) (k := mo) (j := s.toNat) (by omega)
        have h4 : (0 : Int) + (s.toNat : Int) = s := by omega
        rw [h4] at h3
        refine ⟨_, by rw [hbL]; exact h3, rfl, ?_⟩
        show entOf came s = e.en
        unfold entOf
        rw [he]
      have hdead : ∀ m, m < l → ∀ s, (∀ i, i < n → setv (S.A l).p k i = true → ¬ S.V i m s) → Dead n S.V S.prom m s := fun m hm s hno =>
        ⟨setv (S.A l).p k, by rw [cnt_5 hvp n5]; rw [hd.hn] at hmaj; omega, fun i hi hv => ⟨hno i hi hv, blt_le (balL_lt.2 hm) (ask i hi hv).2⟩⟩
      refine h.lead ⟨hbok, hd.b, hd.fr, hd.hn, by rw [hbn]; exact hmo3, fun x hx => ?_, hvp⟩ (fun s e he => ?_) (fun i hi x hx hv => ?_) ask asko (fun hr => (by cases hr)) hcad (fun _ m hm s => ?_)
      · rw [hbL] at hx
        obtain ⟨g1, g2⟩ := fillS_mem hx
        refine ⟨by rw [g2]; exact vn_no n, ?_⟩
        rw [g1]
        unfold entOf
        cases hg : aget came x.slot with
        | none => exact mayE_zero
        | some o =>
          obtain ⟨m, hm, _, he⟩ := hcad _ (aget_some_mem hg)
          exact (h.slot (by omega) he).2.2
      · obtain ⟨x, hx, _⟩ := he
        rw [hL0] at hx; cases hx
      · rw [hbL] at hx
        rw [(fillS_mem hx).2] at hv
        cases hv
      · cases hg : aget came s with
        | none =>
          refine .inr (hdead m hm s fun i hi hv hV => ?_)
          obtain ⟨o, ho, _⟩ := hcam i hi hv m hm s hV
          rw [hg] at ho; cases ho
        | some o =>
          obtain ⟨q, hq1, hq2, hq3⟩ := hcad _ (aget_some_mem hg)
          by_cases hqm : q < m
          · refine .inr (hdead m hm s fun i hi hv hV => ?_)
            obtain ⟨o2, ho, hb⟩ := hcam i hi hv m hm s hV
            rw [hg] at ho; cases ho
            simp only at hq2
            rw [hq2] at hb
            exact hb (balL_lt.2 hqm)
          · by_cases hqe : q = m
            · subst hqe
              exact .inl ⟨_, hEnt s o hg, hq3⟩
            · rcases h.safe q (by omega) (hq3.ready (h.ld q (by omega)).ok) m (by omega) s with ⟨e, h1, h2⟩ | hD
              · rw [h1.uniq (h.ld q (by omega)).ok hq3] at h2
                exact .inl ⟨_, hEnt s o hg, h2⟩
              · exact .inr hD
    · rw [show (S.A l).prom2 k (told n l (S.acc k)) = ((false, 0), { S.A l with p := setv (S.A l).p k, came := (told n l (S.acc k)).foldl best1 (S.A l).came }) from (if_neg (by rw [hrd]; simp)).trans (if_neg hmaj)]
      exact h.lead ⟨hok1, hd.b, hd.fr, hd.hn, hd.next, hd.vn, hvp⟩ (fun _ _ h => h) (fun i hi x hx hv => h.flag l i hl hi x hx hv) ask asko (fun _ => hcam) hcad (fun hr => (by rw [show (S.A l).ready = true from hr] at hrd; cases hrd))
set_option maxHeartbeats 4000000 in
set_option maxRecDepth 100000 in
theorem PxOK.put {n N : Nat} {S : Px} (h : PxOK n N S) {l : Nat} (hl : l < N) (hr : (S.A l).ready = true) (hx : (S.A l).next ≤ 4096) {e : EnC} (he : mayE e) :
    ((S.A l).put e).1.2 = 0 ∧ PxOK n N { S with A := upd1 S.A l ((S.A l).put e).2 } := by
  have hd := h.ld l hl
  have hp : (S.A l).put e = ((⟨(S.A l).next, (S.A l).b, e⟩, 0), { S.A l with L := (S.A l).L ++ [⟨(S.A l).next, e, noV⟩], next := (S.A l).next + 1 }) := by
    unfold Ld.put
    rw [if_neg (by simpa using he), if_neg (by rw [hr]; simp), if_neg (by omega)]
  rw [hp]
  refine ⟨rfl, ?_⟩
  have hE : ∀ s f, Ent (S.A l) s f → Ent { S.A l with L := (S.A l).L ++ [⟨(S.A l).next, e, noV⟩], next := (S.A l).next + 1 } s f := fun s f ⟨x, hx, h1, h2⟩ => ⟨x, List.mem_append_left _ hx, h1, h2⟩
  refine h.lead (asked' := S.asked) ⟨ok_put hd.ok hr (by omega) e, hd.b, hd.fr, hd.hn, by show (S.A l).next + 1 ≤ 4097; omega, fun x hx => ?_, hd.vp⟩ hE (fun i hi x hx hv => ?_) (fun i hi hv => h.ask l i hl hi hv) (fun _ _ h => h) (fun hr2 => (by rw [show (S.A l).ready = false from hr2] at hr; cases hr)) (h.cad l hl) (fun _ m hm s => ?_)
  · rcases List.mem_append.1 hx with hx | hx
    · exact hd.vn x hx
    · rw [List.mem_singleton.1 hx]; exact ⟨vn_no n, he⟩
  · rcases List.mem_append.1 hx with hx | hx
    · exact h.flag l i hl hi x hx hv
    · rw [List.mem_singleton.1 hx] at hv; cases hv
  · rcases h.safe l hl hr m hm s with ⟨f, h1, h2⟩ | hD
    · exact .inl ⟨f, hE s f h1, h2⟩
    · exact .inr hD
end Go.Vl

namespace Go.Vl
open Go.Proofs Classical
set_option maxHeartbeats 4000000 in
set_option maxRecDepth 100000 in
theorem setO_mem {L : List Ol} {s : Int} {k : Nat} {x : Ol} (h : x ∈ setO L s k) : ∃ y ∈ L, y.slot = x.slot ∧ y.en = x.en ∧ (x.v = y.v ∨ (y.slot = s ∧ x.v = setv y.v k)) := by
  obtain ⟨y, hy, rfl⟩ := List.mem_map.1 h
  refine ⟨y, hy, ?_⟩
  split
  · rename_i hs; exact ⟨rfl, rfl, .inr ⟨hs, rfl⟩⟩
  · exact ⟨rfl, rfl, .inl rfl⟩
set_option maxHeartbeats 4000000 in
set_option maxRecDepth 100000 in
theorem setO_has {L : List Ol} {s : Int} {k : Nat} {y : Ol} (h : y ∈ L) : ∃ x ∈ setO L s k, y.slot = x.slot ∧ y.en = x.en := by
  refine ⟨_, List.mem_map.2 ⟨y, h, rfl⟩, ?_⟩
  split <;> exact ⟨rfl, rfl⟩
set_option maxHeartbeats 4000000 in
set_option maxRecDepth 100000 in
theorem setO_srt {L : List Ol} {s : Int} {k : Nat} (h : L.Pairwise fun x y => x.slot < y.slot) : (setO L s k).Pairwise fun x y => x.slot < y.slot := by
  unfold setO
  rw [List.pairwise_map]
  refine h.imp fun {x y} hxy => ?_
  have e : ∀ z : Ol, (if z.slot = s then { z with v := setv z.v k } else z).slot = z.slot := fun z => by split <;> rfl
  rw [e, e]; exact hxy
set_option maxHeartbeats 4000000 in
set_option maxRecDepth 100000 in
theorem ok_setO {a : Ld} (h : a.ok) (s : Int) (k : Nat) : Ld.ok { a with L := setO a.L s k } := by
  refine ⟨h.n1, h.n5, h.f0, h.f1, h.x0, h.x1, h.key, h.nod, setO_srt h.srt, fun x hx => ?_, fun hr => ?_⟩
  · obtain ⟨y, hy, h1, _⟩ := setO_mem hx
    rw [← h1]; exact h.sl y hy
  · have := h.idle hr
    exact ⟨by show setO a.L s k = []; rw [this.1]; rfl, this.2⟩
set_option maxHeartbeats 4000000 in
set_option maxRecDepth 100000 in
theorem findO_some {L : List Ol} {s : Int} {x : Ol} (h : findO L s = some x) : x ∈ L ∧ x.slot = s :=
  ⟨List.mem_of_find?_eq_some h, of_decide_eq_true (by have := List.find?_some h; simpa using this)⟩
set_option maxHeartbeats 4000000 in
set_option maxRecDepth 100000 in
theorem findO_none {L : List Ol} {s : Int} (h : findO L s = none) : ∀ x ∈ L, x.slot ≠ s := fun x hx he => by
  have := List.find?_eq_none.1 h x hx
  simp [he] at this
set_option maxHeartbeats 4000000 in
set_option maxRecDepth 100000 in
theorem PxOK.flagged {n N : Nat} {S : Px} (h : PxOK n N S) {k l : Nat} (hk : k < n) (hl : l < N) {s : Int} (hv : S.V k l s) :
    (((S.A l).accepted (k : Int) s).1.2 = 0 ∨ ((S.A l).accepted (k : Int) s).1.2 = 5) ∧ PxOK n N { S with A := upd1 S.A l ((S.A l).accepted (k : Int) s).2 } := by
  have hd := h.ld l hl
  have same : PxOK n N { S with A := upd1 S.A l (S.A l) } := by
    refine h.lead (asked' := S.asked) hd (fun _ _ h => h) (fun i hi x hx hv => h.flag l i hl hi x hx hv) (fun i hi hv => h.ask l i hl hi hv) (fun _ _ h => h) (h.cam l hl) (h.cad l hl) (h.safe l hl)
  unfold Ld.accepted
  rw [if_neg (by rw [hd.hn]; omega), Int.toNat_natCast]
  cases hf : findO (S.A l).L s with
  | none =>
    exfalso
    obtain ⟨e, x, hx, hs, _⟩ := h.vot k l s hk hl hv
    exact findO_none hf x hx hs
  | some x =>
    simp only
    by_cases hx : x.v k = true
    · rw [if_pos hx]
      exact ⟨.inr rfl, same⟩
    · rw [if_neg hx]
      refine ⟨.inl rfl, ?_⟩
      have hE : ∀ t f, Ent (S.A l) t f → Ent { S.A l with L := setO (S.A l).L s k } t f := fun t f ⟨y, hy, h1, h2⟩ => by
        obtain ⟨z, hz, g1, g2⟩ := setO_has (s := s) (k := k) hy
        exact ⟨z, hz, by rw [← g1, h1], by rw [← g2, h2]⟩
      refine h.lead (asked' := S.asked) ⟨ok_setO hd.ok s k, hd.b, hd.fr, hd.hn, hd.next, fun y hy => ?_, hd.vp⟩ hE (fun i hi y hy hvy => ?_) (fun i hi hv => h.ask l i hl hi hv) (fun _ _ h => h) (fun hr => h.cam l hl hr) (h.cad l hl) (fun hr m hm t => ?_)
      · obtain ⟨z, hz, _, g2, g3⟩ := setO_mem hy
        refine ⟨?_, by rw [← g2]; exact (hd.vn z hz).2⟩
        rcases g3 with g3 | ⟨_, g3⟩
        · rw [g3]; exact (hd.vn z hz).1
        · rw [g3]; exact (hd.vn z hz).1.set hk
      · obtain ⟨z, hz, g1, _, g3⟩ := setO_mem hy
        rw [← g1]
        rcases g3 with g3 | ⟨g4, g3⟩
        · rw [g3] at hvy; exact h.flag l i hl hi z hz hvy
        · rw [g3] at hvy
          by_cases hik : i = k
          · subst hik; rw [g4]; exact hv
          · rw [setv_ne hik] at hvy
            exact h.flag l i hl hi z hz hvy
      · rcases h.safe l hl hr m hm t with ⟨f, h1, h2⟩ | hD
        · exact .inl ⟨f, hE t f h1, h2⟩
        · exact .inr hD
/-! a leader's open slots in memory -/
structure LoSplit (lo : List Opn) (s : Int) (l1 : List Opn) (x : Opn) (l2 : List Opn) : Prop where
  eq : lo = l1 ++ x :: l2
  hs : x.slot = s
  h1 : ∀ y ∈ l1, y.slot ≠ s
  h2 : ∀ y ∈ l2, y.slot ≠ s
set_option maxHeartbeats 4000000 in
set_option maxRecDepth 100000 in
theorem lo_split {r : LdR} {a : Ld} (hr : r.ok a) {s : Int} {o : Nat} (hg : aget (r.lo.map fun x => (x.slot, x.o)) s = some o) : ∃ l1 x l2, LoSplit r.lo s l1 x l2 ∧ x.o = o := by
  obtain ⟨x, hx, he⟩ := List.mem_map.1 (aget_some_mem hg)
  have hs : x.slot = s := congrArg Prod.fst he
  have ho : x.o = o := congrArg Prod.snd he
  obtain ⟨l1, l2, e⟩ := List.append_of_mem hx
  have hk := lo_keys hr
  rw [e, List.map_append, List.map_cons] at hk
  have hp := List.pairwise_append.1 hk
  refine ⟨l1, x, l2, ⟨e, hs, fun y hy => ?_, fun y hy => ?_⟩, ho⟩
  · have := hp.2.2 y.slot (List.mem_map.2 ⟨y, hy, rfl⟩) x.slot (by simp)
    omega
  · have := (List.pairwise_cons.1 hp.2.1).1 y.slot (List.mem_map.2 ⟨y, hy, rfl⟩)
    omega
set_option maxHeartbeats 4000000 in
set_option maxRecDepth 100000 in
theorem LoSplit.find {r : LdR} {a : Ld} (hr : r.ok a) {s : Int} {l1 l2 : List Opn} {x : Opn} (h : LoSplit r.lo s l1 x l2) : findO a.L s = some x.c := by
  have hm : x.c ∈ a.L := by rw [← hr.L, h.eq]; simp
  cases hf : findO a.L s with
  | none => exact absurd h.hs (findO_none hf x.c hm)
  | some y =>
    obtain ⟨g1, g2⟩ := findO_some hf
    rw [srt_uniq hr.a.srt g1 hm (by rw [g2]; exact h.hs.symm)]
set_option maxHeartbeats 4000000 in
set_option maxRecDepth 100000 in
theorem lo_nofind {r : LdR} {a : Ld} (hr : r.ok a) {s : Int} (hg : aget (r.lo.map fun x => (x.slot, x.o)) s = none) : findO a.L s = none := by
  cases hf : findO a.L s with
  | none => rfl
  | some y =>
    obtain ⟨g1, g2⟩ := findO_some hf
    rw [← hr.L] at g1
    obtain ⟨x, hx, rfl⟩ := List.mem_map.1 g1
    rw [aget_none] at hg
    exact absurd g2 (hg (x.slot, x.o) (List.mem_map.2 ⟨x, hx, rfl⟩))
set_option maxHeartbeats 4000000 in
set_option maxRecDepth 100000 in
theorem LoSplit.set {r : LdR} {a : Ld} (hr : r.ok a) {s : Int} {l1 l2 : List Opn} {x : Opn} (h : LoSplit r.lo s l1 x l2) {k : Nat} {ch : Bool} (hc : ch = decide (maj a.n ≤ cnt5 (setv x.v k))) :
    LdR.ok ⟨r.m1, r.m2, r.bes, r.bclk, r.ses, r.sclk, r.lb, l1 ++ ⟨x.slot, x.o, x.en, setv x.v k, ch⟩ :: l2, r.M⟩ { a with L := setO a.L s k } := by
  have hmem : ∀ y ∈ l1 ++ l2, y ∈ r.lo := fun y hy => by
    rw [h.eq]
    rcases List.mem_append.1 hy with hy | hy
    · exact List.mem_append_left _ hy
    · exact List.mem_append_right _ (List.mem_cons_of_mem _ hy)
  have hx : x ∈ r.lo := by rw [h.eq]; simp
  have hin : ∀ y ∈ l1 ++ ⟨x.slot, x.o, x.en, setv x.v k, ch⟩ :: l2, y = ⟨x.slot, x.o, x.en, setv x.v k, ch⟩ ∨ y ∈ r.lo := fun y hy => by
    rcases List.mem_append.1 hy with hy | hy
    · exact .inr (hmem y (List.mem_append_left _ hy))
    · rcases List.mem_cons.1 hy with hy | hy
      · exact .inl hy
      · exact .inr (hmem y (List.mem_append_right _ hy))
  refine ⟨hr.best, ?_, hr.came, ?_, fun y hy => ?_, hr.bi, fun y hy => ?_, ok_setO hr.a s k⟩
  · have := hr.open_
    rw [h.eq] at this
    simpa using this
  · show (l1 ++ _ :: l2).map Opn.c = setO a.L s k
    rw [← hr.L, h.eq]
    unfold setO
    rw [List.map_map, List.map_append, List.map_append, List.map_cons, List.map_cons]
    have e : ∀ l : List Opn, (∀ y ∈ l, y.slot ≠ s) → l.map ((fun z : Ol => if z.slot = s then { z with v := setv z.v k } else z) ∘ Opn.c) = l.map Opn.c := fun l hl => List.map_congr_left fun y hy => by
      show (if y.slot = s then _ else y.c) = y.c
      rw [if_neg (hl y hy)]
    rw [e l1 h.h1, e l2 h.h2]
    show _ = _ ++ (if x.slot = s then _ else _) :: _
    rw [if_pos h.hs]
  · rcases hin y hy with rfl | hy
    · exact hc
    · exact hr.ch y hy
  · rcases hin y hy with rfl | hy
    · exact hr.li x hx
    · exact hr.li y hy
noncomputable def Ld.chosenE (a : Ld) (s : Int) : Option EnC := (findO a.L s).bind fun x => if x.ch a.n = true then some x.en else none
end Go.Vl
