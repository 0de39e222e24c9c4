/-
  Steps of the proof: HJ, HX.
-/
import Derived.Test.YtpegidbkplgplaaGreatQ20
import Derived.Test.YtpegidbkplgplaaGreatQ18
namespace Go.Vl
open Go.Proofs Classical
set_option maxHeartbeats 4000000 in
set_option maxRecDepth 100000 in
theorem fillS_len (came : List (Int × Sl)) (nx : Int) : ∀ k, (fillS came nx k).length = k
  | 0 => rfl
  | k + 1 => by show (fillS came nx k ++ [_]).length = _; rw [List.length_append, fillS_len came nx k]; rfl
structure FlS where
  j : Nat
  s : Int
  sv : Value
  ls : List RsR
  Sb : Hp
structure FlOK (lc : List SlR) (M : Hp) (fr : Int) (n : Nat) (x : FlS) : Prop where
  s : x.s = fr + (x.j : Int)
  ss : SlO 97 58 x.sv x.ls.length (x.ls.map RsR.cells).flatten x.Sb
  L : x.ls.map RsR.c = fillS (sOf lc) fr x.j
  n : ∀ y ∈ x.ls, y.n = n ∧ y.v = noV
  li : ∀ y ∈ x.ls, EnIn M y.en ∧ EnSz y.en.c
def FlE (lc : List SlR) (s : Int) (i : Nat) (en : EnR) : Prop := (en = zeroE ∧ ∀ t ∈ lc.take i, t.slot ≠ s) ∨ ∃ t ∈ lc.take i, t.slot = s ∧ en = t.en
set_option maxHeartbeats 4000000 in
set_option maxRecDepth 100000 in
theorem FlE.end_ {lc : List SlR} {s : Int} {i : Nat} {en : EnR} (h : FlE lc s i en) (hi : lc.length ≤ i) (hn : ((sOf lc).map Prod.fst).Nodup) : en.c = entOf (sOf lc) s := by
  unfold FlE at h
  rw [List.take_of_length_le hi] at h
  unfold entOf
  rcases h with ⟨rfl, h⟩ | ⟨t, ht, hs, rfl⟩
  · have hg : aget (sOf lc) s = none := by
      rw [aget_none]
      intro p hp
      obtain ⟨t, ht, rfl⟩ := List.mem_map.1 hp
      exact h t ht
    rw [hg]
  · have hg : aget (sOf lc) s = some t.c := aget_of_mem hn (List.mem_map.2 ⟨t, ht, by rw [hs]⟩)
    rw [hg]
set_option maxHeartbeats 4000000 in
set_option maxRecDepth 100000 in
theorem FlE.in_ {lc : List SlR} {s : Int} {i : Nat} {en : EnR} {M : Hp} (h : FlE lc s i en) (hc : ∀ t ∈ lc, EnIn M t.en ∧ EnSz t.en.c) : EnIn M en ∧ EnSz en.c := by
  rcases h with ⟨rfl, _⟩ | ⟨t, ht, _, rfl⟩
  · exact ⟨⟨InSl.nil, InSl.nil⟩, zeroE_sz⟩
  · exact hc t (List.mem_of_mem_take ht)
set_option maxHeartbeats 4000000 in
set_option maxRecDepth 100000 in
theorem FlE.hit {lc : List SlR} {s : Int} {i : Nat} {t : SlR} (hi : lc[i]? = some t) (hs : t.slot = s) : FlE lc s (i + 1) t.en := by
  refine .inr ⟨t, ?_, hs, rfl⟩
  rw [List.take_add_one, hi]
  simp
set_option maxHeartbeats 4000000 in
set_option maxRecDepth 100000 in
theorem FlE.miss {lc : List SlR} {s : Int} {i : Nat} {en : EnR} {t : SlR} (h : FlE lc s i en) (hi : lc[i]? = some t) (hs : t.slot ≠ s) : FlE lc s (i + 1) en := by
  unfold FlE
  rw [List.take_add_one, hi]
  rcases h with ⟨rfl, h⟩ | ⟨u, hu, h1, h2⟩
  · refine .inl ⟨rfl, fun u hu => ?_⟩
    rcases List.mem_append.1 hu with hu | hu
    · exact h u hu
    · have : u = t := by simpa using hu
      rw [this]; exact hs
  · exact .inr ⟨u, List.mem_append_left _ hu, h1, h2⟩
set_option maxHeartbeats 4000000 in
set_option maxRecDepth 100000 in
theorem FlOK.step {lc : List SlR} {M : Hp} {fr : Int} {n : Nat} {x : FlS} (h : FlOK lc M fr n x) {en : EnR} {g : Nat} {v : Value} {B : Hp} (he : en.c = entOf (sOf lc) x.s) (hi : EnIn M en ∧ EnSz en.c)
    (hv : SlO 97 58 v (x.ls ++ [RsR.mk x.s en noV n g]).length ((x.ls ++ [RsR.mk x.s en noV n g]).map RsR.cells).flatten B) : FlOK lc M fr n ⟨x.j + 1, x.s + 1, v, x.ls ++ [⟨x.s, en, noV, n, g⟩], B⟩ := by
  have hs := h.s
  refine ⟨by simp only; omega, hv, ?_, fun y hy => ?_, fun y hy => ?_⟩
  · show (x.ls ++ [_]).map RsR.c = fillS (sOf lc) fr x.j ++ [_]
    rw [List.map_append, h.L]
    show _ ++ [Ol.mk x.s en.c noV] = _
    rw [he, hs]
  · rcases List.mem_append.1 hy with hy | hy
    · exact h.n y hy
    · rw [List.mem_singleton.1 hy]; exact ⟨rfl, rfl⟩
  · rcases List.mem_append.1 hy with hy | hy
    · exact h.li y hy
    · rw [List.mem_singleton.1 hy]; exact hi
def lastK (fr : Int) (lc : List SlR) (k : Nat) : Int := lastS fr ((sOf lc).take k)
set_option maxHeartbeats 4000000 in
set_option maxRecDepth 100000 in
theorem lastK_step {fr : Int} {lc : List SlR} {k : Nat} {t : SlR} (h : lc[k]? = some t) : lastK fr lc (k + 1) = max (lastK fr lc k) t.slot := by
  unfold lastK lastS
  have hk : (sOf lc)[k]? = some (t.slot, t.c) := by rw [List.getElem?_map, h]; rfl
  rw [List.take_add_one, hk, List.foldl_append]
  rfl
set_option maxHeartbeats 4000000 in
set_option maxRecDepth 100000 in
theorem lastK_end {fr : Int} {lc : List SlR} {k : Nat} (h : lc.length ≤ k) : lastK fr lc k = lastS fr (sOf lc) := by
  unfold lastK
  rw [List.take_of_length_le (by rw [List.length_map]; exact h)]
attribute [local irreducible] eqW eqV wpC wpO wpD Ex Rd callsK RetP Drop valK
set_option maxHeartbeats 4000000 in
set_option maxRecDepth 100000 in
theorem rfill (e : World) {b : Bal} {fr : Int} {n g d : Nat} {cv sv : Value} {lc : List SlR} {Cb Sb M F : Hp} {K : Value → Hp → Prop} (hcs : SlO 73 59 cv lc.length (lc.map SlR.cells).flatten Cb) (hss : SlO 97 58 sv 0 [] Sb)
    (hkey : ∀ s ∈ lc, fr ≤ s.slot ∧ s.slot ≤ fr + 4096) (hnd : ((sOf lc).map Prod.fst).Nodup) (hci : ∀ s ∈ lc, EnIn M s.en ∧ EnSz s.en.c) (f0 : 0 ≤ fr) (f1 : fr ≤ 1099511627776) (n5 : n ≤ 5) (hll : lc.length ≤ 4611686018427387904)
    (hK : ∀ sv' ls Sb', SlO 97 58 sv' ls.length (ls.map RsR.cells).flatten Sb' → ls.map RsR.c = fillS (sOf lc) fr (lastS fr (sOf lc) + 1 - fr).toNat → (∀ y ∈ ls, y.n = n ∧ y.v = noV) → (∀ y ∈ ls, EnIn M y.en ∧ EnSz y.en.c) →
      K (.tuple #[]) (([(d, cellsO (rfC b fr n g cv true (fr + ((lastS fr (sOf lc) + 1 - fr).toNat : Int)) sv') 69)] ++ (Cb ++ Sb')) ++ (rsH ls ++ (M ++ F)))) :
    callsK Tryz.prog e 49 #[pv d] (([(d, cellsO (rfC b fr n g cv true fr sv) 69)] ++ (Cb ++ Sb)) ++ (M ++ F)) K := by
  have hin := slInn hcs
  have hml : (lc.map SlR.cells).length = lc.length := List.length_map _
  have hL := isLast_lastS fr (sOf lc)
  have hlo := hL.lo
  have hhi : lastS fr (sOf lc) ≤ fr + 4096 := by
    rcases hL.at_ with h | ⟨p, hp, h⟩
    · omega
    · obtain ⟨t, ht, rfl⟩ := List.mem_map.1 hp
      have := (hkey t ht).2
      simp only at h; omega
  refine calls_body (N := 97) (args := [pv d]) Tryz.func49 rfl rfl rfl (by simp) ?_
  repeat' ((fail_if_success (show wpC _ (.loop _) _ _ _ _)); first | (show wpO _ _ _ _ _ _ _; first | refine wpO_nil ?_ | (show wpO _ _ _ (⟨_, .binOp _ _ _ _ _, _, _, _, _⟩ :: _) _ _ _; first | refine s_tt ?_ | refine s_ff ?_ | refine s_rdp ?_ | ((first | refine s_cmp (fun _ => ?_) (fun _ => ?_) | refine s_cb (fun _ => ?_) (fun _ => ?_)) <;> (first | (exfalso; omega) | contradiction | skip))) | (show wpO _ _ _ (⟨_, .indexAddr _ _ _, _, _, _, _⟩ :: _) _ _ _; first | refine s_rdp ?_ | refine s_idx (fun _ _ _ _ _ _ _ => ?_)) | refine s_rdp ?_ | refine s_rdm ?_ | refine s_exq ?_ | refine s_exm ?_) | (show Ex _ _ _ _ _; first | (show Ex _ ⟨_, .alloc _, _, _, _, _⟩ _ _ _; first | (refine e_allocA ?_; intro _) | (refine e_alloc1 ?_; intro _)) | (show Ex _ ⟨_, .store _ _ _, _, _, _, _⟩ _ _ _; first | refine e_store1 ?_ | refine e_storeA ?_ | (refine e_storeO ?_; intro _ _)) | (show Ex _ ⟨_, .buildSlice _ _ _, _, _, _, _⟩ _ _ _; first | (refine e_buildSlice ?_; intro _) | (refine e_buildNil ?_; intro _ _ _)) | (show Ex _ ⟨_, .call ⟨.builtin .append, _, _⟩, _, _, _, _⟩ _ _ _; (first | refine e_append ?_ | refine e_appendIn ?_); intro _ _ _)) | (show wpC _ _ _ _ _ _; first | refine wpC_seq ?_ | refine wpC_region ?_ | refine c_true ?_ | refine c_false ?_ | (refine c_b (fun _ => ?_) (fun _ => ?_) <;> (first | (exfalso; omega) | contradiction | skip)) | refine wpC_block ?_ | refine wpC_ret ?_ | refine wpC_skip ?_ | refine wpC_exit ?_ | refine wpC_label ?_ | ((first | apply wpC_drawX (id := 3) ([]) [0, 1, 2, 3, 4, 5, 6, 7, 8, 9, 10, 11, 12] rfl (by kernel_rfl) | apply wpC_drawX (id := 14) ([]) [0, 1, 2, 3, 4, 5, 6, 7, 8, 9, 10] rfl (by kernel_rfl)); (case hpk => (repeat (first | exact Pcs.blk (by infer_instance) | exact Pcs.nil | (apply Pcs.cons; infer_instance) | apply Pcs.app))))) | (show Then _ _ _ _ _ _ _; first | refine then_normal ?_ | refine then_ret ?_ | refine then_exit ?_) | (show InBlock _ _ _ _ _ _; first | refine inBlock_normal ?_ | refine inBlock_ret ?_ | refine inBlock_same ?_ | refine b_other ?_) | (show LoopPost _ _ _ _ _ _; first | refine loop_ret ?_ | refine loop_exit ?_) | (show wpD _ _ _ _ _ _ _ _; first | refine wpD_nil ?_ | refine d_rdp ?_ | refine d_rdm ?_ | refine d_tt ?_ | refine d_ff ?_ | ((first | refine d_cmp (fun _ => ?_) (fun _ => ?_) | refine d_cb (fun _ => ?_) (fun _ => ?_)) <;> (first | (exfalso; omega) | contradiction | skip)) | refine d_idx (fun _ _ _ _ _ _ _ => ?_) | refine d_exs ?_ | refine d_exn ?_) | (show (_ ∨ Subs _ _) ∧ _; first | refine d_sub ?_ | refine d_cov ?_) | (show RetP _ _ _ _ _ _ _ _; first | refine r_0 ?_))
  refine wpC_loopA (κ := Nat × Int) [2, 6, 7, 8, 9, 10, 11, 12, 13, 14, 15, 16, 17, 18, 19, 20, 21, 22, 23, 24, 25, 26, 27, 28, 29, 30, 31, 32, 33, 34, 35, 36, 37, 38, 39] (fun k => [(2, .int .i64 (k.1 : Int))]) (fun k => ([(d, cellsO (rfC b fr n g cv true k.2 sv) 69)] ++ (Cb ++ Sb)) ++ (M ++ F)) (fun k => k.1 ≤ lc.length ∧ k.2 = lastK fr lc k.1 + 1 ∧ fr ≤ k.2 ∧ k.2 ≤ fr + 4097) (fun k => lc.length - k.1) (0, fr) ⟨Nat.zero_le _, by show fr = lastK fr lc 0 + 1; unfold lastK lastS; simp, Int.le_refl _, by simp only; omega⟩ ⟨rfl, trivial⟩ q_drp ?_
  rintro ⟨k, nx⟩ ρx ⟨hk, hnx, hnl, hnh⟩
  simp only at hk hnx hnl hnh ⊢
  cases hr : lc[k]? with
  | some t =>
    have hkl := (List.getElem?_eq_some_iff.1 hr).1
    obtain ⟨hkt1, hkt2⟩ := hkey t (List.mem_of_getElem? hr)
    have hst := lastK_step (fr := fr) hr
    repeat' (first | (show wpO _ _ _ _ _ _ _; first | refine wpO_nil ?_ | (show wpO _ _ _ (⟨_, .binOp _ _ _ _ _, _, _, _, _⟩ :: _) _ _ _; first | refine s_tt ?_ | refine s_ff ?_ | refine s_rdp ?_ | ((first | refine s_cmp (fun _ => ?_) (fun _ => ?_) | refine s_cb (fun _ => ?_) (fun _ => ?_)) <;> (first | (exfalso; omega) | contradiction | skip))) | (show wpO _ _ _ (⟨_, .indexAddr _ _ _, _, _, _, _⟩ :: _) _ _ _; first | refine s_rdp ?_ | refine s_idx (fun _ _ _ _ _ _ _ => ?_)) | refine s_rdp ?_ | refine s_rdm ?_ | refine s_exq ?_ | refine s_exm ?_) | (show Ex _ _ _ _ _; first | (show Ex _ ⟨_, .alloc _, _, _, _, _⟩ _ _ _; first | (refine e_allocA ?_; intro _) | (refine e_alloc1 ?_; intro _)) | (show Ex _ ⟨_, .store _ _ _, _, _, _, _⟩ _ _ _; first | refine e_store1 ?_ | refine e_storeA ?_ | (refine e_storeO ?_; intro _ _)) | (show Ex _ ⟨_, .buildSlice _ _ _, _, _, _, _⟩ _ _ _; first | (refine e_buildSlice ?_; intro _) | (refine e_buildNil ?_; intro _ _ _)) | (show Ex _ ⟨_, .call ⟨.builtin .append, _, _⟩, _, _, _, _⟩ _ _ _; (first | refine e_append ?_ | refine e_appendIn ?_); intro _ _ _)) | (show wpC _ _ _ _ _ _; first | refine wpC_seq ?_ | refine wpC_region ?_ | refine c_true ?_ | refine c_false ?_ | (refine c_b (fun _ => ?_) (fun _ => ?_) <;> (first | (exfalso; omega) | contradiction | skip)) | refine wpC_block ?_ | refine wpC_ret ?_ | refine wpC_skip ?_ | refine wpC_exit ?_ | refine wpC_label ?_ | ((first | apply wpC_drawX (id := 3) ([]) [0, 1, 2, 3, 4, 5, 6, 7, 8, 9, 10, 11, 12] rfl (by kernel_rfl) | apply wpC_drawX (id := 14) ([]) [0, 1, 2, 3, 4, 5, 6, 7, 8, 9, 10] rfl (by kernel_rfl)); (case hpk => (repeat (first | exact Pcs.blk (by infer_instance) | exact Pcs.nil | (apply Pcs.cons; infer_instance) | apply Pcs.app))))) | (show Then _ _ _ _ _ _ _; first | refine then_normal ?_ | refine then_ret ?_ | refine then_exit ?_) | (show InBlock _ _ _ _ _ _; first | refine inBlock_normal ?_ | refine inBlock_ret ?_ | refine inBlock_same ?_ | refine b_other ?_) | (show LoopPost _ _ _ _ _ _; first | refine loop_ret ?_ | refine loop_exit ?_) | (show wpD _ _ _ _ _ _ _ _; first | refine wpD_nil ?_ | refine d_rdp ?_ | refine d_rdm ?_ | refine d_tt ?_ | refine d_ff ?_ | ((first | refine d_cmp (fun _ => ?_) (fun _ => ?_) | refine d_cb (fun _ => ?_) (fun _ => ?_)) <;> (first | (exfalso; omega) | contradiction | skip)) | refine d_idx (fun _ _ _ _ _ _ _ => ?_) | refine d_exs ?_ | refine d_exn ?_) | (show (_ ∨ Subs _ _) ∧ _; first | refine d_sub ?_ | refine d_cov ?_) | (show RetP _ _ _ _ _ _ _ _; first | refine r_0 ?_))
    all_goals first
      | (exfalso; omega)
      | exact lp_end (k + 1, t.slot + 1) (by simp only; omega) ⟨hkl, by simp only; omega, by simp only; omega, by simp only; omega⟩
      | exact lp_end (k + 1, nx) (by simp only; omega) ⟨hkl, by simp only; omega, by simp only; omega, by simp only; omega⟩
      | trace_state
  | none =>
    have hge : lc.length ≤ k := List.getElem?_eq_none_iff.1 hr
    rw [lastK_end hge] at hnx
    obtain ⟨m, hm⟩ : ∃ m : Nat, m = (lastS fr (sOf lc) + 1 - fr).toNat := ⟨_, rfl⟩
    rw [← hm] at hK
    have hm2 : nx = fr + (m : Int) := by omega
    clear hL
    subst hm2
    repeat' ((fail_if_success (show wpC _ (.loop _) _ _ _ _)); first | (show wpO _ _ _ _ _ _ _; first | refine wpO_nil ?_ | (show wpO _ _ _ (⟨_, .binOp _ _ _ _ _, _, _, _, _⟩ :: _) _ _ _; first | refine s_tt ?_ | refine s_ff ?_ | refine s_rdp ?_ | ((first | refine s_cmp (fun _ => ?_) (fun _ => ?_) | refine s_cb (fun _ => ?_) (fun _ => ?_)) <;> (first | (exfalso; omega) | contradiction | skip))) | (show wpO _ _ _ (⟨_, .indexAddr _ _ _, _, _, _, _⟩ :: _) _ _ _; first | refine s_rdp ?_ | refine s_idx (fun _ _ _ _ _ _ _ => ?_)) | refine s_rdp ?_ | refine s_rdm ?_ | refine s_exq ?_ | refine s_exm ?_) | (show Ex _ _ _ _ _; first | (show Ex _ ⟨_, .alloc _, _, _, _, _⟩ _ _ _; first | (refine e_allocA ?_; intro _) | (refine e_alloc1 ?_; intro _)) | (show Ex _ ⟨_, .store _ _ _, _, _, _, _⟩ _ _ _; first | refine e_store1 ?_ | refine e_storeA ?_ | (refine e_storeO ?_; intro _ _)) | (show Ex _ ⟨_, .buildSlice _ _ _, _, _, _, _⟩ _ _ _; first | (refine e_buildSlice ?_; intro _) | (refine e_buildNil ?_; intro _ _ _)) | (show Ex _ ⟨_, .call ⟨.builtin .append, _, _⟩, _, _, _, _⟩ _ _ _; (first | refine e_append ?_ | refine e_appendIn ?_); intro _ _ _)) | (show wpC _ _ _ _ _ _; first | refine wpC_seq ?_ | refine wpC_region ?_ | refine c_true ?_ | refine c_false ?_ | (refine c_b (fun _ => ?_) (fun _ => ?_) <;> (first | (exfalso; omega) | contradiction | skip)) | refine wpC_block ?_ | refine wpC_ret ?_ | refine wpC_skip ?_ | refine wpC_exit ?_ | refine wpC_label ?_ | ((first | apply wpC_drawX (id := 3) ([]) [0, 1, 2, 3, 4, 5, 6, 7, 8, 9, 10, 11, 12] rfl (by kernel_rfl) | apply wpC_drawX (id := 14) ([]) [0, 1, 2, 3, 4, 5, 6, 7, 8, 9, 10] rfl (by kernel_rfl)); (case hpk => (repeat (first | exact Pcs.blk (by infer_instance) | exact Pcs.nil | (apply Pcs.cons; infer_instance) | apply Pcs.app))))) | (show Then _ _ _ _ _ _ _; first | refine then_normal ?_ | refine then_ret ?_ | refine then_exit ?_) | (show InBlock _ _ _ _ _ _; first | refine inBlock_normal ?_ | refine inBlock_ret ?_ | refine inBlock_same ?_ | refine b_other ?_) | (show LoopPost _ _ _ _ _ _; first | refine loop_ret ?_ | refine loop_exit ?_) | (show wpD _ _ _ _ _ _ _ _; first | refine wpD_nil ?_ | refine d_rdp ?_ | refine d_rdm ?_ | refine d_tt ?_ | refine d_ff ?_ | ((first | refine d_cmp (fun _ => ?_) (fun _ => ?_) | refine d_cb (fun _ => ?_) (fun _ => ?_)) <;> (first | (exfalso; omega) | contradiction | skip)) | refine d_idx (fun _ _ _ _ _ _ _ => ?_) | refine d_exs ?_ | refine d_exn ?_) | (show (_ ∨ Subs _ _) ∧ _; first | refine d_sub ?_ | refine d_cov ?_) | (show RetP _ _ _ _ _ _ _ _; first | refine r_0 ?_))
    all_goals first | (exfalso; omega) | skip
    have h0 : FlOK lc M fr n ⟨0, fr, sv, [], Sb⟩ := ⟨by simp, hss, rfl, fun y h => (by cases h), fun y h => (by cases h)⟩
    refine wpC_loopA (κ := FlS) [3, 4, 5, 44, 45, 46, 47, 48, 49, 50, 51, 52, 53, 54, 55, 56, 57, 58, 59, 60, 61, 62, 63, 64, 65, 66, 67, 68, 69, 70, 71, 72, 73, 74, 75, 76, 77, 78, 79, 80, 81, 82, 83, 84, 85, 86, 87, 88, 89, 90, 91, 92, 93, 94, 95, 96] (fun x => [(3, .int .i64 x.s)]) (fun x => ([(d, cellsO (rfC b fr n g cv true (fr + (m : Int)) x.sv) 69)] ++ (Cb ++ x.Sb)) ++ (rsH x.ls ++ (M ++ F))) (fun x => x.j ≤ m ∧ FlOK lc M fr n x) (fun x => m - x.j) ⟨0, fr, sv, [], Sb⟩ ⟨Nat.zero_le _, h0⟩ ⟨rfl, trivial⟩ q_drp ?_
    clear h0 hss
    rintro ⟨j, s, sv', ls, Sb'⟩ ρy ⟨hj, hF⟩
    have hs := hF.s
    have hss := hF.ss
    simp only at hj hs hss ⊢
    have hlsj : ls.length = j := by
      have h9 := congrArg List.length hF.L
      rw [List.length_map] at h9
      simp only at h9
      rw [h9, fillS_len]
    by_cases hjm : j < m
    · have hsm : s < fr + (m : Int) := by omega
      repeat' ((fail_if_success (show wpC _ (.loop _) _ _ _ _)); first | (show wpO _ _ _ _ _ _ _; first | refine wpO_nil ?_ | (show wpO _ _ _ (⟨_, .binOp _ _ _ _ _, _, _, _, _⟩ :: _) _ _ _; first | refine s_tt ?_ | refine s_ff ?_ | refine s_rdp ?_ | ((first | refine s_cmp (fun _ => ?_) (fun _ => ?_) | refine s_cb (fun _ => ?_) (fun _ => ?_)) <;> (first | (exfalso; omega) | contradiction | skip))) | (show wpO _ _ _ (⟨_, .indexAddr _ _ _, _, _, _, _⟩ :: _) _ _ _; first | refine s_rdp ?_ | refine s_idx (fun _ _ _ _ _ _ _ => ?_)) | refine s_rdp ?_ | refine s_rdm ?_ | refine s_exq ?_ | refine s_exm ?_) | (show Ex _ _ _ _ _; first | (refine e_mk99 (n := n) (fun _ => ?_) (by exact rfl) n5) | (show Ex _ ⟨_, .alloc _, _, _, _, _⟩ _ _ _; first | (refine e_allocA ?_; intro _) | (refine e_alloc1 ?_; intro _)) | (show Ex _ ⟨_, .store _ _ _, _, _, _, _⟩ _ _ _; first | refine e_store1 ?_ | refine e_storeA ?_ | (refine e_storeO ?_; intro _ _)) | (show Ex _ ⟨_, .buildSlice _ _ _, _, _, _, _⟩ _ _ _; first | (refine e_buildSlice ?_; intro _) | (refine e_buildNil ?_; intro _ _ _)) | (show Ex _ ⟨_, .call ⟨.builtin .append, _, _⟩, _, _, _, _⟩ _ _ _; (first | refine e_append ?_ | refine e_appendIn ?_); intro _ _ _)) | (show wpC _ _ _ _ _ _; first | refine wpC_seq ?_ | refine wpC_region ?_ | refine c_true ?_ | refine c_false ?_ | (refine c_b (fun _ => ?_) (fun _ => ?_) <;> (first | (exfalso; omega) | contradiction | skip)) | refine wpC_block ?_ | refine wpC_ret ?_ | refine wpC_skip ?_ | refine wpC_exit ?_ | refine wpC_label ?_ | ((first | apply wpC_drawX (id := 3) ([]) [0, 1, 2, 3, 4, 5, 6, 7, 8, 9, 10, 11, 12] rfl (by kernel_rfl) | apply wpC_drawX (id := 14) ([]) [0, 1, 2, 3, 4, 5, 6, 7, 8, 9, 10] rfl (by kernel_rfl)); (case hpk => (repeat (first | exact Pcs.blk (by infer_instance) | exact Pcs.nil | (apply Pcs.cons; infer_instance) | apply Pcs.app))))) | (show Then _ _ _ _ _ _ _; first | refine then_normal ?_ | refine then_ret ?_ | refine then_exit ?_) | (show InBlock _ _ _ _ _ _; first | refine inBlock_normal ?_ | refine inBlock_ret ?_ | refine inBlock_same ?_ | refine b_other ?_) | (show LoopPost _ _ _ _ _ _; first | refine loop_ret ?_ | refine loop_exit ?_) | (show wpD _ _ _ _ _ _ _ _; first | refine wpD_nil ?_ | refine d_rdp ?_ | refine d_rdm ?_ | refine d_tt ?_ | refine d_ff ?_ | ((first | refine d_cmp (fun _ => ?_) (fun _ => ?_) | refine d_cb (fun _ => ?_) (fun _ => ?_)) <;> (first | (exfalso; omega) | contradiction | skip)) | refine d_idx (fun _ _ _ _ _ _ _ => ?_) | refine d_exs ?_ | refine d_exn ?_) | (show (_ ∨ Subs _ _) ∧ _; first | refine d_sub ?_ | refine d_cov ?_) | (show RetP _ _ _ _ _ _ _ _; first | refine r_0 ?_) | assumption | intro _)
      all_goals first | (exfalso; omega) | skip
      rename_i g2 b4
      refine wpC_loopA (κ := Nat × EnR) [5, 59, 60, 61, 62, 63, 64, 65, 66, 67, 68, 69, 70, 71, 72, 73, 74, 75, 76, 77, 78, 79, 80, 81, 82, 83, 84, 85, 86] (fun k => [(5, .int .i64 (k.1 : Int))]) (fun k => ([(b4, cellsO (RsR.mk s k.2 noV n g2).cells 97), (g2, cellsO (List.replicate n [Value.bool false]).flatten 4)] ++ ([(d, cellsO (rfC b fr n g cv true (fr + (m : Int)) sv') 69)] ++ (Cb ++ Sb'))) ++ (rsH ls ++ (M ++ F))) (fun k => k.1 ≤ lc.length ∧ FlE lc s k.1 k.2) (fun k => lc.length - k.1) (0, zeroE) ⟨Nat.zero_le _, .inl ⟨rfl, by simp⟩⟩ ⟨rfl, trivial⟩ q_drp ?_
      rintro ⟨i, en⟩ ρz ⟨hi, hE⟩
      simp only at hi hE ⊢
      cases hr2 : lc[i]? with
      | some t =>
        have hil := (List.getElem?_eq_some_iff.1 hr2).1
        by_cases hts : t.slot = s
        · repeat' (first | (show wpO _ _ _ _ _ _ _; first | refine wpO_nil ?_ | (show wpO _ _ _ (⟨_, .binOp _ _ _ _ _, _, _, _, _⟩ :: _) _ _ _; first | refine s_tt ?_ | refine s_ff ?_ | refine s_rdp ?_ | ((first | refine s_cmp (fun _ => ?_) (fun _ => ?_) | refine s_cb (fun _ => ?_) (fun _ => ?_)) <;> (first | (exfalso; omega) | contradiction | skip))) | (show wpO _ _ _ (⟨_, .indexAddr _ _ _, _, _, _, _⟩ :: _) _ _ _; first | refine s_rdp ?_ | refine s_idx (fun _ _ _ _ _ _ _ => ?_)) | refine s_rdp ?_ | refine s_rdm ?_ | refine s_exq ?_ | refine s_exm ?_) | (show Ex _ _ _ _ _; first | (show Ex _ ⟨_, .alloc _, _, _, _, _⟩ _ _ _; first | (refine e_allocA ?_; intro _) | (refine e_alloc1 ?_; intro _)) | (show Ex _ ⟨_, .store _ _ _, _, _, _, _⟩ _ _ _; first | refine e_store1 ?_ | refine e_storeA ?_ | (refine e_storeO ?_; intro _ _)) | (show Ex _ ⟨_, .buildSlice _ _ _, _, _, _, _⟩ _ _ _; first | (refine e_buildSlice ?_; intro _) | (refine e_buildNil ?_; intro _ _ _)) | (show Ex _ ⟨_, .call ⟨.builtin .append, _, _⟩, _, _, _, _⟩ _ _ _; (first | refine e_append ?_ | refine e_appendIn ?_); intro _ _ _)) | (show wpC _ _ _ _ _ _; first | refine wpC_seq ?_ | refine wpC_region ?_ | refine c_true ?_ | refine c_false ?_ | (refine c_b (fun _ => ?_) (fun _ => ?_) <;> (first | (exfalso; omega) | contradiction | skip)) | refine wpC_block ?_ | refine wpC_ret ?_ | refine wpC_skip ?_ | refine wpC_exit ?_ | refine wpC_label ?_ | ((first | apply wpC_drawX (id := 3) ([]) [0, 1, 2, 3, 4, 5, 6, 7, 8, 9, 10, 11, 12] rfl (by kernel_rfl) | apply wpC_drawX (id := 14) ([]) [0, 1, 2, 3, 4, 5, 6, 7, 8, 9, 10] rfl (by kernel_rfl)); (case hpk => (repeat (first | exact Pcs.blk (by infer_instance) | exact Pcs.nil | (apply Pcs.cons; infer_instance) | apply Pcs.app))))) | (show Then _ _ _ _ _ _ _; first | refine then_normal ?_ | refine then_ret ?_ | refine then_exit ?_) | (show InBlock _ _ _ _ _ _; first | refine inBlock_normal ?_ | refine inBlock_ret ?_ | refine inBlock_same ?_ | refine b_other ?_) | (show LoopPost _ _ _ _ _ _; first | refine loop_ret ?_ | refine loop_exit ?_) | (show wpD _ _ _ _ _ _ _ _; first | refine wpD_nil ?_ | refine d_rdp ?_ | refine d_rdm ?_ | refine d_tt ?_ | refine d_ff ?_ | ((first | refine d_cmp (fun _ => ?_) (fun _ => ?_) | refine d_cb (fun _ => ?_) (fun _ => ?_)) <;> (first | (exfalso; omega) | contradiction | skip)) | refine d_idx (fun _ _ _ _ _ _ _ => ?_) | refine d_exs ?_ | refine d_exn ?_) | (show (_ ∨ Subs _ _) ∧ _; first | refine d_sub ?_ | refine d_cov ?_) | (show RetP _ _ _ _ _ _ _ _; first | refine r_0 ?_))
          all_goals first
            | (exfalso; omega)
            | exact lp_end (i + 1, t.en) (by simp only; omega) ⟨hil, FlE.hit hr2 hts⟩
            | trace_state
        · repeat' (first | (show wpO _ _ _ _ _ _ _; first | refine wpO_nil ?_ | (show wpO _ _ _ (⟨_, .binOp _ _ _ _ _, _, _, _, _⟩ :: _) _ _ _; first | refine s_tt ?_ | refine s_ff ?_ | refine s_rdp ?_ | ((first | refine s_cmp (fun _ => ?_) (fun _ => ?_) | refine s_cb (fun _ => ?_) (fun _ => ?_)) <;> (first | (exfalso; omega) | contradiction | skip))) | (show wpO _ _ _ (⟨_, .indexAddr _ _ _, _, _, _, _⟩ :: _) _ _ _; first | refine s_rdp ?_ | refine s_idx (fun _ _ _ _ _ _ _ => ?_)) | refine s_rdp ?_ | refine s_rdm ?_ | refine s_exq ?_ | refine s_exm ?_) | (show Ex _ _ _ _ _; first | (show Ex _ ⟨_, .alloc _, _, _, _, _⟩ _ _ _; first | (refine e_allocA ?_; intro _) | (refine e_alloc1 ?_; intro _)) | (show Ex _ ⟨_, .store _ _ _, _, _, _, _⟩ _ _ _; first | refine e_store1 ?_ | refine e_storeA ?_ | (refine e_storeO ?_; intro _ _)) | (show Ex _ ⟨_, .buildSlice _ _ _, _, _, _, _⟩ _ _ _; first | (refine e_buildSlice ?_; intro _) | (refine e_buildNil ?_; intro _ _ _)) | (show Ex _ ⟨_, .call ⟨.builtin .append, _, _⟩, _, _, _, _⟩ _ _ _; (first | refine e_append ?_ | refine e_appendIn ?_); intro _ _ _)) | (show wpC _ _ _ _ _ _; first | refine wpC_seq ?_ | refine wpC_region ?_ | refine c_true ?_ | refine c_false ?_ | (refine c_b (fun _ => ?_) (fun _ => ?_) <;> (first | (exfalso; omega) | contradiction | skip)) | refine wpC_block ?_ | refine wpC_ret ?_ | refine wpC_skip ?_ | refine wpC_exit ?_ | refine wpC_label ?_ | ((first | apply wpC_drawX (id := 3) ([]) [0, 1, 2, 3, 4, 5, 6, 7, 8, 9, 10, 11, 12] rfl (by kernel_rfl) | apply wpC_drawX (id := 14) ([]) [0, 1, 2, 3, 4, 5, 6, 7, 8, 9, 10] rfl (by kernel_rfl)); (case hpk => (repeat (first | exact Pcs.blk (by infer_instance) | exact Pcs.nil | (apply Pcs.cons; infer_instance) | apply Pcs.app))))) | (show Then _ _ _ _ _ _ _; first | refine then_normal ?_ | refine then_ret ?_ | refine then_exit ?_) | (show InBlock _ _ _ _ _ _; first | refine inBlock_normal ?_ | refine inBlock_ret ?_ | refine inBlock_same ?_ | refine b_other ?_) | (show LoopPost _ _ _ _ _ _; first | refine loop_ret ?_ | refine loop_exit ?_) | (show wpD _ _ _ _ _ _ _ _; first | refine wpD_nil ?_ | refine d_rdp ?_ | refine d_rdm ?_ | refine d_tt ?_ | refine d_ff ?_ | ((first | refine d_cmp (fun _ => ?_) (fun _ => ?_) | refine d_cb (fun _ => ?_) (fun _ => ?_)) <;> (first | (exfalso; omega) | contradiction | skip)) | refine d_idx (fun _ _ _ _ _ _ _ => ?_) | refine d_exs ?_ | refine d_exn ?_) | (show (_ ∨ Subs _ _) ∧ _; first | refine d_sub ?_ | refine d_cov ?_) | (show RetP _ _ _ _ _ _ _ _; first | refine r_0 ?_))
          all_goals first
            | (exfalso; omega)
            | exact lp_end (i + 1, en) (by simp only; omega) ⟨hil, hE.miss hr2 hts⟩
            | trace_state
      | none =>
        have hge2 : lc.length ≤ i := List.getElem?_eq_none_iff.1 hr2
        have hec := hE.end_ hge2 hnd
        have hei := hE.in_ hci
        repeat' (first | (show wpO _ _ _ _ _ _ _; first | refine wpO_nil ?_ | (show wpO _ _ _ (⟨_, .binOp _ _ _ _ _, _, _, _, _⟩ :: _) _ _ _; first | refine s_tt ?_ | refine s_ff ?_ | refine s_rdp ?_ | ((first | refine s_cmp (fun _ => ?_) (fun _ => ?_) | refine s_cb (fun _ => ?_) (fun _ => ?_)) <;> (first | (exfalso; omega) | contradiction | skip))) | (show wpO _ _ _ (⟨_, .indexAddr _ _ _, _, _, _, _⟩ :: _) _ _ _; first | refine s_rdp ?_ | refine s_idx (fun _ _ _ _ _ _ _ => ?_)) | refine s_rdp ?_ | refine s_rdm ?_ | refine s_exq ?_ | refine s_exm ?_) | (show Ex _ _ _ _ _; first | (refine e_append (bytes := 536) (news := (RsR.mk s en noV n g2).cells) ?_ (hbytes := by omega); intro _ _ _) | (show Ex _ ⟨_, .alloc _, _, _, _, _⟩ _ _ _; first | (refine e_allocA ?_; intro _) | (refine e_alloc1 ?_; intro _)) | (show Ex _ ⟨_, .store _ _ _, _, _, _, _⟩ _ _ _; first | refine e_store1 ?_ | refine e_storeA ?_ | (refine e_storeO ?_; intro _ _)) | (show Ex _ ⟨_, .buildSlice _ _ _, _, _, _, _⟩ _ _ _; first | (refine e_buildSlice ?_; intro _) | (refine e_buildNil ?_; intro _ _ _)) | (show Ex _ ⟨_, .call ⟨.builtin .append, _, _⟩, _, _, _, _⟩ _ _ _; (first | refine e_append ?_ | refine e_appendIn ?_); intro _ _ _)) | (show wpC _ _ _ _ _ _; first | refine wpC_seq ?_ | refine wpC_region ?_ | refine c_true ?_ | refine c_false ?_ | (refine c_b (fun _ => ?_) (fun _ => ?_) <;> (first | (exfalso; omega) | contradiction | skip)) | refine wpC_block ?_ | refine wpC_ret ?_ | refine wpC_skip ?_ | refine wpC_exit ?_ | refine wpC_label ?_ | (apply wpC_drawX (id := 14) (Sb') [0, 1, 2, 3, 4, 5, 6, 7, 8, 9, 10] rfl (by kernel_rfl); (case hpk => (repeat (first | exact Pcs.blk (by infer_instance) | exact Pcs.nil | (apply Pcs.cons; infer_instance) | apply Pcs.app))))) | (show Then _ _ _ _ _ _ _; first | refine then_normal ?_ | refine then_ret ?_ | refine then_exit ?_) | (show InBlock _ _ _ _ _ _; first | refine inBlock_normal ?_ | refine inBlock_ret ?_ | refine inBlock_same ?_ | refine b_other ?_) | (show LoopPost _ _ _ _ _ _; first | refine loop_ret ?_ | refine loop_exit ?_) | (show wpD _ _ _ _ _ _ _ _; first | refine wpD_nil ?_ | refine d_rdp ?_ | refine d_rdm ?_ | refine d_tt ?_ | refine d_ff ?_ | ((first | refine d_cmp (fun _ => ?_) (fun _ => ?_) | refine d_cb (fun _ => ?_) (fun _ => ?_)) <;> (first | (exfalso; omega) | contradiction | skip)) | refine d_idx (fun _ _ _ _ _ _ _ => ?_) | refine d_exs ?_ | refine d_exn ?_) | (show (_ ∨ Subs _ _) ∧ _; first | refine d_sub ?_ | refine d_cov ?_) | (show RetP _ _ _ _ _ _ _ _; first | refine r_0 ?_) | assumption | intro _)
        all_goals first | (exfalso; omega) | skip
        rename_i bx v2 B2 hv2
        have hrs : rsH (ls ++ [RsR.mk s en noV n g2]) = rsH ls ++ [(g2, cellsO (List.replicate n [Value.bool false]).flatten 4)] := by rw [rsH_app, rep_vts]; rfl
        exact lp_end ⟨j + 1, s + 1, v2, ls ++ [⟨s, en, noV, n, g2⟩], B2⟩ (by simp only; omega) ⟨by simp only; omega, hF.step hec hei (hv2.cast (by simp) (by simp))⟩ (h6 := by simp only [hrs]; exact q_drp)
    · obtain rfl : j = m := by omega
      repeat' (first | (show wpO _ _ _ _ _ _ _; first | refine wpO_nil ?_ | (show wpO _ _ _ (⟨_, .binOp _ _ _ _ _, _, _, _, _⟩ :: _) _ _ _; first | refine s_tt ?_ | refine s_ff ?_ | refine s_rdp ?_ | ((first | refine s_cmp (fun _ => ?_) (fun _ => ?_) | refine s_cb (fun _ => ?_) (fun _ => ?_)) <;> (first | (exfalso; omega) | contradiction | skip))) | (show wpO _ _ _ (⟨_, .indexAddr _ _ _, _, _, _, _⟩ :: _) _ _ _; first | refine s_rdp ?_ | refine s_idx (fun _ _ _ _ _ _ _ => ?_)) | refine s_rdp ?_ | refine s_rdm ?_ | refine s_exq ?_ | refine s_exm ?_) | (show Ex _ _ _ _ _; first | (show Ex _ ⟨_, .alloc _, _, _, _, _⟩ _ _ _; first | (refine e_allocA ?_; intro _) | (refine e_alloc1 ?_; intro _)) | (show Ex _ ⟨_, .store _ _ _, _, _, _, _⟩ _ _ _; first | refine e_store1 ?_ | refine e_storeA ?_ | (refine e_storeO ?_; intro _ _)) | (show Ex _ ⟨_, .buildSlice _ _ _, _, _, _, _⟩ _ _ _; first | (refine e_buildSlice ?_; intro _) | (refine e_buildNil ?_; intro _ _ _)) | (show Ex _ ⟨_, .call ⟨.builtin .append, _, _⟩, _, _, _, _⟩ _ _ _; (first | refine e_append ?_ | refine e_appendIn ?_); intro _ _ _)) | (show wpC _ _ _ _ _ _; first | refine wpC_seq ?_ | refine wpC_region ?_ | refine c_true ?_ | refine c_false ?_ | (refine c_b (fun _ => ?_) (fun _ => ?_) <;> (first | (exfalso; omega) | contradiction | skip)) | refine wpC_block ?_ | refine wpC_ret ?_ | refine wpC_skip ?_ | refine wpC_exit ?_ | refine wpC_label ?_ | ((first | apply wpC_drawX (id := 3) ([]) [0, 1, 2, 3, 4, 5, 6, 7, 8, 9, 10, 11, 12] rfl (by kernel_rfl) | apply wpC_drawX (id := 14) ([]) [0, 1, 2, 3, 4, 5, 6, 7, 8, 9, 10] rfl (by kernel_rfl)); (case hpk => (repeat (first | exact Pcs.blk (by infer_instance) | exact Pcs.nil | (apply Pcs.cons; infer_instance) | apply Pcs.app))))) | (show Then _ _ _ _ _ _ _; first | refine then_normal ?_ | refine then_ret ?_ | refine then_exit ?_) | (show InBlock _ _ _ _ _ _; first | refine inBlock_normal ?_ | refine inBlock_ret ?_ | refine inBlock_same ?_ | refine b_other ?_) | (show LoopPost _ _ _ _ _ _; first | refine loop_ret ?_ | refine loop_exit ?_) | (show wpD _ _ _ _ _ _ _ _; first | refine wpD_nil ?_ | refine d_rdp ?_ | refine d_rdm ?_ | refine d_tt ?_ | refine d_ff ?_ | ((first | refine d_cmp (fun _ => ?_) (fun _ => ?_) | refine d_cb (fun _ => ?_) (fun _ => ?_)) <;> (first | (exfalso; omega) | contradiction | skip)) | refine d_idx (fun _ _ _ _ _ _ _ => ?_) | refine d_exs ?_ | refine d_exn ?_) | (show (_ ∨ Subs _ _) ∧ _; first | refine d_sub ?_ | refine d_cov ?_) | (show RetP _ _ _ _ _ _ _ _; first | refine r_0 ?_))
      all_goals first | (exfalso; omega) | exact q_drop (hK sv' ls Sb' hss hF.L hF.n hF.li) | trace_state
end Go.Vl

namespace Go.Vl
open Go.Proofs Classical
set_option maxHeartbeats 4000000 in
set_option maxRecDepth 100000 in
theorem nod_len : ∀ (N : Nat) (l : List Int) (lo : Int), l.Nodup → (∀ x ∈ l, lo ≤ x ∧ x < lo + (N : Int)) → l.length ≤ N
  | 0, l, lo, _, h => by
    cases l with
    | nil => exact Nat.le_refl _
    | cons x l => have := h x (by simp); omega
  | N + 1, l, lo, hn, h => by
    have h1 := nod_len N (l.erase (lo + (N : Int))) lo (hn.erase _) fun x hx => by
      obtain ⟨h2, h3⟩ := (List.Nodup.mem_erase_iff hn).1 hx
      have := h x h3
      omega
    have h2 := List.length_erase (a := lo + (N : Int)) (l := l)
    split at h2 <;> omega
set_option maxHeartbeats 4000000 in
set_option maxRecDepth 100000 in
theorem key_len {a : Ld} {came : List (Int × Sl)} (h : keyOK1 a came) : came.length ≤ 4097 := by
  have h1 := nod_len 4097 (came.map Prod.fst) a.fr h.2 fun x hx => by
    obtain ⟨p, hp, rfl⟩ := List.mem_map.1 hx
    have := h.1 p hp
    omega
  rwa [List.length_map] at h1
set_option maxHeartbeats 4000000 in
set_option maxRecDepth 100000 in
theorem fold_prefix {a : Ld} (h : a.ok) {l : List Sl} (hw : a.wrong l = 0) (j : Nat) : keyOK1 a ((l.take j).foldl best1 a.came) := by
  obtain ⟨g1, g3, _⟩ := wrong_zero hw
  refine fold_ok ⟨h.key, h.nod⟩ fun s hs => ?_
  have hm := List.mem_of_mem_take hs
  obtain ⟨i, hi⟩ := List.mem_iff_getElem?.1 hm
  have := g1 i s hi
  exact ⟨this.1, this.2.1, g3 s hm⟩
noncomputable def Ld.prom2 (a : Ld) (k : Nat) (l : List Sl) : (Bool × Int) × Ld :=
  if a.ready = true then ((true, 0), { a with p := setv a.p k })
  else if maj a.n ≤ cnt5 (setv a.p k) then ((true, 0), beginA { a with p := setv a.p k, came := l.foldl best1 a.came })
  else ((false, 0), { a with p := setv a.p k, came := l.foldl best1 a.came })
set_option maxHeartbeats 4000000 in
set_option maxRecDepth 100000 in
theorem promise_2 {a : Ld} {k : Nat} {l : List Sl} (hk : k < a.n) (hw : a.wrong l = 0) (hp : a.p k = false) : a.promise (k : Int) l = a.prom2 k l := by
  unfold Ld.promise Ld.prom2
  rw [if_neg (by omega), if_neg (by rw [hw]; simp), Int.toNat_natCast, if_neg (by rw [hp]; simp)]
set_option maxHeartbeats 4000000 in
set_option maxRecDepth 100000 in
theorem beginA_ok {a : Ld} (ha : a.ok) (hi : a.L = []) (hnx : a.next = a.fr) : (beginA a).ok := by
  have hl := isLast_lastS a.fr a.came
  have hm : (a.more : Int) ≤ 4097 ∧ a.fr + (a.more : Int) ≤ 1099511627777 := by
    unfold Ld.more
    have f1 := ha.f1
    rcases hl.at_ with g | ⟨p, hp, g⟩
    · omega
    · have := ha.key p hp; omega
  refine ⟨ha.n1, ha.n5, ha.f0, ha.f1, ?_, ?_, ha.key, ha.nod, ?_, ?_, fun h => (by cases h)⟩
  · show a.fr ≤ a.next + (a.more : Int); omega
  · show a.next + (a.more : Int) ≤ _; omega
  · show (a.L ++ fillS a.came a.next a.more).Pairwise _
    rw [hi]; exact fillS_srt
  · intro x hx
    have hx : x ∈ a.L ++ fillS a.came a.next a.more := hx
    rw [hi, List.nil_append] at hx
    have := fillS_slot hx
    show a.fr ≤ x.slot ∧ x.slot < a.next + (a.more : Int)
    omega
end Go.Vl
