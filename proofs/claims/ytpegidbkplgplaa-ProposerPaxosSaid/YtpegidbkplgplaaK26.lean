/-
  Steps of the proof: JI.
-/
import Derived.Test.YtpegidbkplgplaaK25
namespace Go.Vl
open Go.Proofs Classical
/-- how an entry is put among what was accepted -/
def AccL (ls : List SlR) (s : SlR) (ls' : List SlR) : Prop := ((∀ t ∈ ls, t.slot ≠ s.slot) ∧ ls' = ls ++ [s]) ∨ ∃ k t, ls[k]? = some t ∧ t.slot = s.slot ∧ ls' = ls.set k s
set_option maxHeartbeats 4000000 in
set_option maxRecDepth 100000 in
theorem AccL.mem {ls ls' : List SlR} {s : SlR} (h : AccL ls s ls') : ∀ y ∈ ls', y = s ∨ y ∈ ls := by
  intro y hy
  rcases h with ⟨_, rfl⟩ | ⟨k, t, _, _, rfl⟩
  · rcases List.mem_append.1 hy with hy | hy
    · exact .inr hy
    · exact .inl (List.mem_singleton.1 hy)
  · exact (List.mem_or_eq_of_mem_set hy).symm
set_option maxHeartbeats 4000000 in
set_option maxRecDepth 100000 in
theorem AccL.has {ls ls' : List SlR} {s : SlR} (h : AccL ls s ls') : s ∈ ls' := by
  rcases h with ⟨_, rfl⟩ | ⟨k, t, hk, _, rfl⟩
  · simp
  · exact List.mem_set (List.getElem?_eq_some_iff.1 hk).1 _
set_option maxHeartbeats 4000000 in
set_option maxRecDepth 100000 in
theorem AccL.keep {ls ls' : List SlR} {s : SlR} (h : AccL ls s ls') : ∀ y ∈ ls, y.slot ≠ s.slot → y ∈ ls' := by
  intro y hy hs
  rcases h with ⟨_, rfl⟩ | ⟨k, t, hk, ht, rfl⟩
  · exact List.mem_append_left _ hy
  · obtain ⟨j, hj⟩ := List.mem_iff_getElem?.1 hy
    have hjk : j ≠ k := fun he => by subst he; rw [hk] at hj; cases hj; exact hs ht
    exact List.mem_of_getElem? (i := j) (by rw [List.getElem?_set_ne hjk.symm]; exact hj)
set_option maxHeartbeats 4000000 in
set_option maxRecDepth 100000 in
theorem AccL.nodup {ls ls' : List SlR} {s : SlR} (h : AccL ls s ls') (hn : ((ls.map SlR.c).map Sl.slot).Nodup) : ((ls'.map SlR.c).map Sl.slot).Nodup := by
  rw [List.map_map] at hn ⊢
  rcases h with ⟨hno, rfl⟩ | ⟨k, t, hk, ht, rfl⟩
  · rw [List.map_append]
    refine List.nodup_append.2 ⟨hn, by simp, fun a ha b hb => ?_⟩
    obtain ⟨y, hy, rfl⟩ := List.mem_map.1 ha
    have hb : b = s.slot := by simpa using hb
    rw [hb]
    exact hno y hy
  · have hl := (List.getElem?_eq_some_iff.1 hk)
    rw [List.map_set]
    have e : (ls.map (Sl.slot ∘ SlR.c)).set k ((Sl.slot ∘ SlR.c) s) = ls.map (Sl.slot ∘ SlR.c) := by
      refine List.ext_getElem? fun j => ?_
      rw [List.getElem?_set]
      split
      · rename_i he
        subst he
        rw [if_pos (by rw [List.length_map]; exact hl.1), List.getElem?_map, hk]
        show some s.slot = some t.slot
        rw [ht]
      · rfl
    rw [e]; exact hn
set_option maxHeartbeats 4000000 in
set_option maxRecDepth 100000 in
theorem MvS.ok.accd {n N : Nat} {s : MvS} (h : s.ok n N) {k l : Nat} (hk : k < n) (hl : l < N) {x : SlR} {v' : Value} {ls' : List SlR} {B' G' : Hp} (hb : x.bal = balL n l) (he : Ent (s.S.A l) x.slot x.en.c) (hp : ¬ x.bal.lt (s.S.prom k))
    (hS : SlO 51 59 v' ls'.length (ls'.map SlR.cells).flatten B') (hA : AccL (s.R k).ls x ls') (hx : EnIn G' x.en ∧ EnSz x.en.c) (hG : ∀ y ∈ s.G, y ∈ G') :
    MvS.ok ⟨{ s.S with prom := upd1 s.S.prom k x.bal, acc := upd1 s.S.acc k (ls'.map SlR.c), V := fun j m t => s.S.V j m t ∨ (j = k ∧ m = l ∧ t = x.slot) }, updR s.R k ⟨x.bal, v', ls', B'⟩, s.rr, G'⟩ n N := by
  have hr := h.rep k hk
  have hn : ((ls'.map SlR.c).map Sl.slot).Nodup := hA.nodup (by rw [hr.c]; exact h.px.nod k hk)
  refine ⟨h.px.accept (s := x.c) (acc' := ls'.map SlR.c) hk hl hb he hp hn (List.mem_map.2 ⟨x, hA.has, rfl⟩) (fun y hy => ?_) (fun y hy hys => ?_), fun j hj => ?_, h.ld⟩
  · obtain ⟨z, hz, rfl⟩ := List.mem_map.1 hy
    rcases hA.mem z hz with rfl | hz
    · exact .inl rfl
    · exact .inr (by rw [← hr.c]; exact List.mem_map.2 ⟨z, hz, rfl⟩)
  · rw [← hr.c] at hy
    obtain ⟨z, hz, rfl⟩ := List.mem_map.1 hy
    exact List.mem_map.2 ⟨z, hA.keep z hz hys, rfl⟩
  · by_cases hjk : j = k
    · subst hjk
      simp only [upd1_same, updR_same]
      refine ⟨rfl, rfl, hS, fun y hy => ?_⟩
      rcases hA.mem y hy with rfl | hy
      · exact hx
      · exact ⟨(hr.e y hy).1.more hG, (hr.e y hy).2⟩
    · simp only [upd1_ne hjk, updR_ne hjk]
      exact (h.rep j hj).more hG
set_option maxHeartbeats 4000000 in
set_option maxRecDepth 100000 in
theorem waits_mem {a : Ld} {y : Sl} (h : y ∈ a.waits) : y.bal = a.b ∧ Ent a y.slot y.en := by
  obtain ⟨x, hx, rfl⟩ := List.mem_map.1 h
  exact ⟨rfl, x, (List.mem_filter.1 hx).1, rfl, rfl⟩
set_option maxHeartbeats 4000000 in
set_option maxRecDepth 100000 in
theorem L_len {n l : Nat} {a : Ld} (h : LdP n l a) : a.L.length ≤ 4097 := by
  have h1 : (a.L.map Ol.slot).Nodup := by
    have := h.ok.srt
    rw [List.Nodup, List.pairwise_map]
    exact this.imp fun g => Int.ne_of_lt g
  have := nod_len 4097 (a.L.map Ol.slot) 0 h1 fun s hs => by
    obtain ⟨x, hx, rfl⟩ := List.mem_map.1 hs
    have h2 := h.ok.sl x hx
    have h3 := h.next
    rw [h.fr] at h2
    omega
  rwa [List.length_map] at this
attribute [local irreducible] eqW eqV wpC wpO wpD Ex Rd callsK RetP Drop valK
set_option maxHeartbeats 4000000 in
set_option maxRecDepth 100000 in
theorem raccept3 (e : World) {rb i n o : Nat} {R : Nat → Rep} {s : SlR} {F : Hp} {K : Value → Hp → Prop} (ho : o = i * 3) (hi : i < n) (hS : SlO 51 59 (R i).v (R i).ls.length ((R i).ls.map SlR.cells).flatten (R i).B) (hlen : (R i).ls.length ≤ 4097)
    (h0 : s.bal.lt (R i).prom → K (.bool false) (([(rb, cellsO (repL R n) 72)] ++ (R i).B) ++ F))
    (h1 : ¬ s.bal.lt (R i).prom → ∀ v' ls' B', SlO 51 59 v' ls'.length (ls'.map SlR.cells).flatten B' → AccL (R i).ls s ls' → K (.bool true) (([(rb, cellsO (repL (updR R i ⟨s.bal, v', ls', B'⟩) n) 72)] ++ B') ++ F)) :
    callsK Try.prog e 21 #[.pointer (some ⟨rb, o, none⟩), slV s] (([(rb, cellsO (repL R n) 72)] ++ (R i).B) ++ F) K := by
  subst ho
  exact raccept e hi (show R i = ⟨(R i).prom, (R i).v, (R i).ls, (R i).B⟩ from rfl) hS (by omega) h0 (fun g1 g2 v' B' g3 => h1 g1 v' _ B' g3 (.inl ⟨g2, rfl⟩)) fun g1 k t g2 g3 _ B' g4 => h1 g1 _ _ B' g4 (.inr ⟨k, t, g2, g3, rfl⟩)
set_option maxHeartbeats 4000000 in
set_option maxRecDepth 100000 in
theorem move_accept (e : World) {c : MvC} {n N : Nat} {s : MvS} {m : MoR} {I F : Hp} {K : Value → Hp → Prop} (n1 : 1 ≤ n) (n5 : n ≤ 5) (hN : N ≤ 1000) (hc : c.ok n N) (hs : s.ok n N) {l k : Nat} (hl : l < N) (hk : k < n) (hml : m.lead.tmod (N : Int) = (l : Int)) (hmk : m.repl.tmod (n : Int) = (k : Int)) (h0 : m.do_ = 2) (hK : ∀ s' : MvS, s'.ok n N → K (.bool true) ((s'.hp c n N ++ I) ++ F)) :
    callsK Try.prog e 24 #[pv c.gb, .agg m.cells.toArray] ((s.hp c n N ++ I) ++ F) K := by
  have hcl := hc.l
  have hca := hc.a
  have hb1 : ((List.range N).length : Int) ≠ 0 := by rw [List.length_range]; omega
  have hb2 : (n : Int) ≠ 0 := by omega
  have hrl : (List.range N)[l]? = some l := List.getElem?_range hl
  have hml : m.lead.tmod ((List.range N).length : Int) = (l : Int) := by rw [List.length_range]; exact hml
  obtain ⟨do_, lead, repl, which, en, lost⟩ := m
  simp only at h0
  subst h0
  obtain ⟨L1, L2, hL1, hL2⟩ := ldsF_at (dd := c.dd) (rr := s.rr) (A := s.S.A) hl
  obtain ⟨P1, P2, hP1, hP2⟩ := askF_at (ab := c.ab) (n := n) (sk := s.S.asked) hl
  obtain ⟨Q1, Q2, hQ1, hQ2⟩ := repB_at (R := s.R) hk
  have hrl2 := hs.ld l hl
  have hkeep : K (.bool true) ((([(c.gb, cellsO [.int .i64 (n : Int), .slice (some ⟨c.rb, 0, none⟩) n n, c.vl, c.va] 69), (c.rb, cellsO (repL s.R n) 72)] ++ (c.Bl ++ (c.Ba ++ ((L1 ++ ((s.rr l).hp (s.S.A l) (c.dd l) ++ L2)) ++ ((P1 ++ ((c.ab l, cellsO ((vts (s.S.asked l) n).map boC).flatten 4) :: P2)) ++ ((Q1 ++ ((s.R k).B ++ Q2)) ++ s.G)))))) ++ I) ++ F) := by rw [← hL1, ← hP1, ← hQ1]; exact hK s hs
  have hrk := hs.rep k hk
  have hls4 := hrk.len hs.px hk
  have hrp := hrk.prom
  have hrs := hrk.s
  have hld := hs.px.ld l hl
  have hLl : (s.S.A l).L.length * 528 ≤ 140737488355328 := by have := L_len hld; omega
  have hacc : ∀ (ws : List SlR) (x : SlR) v' ls' B', ws.map SlR.c = (s.S.A l).waits → (∀ y ∈ ws, y.ok) → x ∈ ws → x.bal = balL n l → ¬ x.bal.lt (s.S.prom k) → SlO 51 59 v' ls'.length (ls'.map SlR.cells).flatten B' → AccL (s.R k).ls x ls' →
      K (.bool true) ((([(c.gb, cellsO [.int .i64 (n : Int), .slice (some ⟨c.rb, 0, none⟩) n n, c.vl, c.va] 69), (c.rb, cellsO (repL (updR s.R k ⟨balL n l, v', ls', B'⟩) n) 72)] ++ (c.Bl ++ (c.Ba ++ ((L1 ++ ((s.rr l).hp (s.S.A l) (c.dd l) ++ L2)) ++ ((P1 ++ ((c.ab l, cellsO ((vts (s.S.asked l) n).map boC).flatten 4) :: P2)) ++ ((Q1 ++ (B' ++ Q2)) ++ (acH ws ++ s.G))))))) ++ I) ++ F) ∧
      ((((s.S.A l).accepted (k : Int) x.slot).1.2 = 0 ∨ ((s.S.A l).accepted (k : Int) x.slot).1.2 = 5) ∧ ∀ r' : LdR, r'.ok ((s.S.A l).accepted (k : Int) x.slot).2 →
        K (.bool true) ((([(c.gb, cellsO [.int .i64 (n : Int), .slice (some ⟨c.rb, 0, none⟩) n n, c.vl, c.va] 69), (c.rb, cellsO (repL (updR s.R k ⟨balL n l, v', ls', B'⟩) n) 72)] ++ (c.Bl ++ (c.Ba ++ ((L1 ++ (r'.hp ((s.S.A l).accepted (k : Int) x.slot).2 (c.dd l) ++ L2)) ++ ((P1 ++ ((c.ab l, cellsO ((vts (s.S.asked l) n).map boC).flatten 4) :: P2)) ++ ((Q1 ++ (B' ++ Q2)) ++ (acH ws ++ s.G))))))) ++ I) ++ F)) := fun ws x v' ls' B' hws hwo hxm hxb hp hS hA => by
    have hxw : x.c ∈ (s.S.A l).waits := by rw [← hws]; exact List.mem_map.2 ⟨x, hxm, rfl⟩
    obtain ⟨_, he⟩ := waits_mem hxw
    have hxz : EnSz x.en.c := by
      obtain ⟨y, hy, _, h2⟩ := he
      rw [← hrl2.L] at hy
      obtain ⟨z, hz, rfl⟩ := List.mem_map.1 hy
      rw [← show z.en.c = x.en.c from h2]
      exact (hrl2.li z hz).2
    have hG := hs.accd (G' := acH ws ++ s.G) hk hl hxb he hp hS hA ⟨(acH_in hxm (hwo x hxm)).more fun y hy => List.mem_append_left _ hy, hxz⟩ (fun y hy => List.mem_append_right _ hy)
    obtain ⟨g1, g2⟩ := hG.px.flagged hk hl (.inr ⟨rfl, rfl, rfl⟩)
    refine ⟨?_, g1, fun r' hr' => ?_⟩
    · have := hK _ hG
      have e1 := hQ2 ⟨balL n l, v', ls', B'⟩
      rw [hxb] at this
      rw [← hL1, ← hP1, ← e1]
      exact this
    · have := hK _ (hG.leader (sk := s.S.asked) g2 hr')
      have e1 := hQ2 ⟨balL n l, v', ls', B'⟩
      have e2 := hL2 r' ((s.S.A l).accepted (k : Int) x.slot).2
      rw [hxb] at this
      rw [← e2, ← hP1, ← e1]
      exact this
  clear hK
  show callsK _ _ _ _ ((([(c.gb, cellsO [.int .i64 (n : Int), .slice (some ⟨c.rb, 0, none⟩) n n, c.vl, c.va] 69), (c.rb, cellsO (repL s.R n) 72)] ++ (c.Bl ++ (c.Ba ++ (ldsF c.dd s.rr s.S.A N ++ (askF c.ab n s.S.asked N ++ (repB s.R n ++ s.G)))))) ++ I) ++ F) K
  rw [hL1, hP1, hQ1]
  clear hL2 hP2 hQ2 hL1 hP1 hQ1
  refine calls_body (N := 199) (args := [pv c.gb, .agg (MoR.mk 2 lead repl which en lost).cells.toArray]) Try.func24 rfl rfl rfl (by simp) ?_
  repeat' ((fail_if_success (show wpC _ (.seq (.seq (.region 32 _ _) _) _) _ _ _ _)); first | (refine d_rdp ?_ (hr := by (apply rd_remE; exact rfl; exact rfl; (first | exact hb1 | exact hb2); (first | exact hml | exact hmk); done))) | (refine s_rdp ?_ (hr := by (apply (rd_remU (a := l) (b := n)); exact rfl; exact rfl; omega; done))) | (show wpO _ _ _ _ _ _ _; first | refine wpO_nil ?_ | (show wpO _ _ _ (⟨_, .binOp _ _ _ _ _, _, _, _, _⟩ :: _) _ _ _; first | refine s_tt ?_ | refine s_ff ?_ | refine s_rdp ?_ | (refine s_cmp (fun _ => ?_) (fun _ => ?_) <;> (first | (exfalso; omega) | contradiction | skip)) | (refine s_cb (fun _ => ?_) (fun _ => ?_) <;> (first | (exfalso; omega) | contradiction | skip)) | refine s_sks ?_ | (refine s_g (fun _ => ?_) (fun _ => ?_) <;> (first | (exfalso; omega) | contradiction | skip))) | (show wpO _ _ _ (⟨_, .indexAddr _ _ _, _, _, _, _⟩ :: _) _ _ _; first | refine s_rdp ?_ | refine s_idx (fun _ _ _ _ _ _ _ => ?_) | refine s_sks ?_ | (refine s_g (fun _ => ?_) (fun _ => ?_) <;> (first | (exfalso; omega) | contradiction | skip))) | (show wpO _ _ _ (⟨_, .pick _ _ _, _, _, _, _⟩ :: _) _ _ _; first | refine s_rdp ?_ | (refine s_p (fun _ => ?_) (fun _ => ?_) <;> (first | (exfalso; omega) | contradiction | skip)) | refine s_sks ?_ | (refine s_g (fun _ => ?_) (fun _ => ?_) <;> (first | (exfalso; omega) | contradiction | skip))) | refine s_rdp ?_ | refine s_rdm ?_ | refine s_exq ?_ | refine s_exm ?_ | refine s_sks ?_ | refine s_skn ?_ | (refine s_g (fun _ => ?_) (fun _ => ?_) <;> (first | (exfalso; omega) | contradiction | skip))) | (show Ex _ _ _ _ _; first | (show Ex _ ⟨_, .call ⟨.value (.func _), _, _⟩, _, _, _, _⟩ _ _ _; refine e_call ?_; first | (apply p_pcs; apply pwaiting _ hrl2 hLl; (try case hS => assumption); (case hpcs => (repeat (first | exact Pcs.blk (by infer_instance) | exact Pcs.nil | (apply Pcs.cons; infer_instance) | apply Pcs.app))))) | (show Ex _ ⟨_, .alloc _, _, _, _, _⟩ _ _ _; first | (refine e_allocA ?_; intro _) | (refine e_alloc1 ?_; intro _)) | (show Ex _ ⟨_, .box _ _, _, _, _, _⟩ _ _ _; first | (refine e_boxA ?_; intro _) | (refine e_box1 ?_; intro _)) | (show Ex _ ⟨_, .store _ _ _, _, _, _, _⟩ _ _ _; first | refine e_store1 ?_ | refine e_storeA ?_ | (refine e_storeO ?_; intro _ _)) | (show Ex _ ⟨_, .buildSlice _ _ _, _, _, _, _⟩ _ _ _; first | (refine e_buildSlice ?_; intro _) | (refine e_buildNil ?_; intro _ _ _)) | (show Ex _ ⟨_, .call ⟨.builtin .append, _, _⟩, _, _, _, _⟩ _ _ _; (first | refine e_append ?_ | refine e_appendIn ?_); intro _ _ _)) | (show wpC _ _ _ _ _ _; first | refine wpC_seq ?_ | refine wpC_region ?_ | refine c_true ?_ | refine c_false ?_ | (refine c_b (fun _ => ?_) (fun _ => ?_) <;> (first | (exfalso; omega) | contradiction | skip)) | refine wpC_block ?_ | refine wpC_ret ?_ | refine wpC_skip ?_ | refine wpC_exit ?_ | refine wpC_label ?_ | (apply wpC_drawX (id := 1) ([]) [0, 1, 2, 3, 4, 5, 6, 7, 8] rfl (by kernel_rfl); (case hpk => (repeat (first | exact Pcs.blk (by infer_instance) | exact Pcs.nil | (apply Pcs.cons; infer_instance) | apply Pcs.app)))) | (apply wpC_drawX (id := 2) ([]) [0, 1, 2, 3, 4, 5, 6, 7] rfl (by kernel_rfl); (case hpk => (repeat (first | exact Pcs.blk (by infer_instance) | exact Pcs.nil | (apply Pcs.cons; infer_instance) | apply Pcs.app)))) | (apply wpC_drawX (id := 10) ([]) [0, 1, 2, 3, 4, 5, 6, 7, 8, 9, 10, 11, 12, 13, 14, 15, 16, 17] rfl (by kernel_rfl); (case hpk => (repeat (first | exact Pcs.blk (by infer_instance) | exact Pcs.nil | (apply Pcs.cons; infer_instance) | apply Pcs.app))))) | (show Then _ _ _ _ _ _ _; first | refine then_normal ?_ | refine then_ret ?_ | refine then_exit ?_) | (show InBlock _ _ _ _ _ _; first | refine inBlock_normal ?_ | refine inBlock_ret ?_ | refine inBlock_same ?_ | refine b_other ?_) | (show LoopPost _ _ _ _ _ _; first | refine loop_ret ?_ | refine loop_exit ?_) | (show wpD _ _ _ _ _ _ _ _; first | refine wpD_nil ?_ | refine d_rdp ?_ | refine d_rdm ?_ | refine d_sks ?_ | refine d_tt ?_ | refine d_ff ?_ | (refine d_cmp (fun _ => ?_) (fun _ => ?_) <;> (first | (exfalso; omega) | contradiction | skip)) | (refine d_cb (fun _ => ?_) (fun _ => ?_) <;> (first | (exfalso; omega) | contradiction | skip)) | refine d_idx (fun _ _ _ _ _ _ _ => ?_) | refine d_exs ?_ | refine d_exn ?_ | (refine d_p (fun _ => ?_) (fun _ => ?_) <;> (first | (exfalso; omega) | contradiction | skip)) | (refine d_g (fun _ => ?_) (fun _ => ?_) <;> (first | (exfalso; omega) | contradiction | skip))) | (show (_ ∨ Subs _ _) ∧ _; first | refine d_sub ?_ | refine d_cov ?_) | (show RetP _ _ _ _ _ _ _ _; first | refine r_1 ?_) | assumption | intro _)
  rename_i b3 _ _ _ _ _ _ _ b9 v Bs ws hws hwo hv
  have hwl : ws.length ≤ 4097 := by
    have h1 := congrArg List.length hws
    rw [List.length_map] at h1
    rw [h1]
    unfold Ld.waits
    rw [List.length_map]
    exact Nat.le_trans (List.length_filter_le _ _) (L_len hld)
  by_cases hw0 : ws.length = 0
  · repeat' ((fail_if_success (show wpC _ (.seq (.region 34 _ _) _) _ _ _ _)); first | (show wpO _ _ _ _ _ _ _; first | refine wpO_nil ?_ | (show wpO _ _ _ (⟨_, .binOp _ _ _ _ _, _, _, _, _⟩ :: _) _ _ _; first | refine s_tt ?_ | refine s_ff ?_ | refine s_rdp ?_ | (refine s_cmp (fun _ => ?_) (fun _ => ?_) <;> (first | (exfalso; omega) | contradiction | skip)) | (refine s_cb (fun _ => ?_) (fun _ => ?_) <;> (first | (exfalso; omega) | contradiction | skip)) | refine s_sks ?_ | (refine s_g (fun _ => ?_) (fun _ => ?_) <;> (first | (exfalso; omega) | contradiction | skip))) | (show wpO _ _ _ (⟨_, .indexAddr _ _ _, _, _, _, _⟩ :: _) _ _ _; first | refine s_rdp ?_ | refine s_idx (fun _ _ _ _ _ _ _ => ?_) | refine s_sks ?_ | (refine s_g (fun _ => ?_) (fun _ => ?_) <;> (first | (exfalso; omega) | contradiction | skip))) | (show wpO _ _ _ (⟨_, .pick _ _ _, _, _, _, _⟩ :: _) _ _ _; first | refine s_rdp ?_ | (refine s_p (fun _ => ?_) (fun _ => ?_) <;> (first | (exfalso; omega) | contradiction | skip)) | refine s_sks ?_ | (refine s_g (fun _ => ?_) (fun _ => ?_) <;> (first | (exfalso; omega) | contradiction | skip))) | refine s_rdp ?_ | refine s_rdm ?_ | refine s_exq ?_ | refine s_exm ?_ | refine s_sks ?_ | refine s_skn ?_ | (refine s_g (fun _ => ?_) (fun _ => ?_) <;> (first | (exfalso; omega) | contradiction | skip))) | (show Ex _ _ _ _ _; first | (show Ex _ ⟨_, .alloc _, _, _, _, _⟩ _ _ _; first | (refine e_allocA ?_; intro _) | (refine e_alloc1 ?_; intro _)) | (show Ex _ ⟨_, .box _ _, _, _, _, _⟩ _ _ _; first | (refine e_boxA ?_; intro _) | (refine e_box1 ?_; intro _)) | (show Ex _ ⟨_, .store _ _ _, _, _, _, _⟩ _ _ _; first | refine e_store1 ?_ | refine e_storeA ?_ | (refine e_storeO ?_; intro _ _)) | (show Ex _ ⟨_, .buildSlice _ _ _, _, _, _, _⟩ _ _ _; first | (refine e_buildSlice ?_; intro _) | (refine e_buildNil ?_; intro _ _ _)) | (show Ex _ ⟨_, .call ⟨.builtin .append, _, _⟩, _, _, _, _⟩ _ _ _; (first | refine e_append ?_ | refine e_appendIn ?_); intro _ _ _)) | (show wpC _ _ _ _ _ _; first | refine wpC_seq ?_ | refine wpC_region ?_ | refine c_true ?_ | refine c_false ?_ | (refine c_b (fun _ => ?_) (fun _ => ?_) <;> (first | (exfalso; omega) | contradiction | skip)) | refine wpC_block ?_ | refine wpC_ret ?_ | refine wpC_skip ?_ | refine wpC_exit ?_ | refine wpC_label ?_ | (apply wpC_drawX (id := 1) ([]) [0, 1, 2, 3, 4, 5, 6, 7, 8] rfl (by kernel_rfl); (case hpk => (repeat (first | exact Pcs.blk (by infer_instance) | exact Pcs.nil | (apply Pcs.cons; infer_instance) | apply Pcs.app)))) | (apply wpC_drawX (id := 2) ([]) [0, 1, 2, 3, 4, 5, 6, 7] rfl (by kernel_rfl); (case hpk => (repeat (first | exact Pcs.blk (by infer_instance) | exact Pcs.nil | (apply Pcs.cons; infer_instance) | apply Pcs.app)))) | (apply wpC_drawX (id := 10) ([]) [0, 1, 2, 3, 4, 5, 6, 7, 8, 9, 10, 11, 12, 13, 14, 15, 16, 17] rfl (by kernel_rfl); (case hpk => (repeat (first | exact Pcs.blk (by infer_instance) | exact Pcs.nil | (apply Pcs.cons; infer_instance) | apply Pcs.app))))) | (show Then _ _ _ _ _ _ _; first | refine then_normal ?_ | refine then_ret ?_ | refine then_exit ?_) | (show InBlock _ _ _ _ _ _; first | refine inBlock_normal ?_ | refine inBlock_ret ?_ | refine inBlock_same ?_ | refine b_other ?_) | (show LoopPost _ _ _ _ _ _; first | refine loop_ret ?_ | refine loop_exit ?_) | (show wpD _ _ _ _ _ _ _ _; first | refine wpD_nil ?_ | refine d_rdp ?_ | refine d_rdm ?_ | refine d_sks ?_ | refine d_tt ?_ | refine d_ff ?_ | (refine d_cmp (fun _ => ?_) (fun _ => ?_) <;> (first | (exfalso; omega) | contradiction | skip)) | (refine d_cb (fun _ => ?_) (fun _ => ?_) <;> (first | (exfalso; omega) | contradiction | skip)) | refine d_idx (fun _ _ _ _ _ _ _ => ?_) | refine d_exs ?_ | refine d_exn ?_ | (refine d_p (fun _ => ?_) (fun _ => ?_) <;> (first | (exfalso; omega) | contradiction | skip)) | (refine d_g (fun _ => ?_) (fun _ => ?_) <;> (first | (exfalso; omega) | contradiction | skip))) | (show (_ ∨ Subs _ _) ∧ _; first | refine d_sub ?_ | refine d_cov ?_) | (show RetP _ _ _ _ _ _ _ _; first | refine r_1 ?_))
    all_goals first | (exfalso; omega) | exact q_drop hkeep | trace_state
  by_cases hw1 : which < 0
  · repeat' ((fail_if_success (show wpC _ (.seq (.region 34 _ _) _) _ _ _ _)); first | (show wpO _ _ _ _ _ _ _; first | refine wpO_nil ?_ | (show wpO _ _ _ (⟨_, .binOp _ _ _ _ _, _, _, _, _⟩ :: _) _ _ _; first | refine s_tt ?_ | refine s_ff ?_ | refine s_rdp ?_ | (refine s_cmp (fun _ => ?_) (fun _ => ?_) <;> (first | (exfalso; omega) | contradiction | skip)) | (refine s_cb (fun _ => ?_) (fun _ => ?_) <;> (first | (exfalso; omega) | contradiction | skip)) | refine s_sks ?_ | (refine s_g (fun _ => ?_) (fun _ => ?_) <;> (first | (exfalso; omega) | contradiction | skip))) | (show wpO _ _ _ (⟨_, .indexAddr _ _ _, _, _, _, _⟩ :: _) _ _ _; first | refine s_rdp ?_ | refine s_idx (fun _ _ _ _ _ _ _ => ?_) | refine s_sks ?_ | (refine s_g (fun _ => ?_) (fun _ => ?_) <;> (first | (exfalso; omega) | contradiction | skip))) | (show wpO _ _ _ (⟨_, .pick _ _ _, _, _, _, _⟩ :: _) _ _ _; first | refine s_rdp ?_ | (refine s_p (fun _ => ?_) (fun _ => ?_) <;> (first | (exfalso; omega) | contradiction | skip)) | refine s_sks ?_ | (refine s_g (fun _ => ?_) (fun _ => ?_) <;> (first | (exfalso; omega) | contradiction | skip))) | refine s_rdp ?_ | refine s_rdm ?_ | refine s_exq ?_ | refine s_exm ?_ | refine s_sks ?_ | refine s_skn ?_ | (refine s_g (fun _ => ?_) (fun _ => ?_) <;> (first | (exfalso; omega) | contradiction | skip))) | (show Ex _ _ _ _ _; first | (show Ex _ ⟨_, .alloc _, _, _, _, _⟩ _ _ _; first | (refine e_allocA ?_; intro _) | (refine e_alloc1 ?_; intro _)) | (show Ex _ ⟨_, .box _ _, _, _, _, _⟩ _ _ _; first | (refine e_boxA ?_; intro _) | (refine e_box1 ?_; intro _)) | (show Ex _ ⟨_, .store _ _ _, _, _, _, _⟩ _ _ _; first | refine e_store1 ?_ | refine e_storeA ?_ | (refine e_storeO ?_; intro _ _)) | (show Ex _ ⟨_, .buildSlice _ _ _, _, _, _, _⟩ _ _ _; first | (refine e_buildSlice ?_; intro _) | (refine e_buildNil ?_; intro _ _ _)) | (show Ex _ ⟨_, .call ⟨.builtin .append, _, _⟩, _, _, _, _⟩ _ _ _; (first | refine e_append ?_ | refine e_appendIn ?_); intro _ _ _)) | (show wpC _ _ _ _ _ _; first | refine wpC_seq ?_ | refine wpC_region ?_ | refine c_true ?_ | refine c_false ?_ | (refine c_b (fun _ => ?_) (fun _ => ?_) <;> (first | (exfalso; omega) | contradiction | skip)) | refine wpC_block ?_ | refine wpC_ret ?_ | refine wpC_skip ?_ | refine wpC_exit ?_ | refine wpC_label ?_ | (apply wpC_drawX (id := 1) ([]) [0, 1, 2, 3, 4, 5, 6, 7, 8] rfl (by kernel_rfl); (case hpk => (repeat (first | exact Pcs.blk (by infer_instance) | exact Pcs.nil | (apply Pcs.cons; infer_instance) | apply Pcs.app)))) | (apply wpC_drawX (id := 2) ([]) [0, 1, 2, 3, 4, 5, 6, 7] rfl (by kernel_rfl); (case hpk => (repeat (first | exact Pcs.blk (by infer_instance) | exact Pcs.nil | (apply Pcs.cons; infer_instance) | apply Pcs.app)))) | (apply wpC_drawX (id := 10) ([]) [0, 1, 2, 3, 4, 5, 6, 7, 8, 9, 10, 11, 12, 13, 14, 15, 16, 17] rfl (by kernel_rfl); (case hpk => (repeat (first | exact Pcs.blk (by infer_instance) | exact Pcs.nil | (apply Pcs.cons; infer_instance) | apply Pcs.app))))) | (show Then _ _ _ _ _ _ _; first | refine then_normal ?_ | refine then_ret ?_ | refine then_exit ?_) | (show InBlock _ _ _ _ _ _; first | refine inBlock_normal ?_ | refine inBlock_ret ?_ | refine inBlock_same ?_ | refine b_other ?_) | (show LoopPost _ _ _ _ _ _; first | refine loop_ret ?_ | refine loop_exit ?_) | (show wpD _ _ _ _ _ _ _ _; first | refine wpD_nil ?_ | refine d_rdp ?_ | refine d_rdm ?_ | refine d_sks ?_ | refine d_tt ?_ | refine d_ff ?_ | (refine d_cmp (fun _ => ?_) (fun _ => ?_) <;> (first | (exfalso; omega) | contradiction | skip)) | (refine d_cb (fun _ => ?_) (fun _ => ?_) <;> (first | (exfalso; omega) | contradiction | skip)) | refine d_idx (fun _ _ _ _ _ _ _ => ?_) | refine d_exs ?_ | refine d_exn ?_ | (refine d_p (fun _ => ?_) (fun _ => ?_) <;> (first | (exfalso; omega) | contradiction | skip)) | (refine d_g (fun _ => ?_) (fun _ => ?_) <;> (first | (exfalso; omega) | contradiction | skip))) | (show (_ ∨ Subs _ _) ∧ _; first | refine d_sub ?_ | refine d_cov ?_) | (show RetP _ _ _ _ _ _ _ _; first | refine r_1 ?_))
    all_goals first | (exfalso; omega) | exact q_drop hkeep | trace_state
  obtain ⟨w, rfl⟩ : ∃ w : Nat, which = (w : Int) := ⟨which.toNat, by omega⟩
  have hmw : w % ws.length < ws.length := Nat.mod_lt _ (by omega)
  obtain ⟨x, hx⟩ : ∃ x, ws[w % ws.length]? = some x := ⟨ws[w % ws.length], by rw [List.getElem?_eq_getElem]⟩
  have hxm := List.mem_of_getElem? hx
  have hxb : x.bal = balL n l := by
    have := (waits_mem (a := s.S.A l) (y := x.c) (by rw [← hws]; exact List.mem_map.2 ⟨x, hxm, rfl⟩)).1
    rw [hld.b] at this
    exact this
  have hacc := fun v' ls' B' => hacc ws x v' ls' B' hws hwo hxm hxb
  obtain ⟨xs, xb, xe, xBo, xBd⟩ := x
  simp only at hxb
  subst hxb
  have heq := bal_eqV (balL n l) (balL n l)
  rw [decide_eq_true rfl] at heq
  have hwin := slInn hv
  have hwml : (ws.map SlR.cells).length = ws.length := List.length_map _
  have hxr : (ws.map SlR.cells)[w % ws.length]? = some (SlR.mk xs (balL n l) xe xBo xBd).cells := by rw [List.getElem?_map, hx]; rfl
  by_cases hlt : (balL n l).lt (s.S.prom k)
  · repeat' ((fail_if_success (show wpC _ (.seq (.region 39 _ _) _) _ _ _ _)); first | (refine s_rdp ?_ (hr := by (apply (rd_remU (a := w) (b := ws.length)); exact rfl; exact rfl; omega; done))) | (show wpO _ _ _ _ _ _ _; first | refine wpO_nil ?_ | (show wpO _ _ _ (⟨_, .binOp _ _ _ _ _, _, _, _, _⟩ :: _) _ _ _; first | refine s_tt ?_ | refine s_ff ?_ | refine s_rdp ?_ | (refine s_cmp (fun _ => ?_) (fun _ => ?_) <;> (first | (exfalso; omega) | contradiction | skip)) | (refine s_cb (fun _ => ?_) (fun _ => ?_) <;> (first | (exfalso; omega) | contradiction | skip)) | refine s_sks ?_ | (refine s_g (fun _ => ?_) (fun _ => ?_) <;> (first | (exfalso; omega) | contradiction | skip))) | (show wpO _ _ _ (⟨_, .indexAddr _ _ _, _, _, _, _⟩ :: _) _ _ _; first | refine s_rdp ?_ | refine s_idx (fun _ _ _ _ _ _ _ => ?_) | refine s_sks ?_ | (refine s_g (fun _ => ?_) (fun _ => ?_) <;> (first | (exfalso; omega) | contradiction | skip))) | (show wpO _ _ _ (⟨_, .pick _ _ _, _, _, _, _⟩ :: _) _ _ _; first | refine s_rdp ?_ | (refine s_p (fun _ => ?_) (fun _ => ?_) <;> (first | (exfalso; omega) | contradiction | skip)) | refine s_sks ?_ | (refine s_g (fun _ => ?_) (fun _ => ?_) <;> (first | (exfalso; omega) | contradiction | skip))) | refine s_rdp ?_ | refine s_rdm ?_ | refine s_exq ?_ | refine s_exm ?_ | refine s_sks ?_ | refine s_skn ?_ | (refine s_g (fun _ => ?_) (fun _ => ?_) <;> (first | (exfalso; omega) | contradiction | skip))) | (show Ex _ _ _ _ _; first | (show Ex _ ⟨_, .call ⟨.value (.func _), _, _⟩, _, _, _, _⟩ _ _ _; refine e_call ?_; first | (apply p_pcs; apply raccept3 _ (R := s.R) (i := k) (n := n) (s := ⟨xs, balL n l, xe, xBo, xBd⟩) (Nat.zero_add _) hk hrs hls4; (try case hS => assumption); (case hpcs => (repeat (first | exact Pcs.blk (by infer_instance) | exact Pcs.nil | (apply Pcs.cons; infer_instance) | apply Pcs.app))))) | (show Ex _ ⟨_, .alloc _, _, _, _, _⟩ _ _ _; first | (refine e_allocA ?_; intro _) | (refine e_alloc1 ?_; intro _)) | (show Ex _ ⟨_, .box _ _, _, _, _, _⟩ _ _ _; first | (refine e_boxA ?_; intro _) | (refine e_box1 ?_; intro _)) | (show Ex _ ⟨_, .store _ _ _, _, _, _, _⟩ _ _ _; first | refine e_store1 ?_ | refine e_storeA ?_ | (refine e_storeO ?_; intro _ _)) | (show Ex _ ⟨_, .buildSlice _ _ _, _, _, _, _⟩ _ _ _; first | (refine e_buildSlice ?_; intro _) | (refine e_buildNil ?_; intro _ _ _)) | (show Ex _ ⟨_, .call ⟨.builtin .append, _, _⟩, _, _, _, _⟩ _ _ _; (first | refine e_append ?_ | refine e_appendIn ?_); intro _ _ _)) | (show wpC _ _ _ _ _ _; first | refine wpC_seq ?_ | refine wpC_region ?_ | refine c_true ?_ | refine c_false ?_ | (refine c_b (fun _ => ?_) (fun _ => ?_) <;> (first | (exfalso; omega) | contradiction | skip)) | refine wpC_block ?_ | refine wpC_ret ?_ | refine wpC_skip ?_ | refine wpC_exit ?_ | refine wpC_label ?_ | (apply wpC_drawX (id := 1) ([]) [0, 1, 2, 3, 4, 5, 6, 7, 8] rfl (by kernel_rfl); (case hpk => (repeat (first | exact Pcs.blk (by infer_instance) | exact Pcs.nil | (apply Pcs.cons; infer_instance) | apply Pcs.app)))) | (apply wpC_drawX (id := 2) ([]) [0, 1, 2, 3, 4, 5, 6, 7] rfl (by kernel_rfl); (case hpk => (repeat (first | exact Pcs.blk (by infer_instance) | exact Pcs.nil | (apply Pcs.cons; infer_instance) | apply Pcs.app)))) | (apply wpC_drawX (id := 10) ([]) [0, 1, 2, 3, 4, 5, 6, 7, 8, 9, 10, 11, 12, 13, 14, 15, 16, 17] rfl (by kernel_rfl); (case hpk => (repeat (first | exact Pcs.blk (by infer_instance) | exact Pcs.nil | (apply Pcs.cons; infer_instance) | apply Pcs.app))))) | (show Then _ _ _ _ _ _ _; first | refine then_normal ?_ | refine then_ret ?_ | refine then_exit ?_) | (show InBlock _ _ _ _ _ _; first | refine inBlock_normal ?_ | refine inBlock_ret ?_ | refine inBlock_same ?_ | refine b_other ?_) | (show LoopPost _ _ _ _ _ _; first | refine loop_ret ?_ | refine loop_exit ?_) | (show wpD _ _ _ _ _ _ _ _; first | refine wpD_nil ?_ | refine d_rdp ?_ | refine d_rdm ?_ | refine d_sks ?_ | refine d_tt ?_ | refine d_ff ?_ | (refine d_cmp (fun _ => ?_) (fun _ => ?_) <;> (first | (exfalso; omega) | contradiction | skip)) | (refine d_cb (fun _ => ?_) (fun _ => ?_) <;> (first | (exfalso; omega) | contradiction | skip)) | refine d_idx (fun _ _ _ _ _ _ _ => ?_) | refine d_exs ?_ | refine d_exn ?_ | (refine d_p (fun _ => ?_) (fun _ => ?_) <;> (first | (exfalso; omega) | contradiction | skip)) | (refine d_g (fun _ => ?_) (fun _ => ?_) <;> (first | (exfalso; omega) | contradiction | skip))) | (show (_ ∨ Subs _ _) ∧ _; first | refine d_sub ?_ | refine d_cov ?_) | (show RetP _ _ _ _ _ _ _ _; first | refine r_1 ?_) | assumption | intro _)
    all_goals first
      | (exfalso; omega)
      | exact q_drop hkeep
      | (exfalso; refine absurd hlt ?_; rw [← hrp]; assumption)
      | trace_state
  · cases lost with
    | true =>
      repeat' ((fail_if_success (show wpC _ (.seq (.region 39 _ _) _) _ _ _ _)); first | (refine s_rdp ?_ (hr := by (apply (rd_remU (a := w) (b := ws.length)); exact rfl; exact rfl; omega; done))) | (show wpO _ _ _ _ _ _ _; first | refine wpO_nil ?_ | (show wpO _ _ _ (⟨_, .binOp _ _ _ _ _, _, _, _, _⟩ :: _) _ _ _; first | refine s_tt ?_ | refine s_ff ?_ | refine s_rdp ?_ | (refine s_cmp (fun _ => ?_) (fun _ => ?_) <;> (first | (exfalso; omega) | contradiction | skip)) | (refine s_cb (fun _ => ?_) (fun _ => ?_) <;> (first | (exfalso; omega) | contradiction | skip)) | refine s_sks ?_ | (refine s_g (fun _ => ?_) (fun _ => ?_) <;> (first | (exfalso; omega) | contradiction | skip))) | (show wpO _ _ _ (⟨_, .indexAddr _ _ _, _, _, _, _⟩ :: _) _ _ _; first | refine s_rdp ?_ | refine s_idx (fun _ _ _ _ _ _ _ => ?_) | refine s_sks ?_ | (refine s_g (fun _ => ?_) (fun _ => ?_) <;> (first | (exfalso; omega) | contradiction | skip))) | (show wpO _ _ _ (⟨_, .pick _ _ _, _, _, _, _⟩ :: _) _ _ _; first | refine s_rdp ?_ | (refine s_p (fun _ => ?_) (fun _ => ?_) <;> (first | (exfalso; omega) | contradiction | skip)) | refine s_sks ?_ | (refine s_g (fun _ => ?_) (fun _ => ?_) <;> (first | (exfalso; omega) | contradiction | skip))) | refine s_rdp ?_ | refine s_rdm ?_ | refine s_exq ?_ | refine s_exm ?_ | refine s_sks ?_ | refine s_skn ?_ | (refine s_g (fun _ => ?_) (fun _ => ?_) <;> (first | (exfalso; omega) | contradiction | skip))) | (show Ex _ _ _ _ _; first | (show Ex _ ⟨_, .call ⟨.value (.func _), _, _⟩, _, _, _, _⟩ _ _ _; refine e_call ?_; first | (apply p_pcs; apply raccept3 _ (R := s.R) (i := k) (n := n) (s := ⟨xs, balL n l, xe, xBo, xBd⟩) (Nat.zero_add _) hk hrs hls4; (try case hS => assumption); (case hpcs => (repeat (first | exact Pcs.blk (by infer_instance) | exact Pcs.nil | (apply Pcs.cons; infer_instance) | apply Pcs.app))))) | (show Ex _ ⟨_, .alloc _, _, _, _, _⟩ _ _ _; first | (refine e_allocA ?_; intro _) | (refine e_alloc1 ?_; intro _)) | (show Ex _ ⟨_, .box _ _, _, _, _, _⟩ _ _ _; first | (refine e_boxA ?_; intro _) | (refine e_box1 ?_; intro _)) | (show Ex _ ⟨_, .store _ _ _, _, _, _, _⟩ _ _ _; first | refine e_store1 ?_ | refine e_storeA ?_ | (refine e_storeO ?_; intro _ _)) | (show Ex _ ⟨_, .buildSlice _ _ _, _, _, _, _⟩ _ _ _; first | (refine e_buildSlice ?_; intro _) | (refine e_buildNil ?_; intro _ _ _)) | (show Ex _ ⟨_, .call ⟨.builtin .append, _, _⟩, _, _, _, _⟩ _ _ _; (first | refine e_append ?_ | refine e_appendIn ?_); intro _ _ _)) | (show wpC _ _ _ _ _ _; first | refine wpC_seq ?_ | refine wpC_region ?_ | refine c_true ?_ | refine c_false ?_ | (refine c_b (fun _ => ?_) (fun _ => ?_) <;> (first | (exfalso; omega) | contradiction | skip)) | refine wpC_block ?_ | refine wpC_ret ?_ | refine wpC_skip ?_ | refine wpC_exit ?_ | refine wpC_label ?_ | (apply wpC_drawX (id := 1) ([]) [0, 1, 2, 3, 4, 5, 6, 7, 8] rfl (by kernel_rfl); (case hpk => (repeat (first | exact Pcs.blk (by infer_instance) | exact Pcs.nil | (apply Pcs.cons; infer_instance) | apply Pcs.app)))) | (apply wpC_drawX (id := 2) ([]) [0, 1, 2, 3, 4, 5, 6, 7] rfl (by kernel_rfl); (case hpk => (repeat (first | exact Pcs.blk (by infer_instance) | exact Pcs.nil | (apply Pcs.cons; infer_instance) | apply Pcs.app)))) | (apply wpC_drawX (id := 10) ([]) [0, 1, 2, 3, 4, 5, 6, 7, 8, 9, 10, 11, 12, 13, 14, 15, 16, 17] rfl (by kernel_rfl); (case hpk => (repeat (first | exact Pcs.blk (by infer_instance) | exact Pcs.nil | (apply Pcs.cons; infer_instance) | apply Pcs.app))))) | (show Then _ _ _ _ _ _ _; first | refine then_normal ?_ | refine then_ret ?_ | refine then_exit ?_) | (show InBlock _ _ _ _ _ _; first | refine inBlock_normal ?_ | refine inBlock_ret ?_ | refine inBlock_same ?_ | refine b_other ?_) | (show LoopPost _ _ _ _ _ _; first | refine loop_ret ?_ | refine loop_exit ?_) | (show wpD _ _ _ _ _ _ _ _; first | refine wpD_nil ?_ | refine d_rdp ?_ | refine d_rdm ?_ | refine d_sks ?_ | refine d_tt ?_ | refine d_ff ?_ | (refine d_cmp (fun _ => ?_) (fun _ => ?_) <;> (first | (exfalso; omega) | contradiction | skip)) | (refine d_cb (fun _ => ?_) (fun _ => ?_) <;> (first | (exfalso; omega) | contradiction | skip)) | refine d_idx (fun _ _ _ _ _ _ _ => ?_) | refine d_exs ?_ | refine d_exn ?_ | (refine d_p (fun _ => ?_) (fun _ => ?_) <;> (first | (exfalso; omega) | contradiction | skip)) | (refine d_g (fun _ => ?_) (fun _ => ?_) <;> (first | (exfalso; omega) | contradiction | skip))) | (show (_ ∨ Subs _ _) ∧ _; first | refine d_sub ?_ | refine d_cov ?_) | (show RetP _ _ _ _ _ _ _ _; first | refine r_1 ?_) | assumption | intro _)
      all_goals first
        | (exfalso; omega)
        | (exfalso; refine hlt ?_; rw [← hrp]; assumption)
        | (rename_i v2 ls2 B2 hS2 hA2
           exact q_drop (hacc v2 ls2 B2 hlt hS2 hA2).1)
        | trace_state
    | false =>
      repeat' ((fail_if_success (show wpC _ (.seq (.region 39 _ _) _) _ _ _ _)); first | (refine s_rdp ?_ (hr := by (apply (rd_remU (a := w) (b := ws.length)); exact rfl; exact rfl; omega; done))) | (show wpO _ _ _ _ _ _ _; first | refine wpO_nil ?_ | (show wpO _ _ _ (⟨_, .binOp _ _ _ _ _, _, _, _, _⟩ :: _) _ _ _; first | refine s_tt ?_ | refine s_ff ?_ | refine s_rdp ?_ | (refine s_cmp (fun _ => ?_) (fun _ => ?_) <;> (first | (exfalso; omega) | contradiction | skip)) | (refine s_cb (fun _ => ?_) (fun _ => ?_) <;> (first | (exfalso; omega) | contradiction | skip)) | refine s_sks ?_ | (refine s_g (fun _ => ?_) (fun _ => ?_) <;> (first | (exfalso; omega) | contradiction | skip))) | (show wpO _ _ _ (⟨_, .indexAddr _ _ _, _, _, _, _⟩ :: _) _ _ _; first | refine s_rdp ?_ | refine s_idx (fun _ _ _ _ _ _ _ => ?_) | refine s_sks ?_ | (refine s_g (fun _ => ?_) (fun _ => ?_) <;> (first | (exfalso; omega) | contradiction | skip))) | (show wpO _ _ _ (⟨_, .pick _ _ _, _, _, _, _⟩ :: _) _ _ _; first | refine s_rdp ?_ | (refine s_p (fun _ => ?_) (fun _ => ?_) <;> (first | (exfalso; omega) | contradiction | skip)) | refine s_sks ?_ | (refine s_g (fun _ => ?_) (fun _ => ?_) <;> (first | (exfalso; omega) | contradiction | skip))) | refine s_rdp ?_ | refine s_rdm ?_ | refine s_exq ?_ | refine s_exm ?_ | refine s_sks ?_ | refine s_skn ?_ | (refine s_g (fun _ => ?_) (fun _ => ?_) <;> (first | (exfalso; omega) | contradiction | skip))) | (show Ex _ _ _ _ _; first | (show Ex _ ⟨_, .call ⟨.value (.func _), _, _⟩, _, _, _, _⟩ _ _ _; refine e_call ?_; first | (apply p_pcs; apply raccept3 _ (R := s.R) (i := k) (n := n) (s := ⟨xs, balL n l, xe, xBo, xBd⟩) (Nat.zero_add _) hk hrs hls4; (try case hS => assumption); (case hpcs => (repeat (first | exact Pcs.blk (by infer_instance) | exact Pcs.nil | (apply Pcs.cons; infer_instance) | apply Pcs.app))))) | (show Ex _ ⟨_, .alloc _, _, _, _, _⟩ _ _ _; first | (refine e_allocA ?_; intro _) | (refine e_alloc1 ?_; intro _)) | (show Ex _ ⟨_, .box _ _, _, _, _, _⟩ _ _ _; first | (refine e_boxA ?_; intro _) | (refine e_box1 ?_; intro _)) | (show Ex _ ⟨_, .store _ _ _, _, _, _, _⟩ _ _ _; first | refine e_store1 ?_ | refine e_storeA ?_ | (refine e_storeO ?_; intro _ _)) | (show Ex _ ⟨_, .buildSlice _ _ _, _, _, _, _⟩ _ _ _; first | (refine e_buildSlice ?_; intro _) | (refine e_buildNil ?_; intro _ _ _)) | (show Ex _ ⟨_, .call ⟨.builtin .append, _, _⟩, _, _, _, _⟩ _ _ _; (first | refine e_append ?_ | refine e_appendIn ?_); intro _ _ _)) | (show wpC _ _ _ _ _ _; first | refine wpC_seq ?_ | refine wpC_region ?_ | refine c_true ?_ | refine c_false ?_ | (refine c_b (fun _ => ?_) (fun _ => ?_) <;> (first | (exfalso; omega) | contradiction | skip)) | refine wpC_block ?_ | refine wpC_ret ?_ | refine wpC_skip ?_ | refine wpC_exit ?_ | refine wpC_label ?_ | (apply wpC_drawX (id := 1) ([]) [0, 1, 2, 3, 4, 5, 6, 7, 8] rfl (by kernel_rfl); (case hpk => (repeat (first | exact Pcs.blk (by infer_instance) | exact Pcs.nil | (apply Pcs.cons; infer_instance) | apply Pcs.app)))) | (apply wpC_drawX (id := 2) ([]) [0, 1, 2, 3, 4, 5, 6, 7] rfl (by kernel_rfl); (case hpk => (repeat (first | exact Pcs.blk (by infer_instance) | exact Pcs.nil | (apply Pcs.cons; infer_instance) | apply Pcs.app)))) | (apply wpC_drawX (id := 10) ([]) [0, 1, 2, 3, 4, 5, 6, 7, 8, 9, 10, 11, 12, 13, 14, 15, 16, 17] rfl (by kernel_rfl); (case hpk => (repeat (first | exact Pcs.blk (by infer_instance) | exact Pcs.nil | (apply Pcs.cons; infer_instance) | apply Pcs.app))))) | (show Then _ _ _ _ _ _ _; first | refine then_normal ?_ | refine then_ret ?_ | refine then_exit ?_) | (show InBlock _ _ _ _ _ _; first | refine inBlock_normal ?_ | refine inBlock_ret ?_ | refine inBlock_same ?_ | refine b_other ?_) | (show LoopPost _ _ _ _ _ _; first | refine loop_ret ?_ | refine loop_exit ?_) | (show wpD _ _ _ _ _ _ _ _; first | refine wpD_nil ?_ | refine d_rdp ?_ | refine d_rdm ?_ | refine d_sks ?_ | refine d_tt ?_ | refine d_ff ?_ | (refine d_cmp (fun _ => ?_) (fun _ => ?_) <;> (first | (exfalso; omega) | contradiction | skip)) | (refine d_cb (fun _ => ?_) (fun _ => ?_) <;> (first | (exfalso; omega) | contradiction | skip)) | refine d_idx (fun _ _ _ _ _ _ _ => ?_) | refine d_exs ?_ | refine d_exn ?_ | (refine d_p (fun _ => ?_) (fun _ => ?_) <;> (first | (exfalso; omega) | contradiction | skip)) | (refine d_g (fun _ => ?_) (fun _ => ?_) <;> (first | (exfalso; omega) | contradiction | skip))) | (show (_ ∨ Subs _ _) ∧ _; first | refine d_sub ?_ | refine d_cov ?_) | (show RetP _ _ _ _ _ _ _ _; first | refine r_1 ?_) | assumption | intro _)
      all_goals first
        | (exfalso; omega)
        | (exfalso; refine hlt ?_; rw [← hrp]; assumption)
        | skip
      rename_i v2 ls2 B2 hS2 hA2
      obtain ⟨hcd, hfin⟩ := (hacc v2 ls2 B2 hlt hS2 hA2).2
      simp only at hcd hfin
      clear hacc
      repeat' (first | (show wpO _ _ _ _ _ _ _; first | refine wpO_nil ?_ | (show wpO _ _ _ (⟨_, .binOp _ _ _ _ _, _, _, _, _⟩ :: _) _ _ _; first | refine s_tt ?_ | refine s_ff ?_ | refine s_rdp ?_ | (refine s_cmp (fun _ => ?_) (fun _ => ?_) <;> (first | (exfalso; omega) | contradiction | skip)) | (refine s_cb (fun _ => ?_) (fun _ => ?_) <;> (first | (exfalso; omega) | contradiction | skip)) | refine s_sks ?_ | (refine s_g (fun _ => ?_) (fun _ => ?_) <;> (first | (exfalso; omega) | contradiction | skip))) | (show wpO _ _ _ (⟨_, .indexAddr _ _ _, _, _, _, _⟩ :: _) _ _ _; first | refine s_rdp ?_ | refine s_idx (fun _ _ _ _ _ _ _ => ?_) | refine s_sks ?_ | (refine s_g (fun _ => ?_) (fun _ => ?_) <;> (first | (exfalso; omega) | contradiction | skip))) | (show wpO _ _ _ (⟨_, .pick _ _ _, _, _, _, _⟩ :: _) _ _ _; first | refine s_rdp ?_ | (refine s_p (fun _ => ?_) (fun _ => ?_) <;> (first | (exfalso; omega) | contradiction | skip)) | refine s_sks ?_ | (refine s_g (fun _ => ?_) (fun _ => ?_) <;> (first | (exfalso; omega) | contradiction | skip))) | refine s_rdp ?_ | refine s_rdm ?_ | refine s_exq ?_ | refine s_exm ?_ | refine s_sks ?_ | refine s_skn ?_ | (refine s_g (fun _ => ?_) (fun _ => ?_) <;> (first | (exfalso; omega) | contradiction | skip))) | (show Ex _ _ _ _ _; first | (show Ex _ ⟨_, .call ⟨.value (.func _), _, _⟩, _, _, _, _⟩ _ _ _; refine e_call ?_; first | (apply p_pcs; apply paccepted _ (k := (k : Int)) hrl2; (try case hS => assumption); (case hpcs => (repeat (first | exact Pcs.blk (by infer_instance) | exact Pcs.nil | (apply Pcs.cons; infer_instance) | apply Pcs.app))))) | (show Ex _ ⟨_, .alloc _, _, _, _, _⟩ _ _ _; first | (refine e_allocA ?_; intro _) | (refine e_alloc1 ?_; intro _)) | (show Ex _ ⟨_, .box _ _, _, _, _, _⟩ _ _ _; first | (refine e_boxA ?_; intro _) | (refine e_box1 ?_; intro _)) | (show Ex _ ⟨_, .store _ _ _, _, _, _, _⟩ _ _ _; first | refine e_store1 ?_ | refine e_storeA ?_ | (refine e_storeO ?_; intro _ _)) | (show Ex _ ⟨_, .buildSlice _ _ _, _, _, _, _⟩ _ _ _; first | (refine e_buildSlice ?_; intro _) | (refine e_buildNil ?_; intro _ _ _)) | (show Ex _ ⟨_, .call ⟨.builtin .append, _, _⟩, _, _, _, _⟩ _ _ _; (first | refine e_append ?_ | refine e_appendIn ?_); intro _ _ _)) | (show wpC _ _ _ _ _ _; first | refine wpC_seq ?_ | refine wpC_region ?_ | refine c_true ?_ | refine c_false ?_ | (refine c_b (fun _ => ?_) (fun _ => ?_) <;> (first | (exfalso; omega) | contradiction | skip)) | refine wpC_block ?_ | refine wpC_ret ?_ | refine wpC_skip ?_ | refine wpC_exit ?_ | refine wpC_label ?_ | (apply wpC_drawX (id := 1) ([]) [0, 1, 2, 3, 4, 5, 6, 7, 8] rfl (by kernel_rfl); (case hpk => (repeat (first | exact Pcs.blk (by infer_instance) | exact Pcs.nil | (apply Pcs.cons; infer_instance) | apply Pcs.app)))) | (apply wpC_drawX (id := 2) ([]) [0, 1, 2, 3, 4, 5, 6, 7] rfl (by kernel_rfl); (case hpk => (repeat (first | exact Pcs.blk (by infer_instance) | exact Pcs.nil | (apply Pcs.cons; infer_instance) | apply Pcs.app)))) | (apply wpC_drawX (id := 10) ([]) [0, 1, 2, 3, 4, 5, 6, 7, 8, 9, 10, 11, 12, 13, 14, 15, 16, 17] rfl (by kernel_rfl); (case hpk => (repeat (first | exact Pcs.blk (by infer_instance) | exact Pcs.nil | (apply Pcs.cons; infer_instance) | apply Pcs.app))))) | (show Then _ _ _ _ _ _ _; first | refine then_normal ?_ | refine then_ret ?_ | refine then_exit ?_) | (show InBlock _ _ _ _ _ _; first | refine inBlock_normal ?_ | refine inBlock_ret ?_ | refine inBlock_same ?_ | refine b_other ?_) | (show LoopPost _ _ _ _ _ _; first | refine loop_ret ?_ | refine loop_exit ?_) | (show wpD _ _ _ _ _ _ _ _; first | refine wpD_nil ?_ | refine d_rdp ?_ | refine d_rdm ?_ | refine d_sks ?_ | refine d_tt ?_ | refine d_ff ?_ | (refine d_cmp (fun _ => ?_) (fun _ => ?_) <;> (first | (exfalso; omega) | contradiction | skip)) | (refine d_cb (fun _ => ?_) (fun _ => ?_) <;> (first | (exfalso; omega) | contradiction | skip)) | refine d_idx (fun _ _ _ _ _ _ _ => ?_) | refine d_exs ?_ | refine d_exn ?_ | (refine d_p (fun _ => ?_) (fun _ => ?_) <;> (first | (exfalso; omega) | contradiction | skip)) | (refine d_g (fun _ => ?_) (fun _ => ?_) <;> (first | (exfalso; omega) | contradiction | skip))) | (show (_ ∨ Subs _ _) ∧ _; first | refine d_sub ?_ | refine d_cov ?_) | (show RetP _ _ _ _ _ _ _ _; first | refine r_1 ?_) | assumption | intro _)
      all_goals first
        | (exfalso; omega)
        | (rename_i r' hr' _
           exact q_drop (hfin r' hr'))
        | (rename_i r' hr' _ _
           exact q_drop (hfin r' hr'))
        | trace_state
end Go.Vl
