/-
  What an acceptor tells of its slots.
-/
import Derived.Test.YtagdhnbodddipaaA3
import Derived.Test.YtagdhnbodddipaaTki
namespace Go.Vl
open Go.Proofs
structure AcR (l : List SlR) (L : List Sl) : Prop where
  p : (l.map SlR.c).Perm L
  srt : Sorted L
  ok : ∀ s ∈ l, s.ok
  sz : ∀ s ∈ l, EnSz s.en.c
set_option maxHeartbeats 4000000 in
set_option maxRecDepth 100000 in
theorem AcR.len {l : List SlR} {L : List Sl} (h : AcR l L) : l.length = L.length := by have := h.p.length_eq; simpa using this
set_option maxHeartbeats 4000000 in
set_option maxRecDepth 100000 in
theorem AcR.nodup {l : List SlR} {L : List Sl} (h : AcR l L) : ((l.map fun s => (s.slot, s)).map Prod.fst).Nodup := by
  have h1 := (h.p.map Sl.slot).nodup_iff.2 h.srt.slots
  simpa [Function.comp_def] using h1
set_option maxHeartbeats 4000000 in
set_option maxRecDepth 100000 in
theorem AcR.find {l : List SlR} {L : List Sl} (h : AcR l L) {x : Sl} (hx : x ∈ L) : ∃ s ∈ l, s.c = x ∧ aget (l.map fun s => (s.slot, s)) x.slot = some s := by
  obtain ⟨s, hs, rfl⟩ := List.mem_map.1 (h.p.mem_iff.2 hx)
  exact ⟨s, hs, rfl, aget_of_mem h.nodup (List.mem_map.2 ⟨s, hs, rfl⟩)⟩
set_option maxHeartbeats 4000000 in
set_option maxRecDepth 100000 in
theorem ints_same {ks ws : List Int} (hp : ks.Perm ws) (hk : ks.Pairwise (· ≤ ·)) (hw : ws.Pairwise (· < ·)) : ks = ws := by
  refine List.Perm.eq_of_pairwise (le := fun a b : Int => a ≤ b) ?_ hk (hw.imp fun h => Int.le_of_lt h) hp
  intro a b _ _ h1 h2
  omega
structure LiS where
  i : Nat
  v : Value
  Bs : Hp
  ls : List SlR
attribute [local irreducible] wpC wpO wpD Ex Rd callsK RetP Drop valK
set_option maxHeartbeats 4000000 in
set_option maxRecDepth 100000 in
theorem list_spec (e : World) {d m clk : Nat} {es : Array MapEntry} {prom : Bal} {first n : Int} {l : List SlR} {L : List Sl} {F : Hp} {K : Value → Hp → Prop} (hM : MapS es clk l) (hR : AcR l L) (hl : L.length * 528 ≤ 140737488355328)
    (hK : ∀ v Bs ls, ls.map SlR.c = fromS L n → (∀ s ∈ ls, s.ok) → SlO 52 59 v ls.length (ls.map SlR.cells).flatten Bs → K v ((Bs ++ acH ls) ++ ((accO d m es clk prom first ++ acH l) ++ F))) :
    callsK Try.prog e 63 #[pv d, .int .i64 n] ((accO d m es clk prom first ++ acH l) ++ F) K := by
  have hlen := hR.len
  refine calls_body (N := 34) (args := [pv d, .int .i64 n]) Try.func63 rfl rfl rfl (by simp) ?_
  repeat' ((fail_if_success (show wpC _ (.loop _) _ _ _ _)); first | (show wpO _ _ _ _ _ _ _; first | refine wpO_nil ?_ | (show wpO _ _ _ (⟨_, .binOp _ _ _ _ _, _, _, _, _⟩ :: _) _ _ _; first | refine s_tt ?_ | refine s_ff ?_ | refine s_rdp ?_ | (refine s_cmp (fun _ => ?_) (fun _ => ?_) <;> (first | (exfalso; omega) | contradiction | skip)) | (refine s_cb (fun _ => ?_) (fun _ => ?_) <;> (first | (exfalso; omega) | contradiction | skip))) | (show wpO _ _ _ (⟨_, .lookup _ _ _ _, _, _, _, _⟩ :: _) _ _ _; first | refine s_rdm ?_ | refine s_look (fun _ _ => ?_) (fun _ => ?_)) | (show wpO _ _ _ (⟨_, .indexAddr _ _ _, _, _, _, _⟩ :: _) _ _ _; first | refine s_rdp ?_ | refine s_idx (fun _ _ _ _ _ _ _ => ?_)) | refine s_rdp ?_ | refine s_rdm ?_ | refine s_exq ?_ | refine s_exm ?_) | (show Ex _ _ _ _ _; first | (show Ex _ ⟨_, .call ⟨.value (.func _), _, _⟩, _, _, _, _⟩ _ _ _; refine e_call ?_; first | (apply keys_spec _) | (apply p_pcs; apply sorted_spec _ hM (by rw [List.length_map]; omega); (try case hS => assumption); (case hpcs => (repeat (first | exact Pcs.blk (by infer_instance) | exact Pcs.nil | (apply Pcs.cons; infer_instance) | apply Pcs.app))))) | (show Ex _ ⟨_, .buildSlice _ _ _, _, _, _, _⟩ _ _ _; first | (refine e_buildSlice ?_; intro _) | (refine e_buildNil ?_; intro _ _ _)) | (show Ex _ ⟨_, .call ⟨.builtin .append, _, _⟩, _, _, _, _⟩ _ _ _; (first | refine e_append ?_ | refine e_appendIn ?_); intro _ _ _)) | (show wpC _ _ _ _ _ _; first | refine wpC_seq ?_ | refine wpC_region ?_ | refine c_true ?_ | refine c_false ?_ | (refine c_b (fun _ => ?_) (fun _ => ?_) <;> (first | (exfalso; omega) | contradiction | skip)) | refine wpC_block ?_ | refine wpC_ret ?_ | refine wpC_skip ?_ | refine wpC_exit ?_ | refine wpC_label ?_) | (show Then _ _ _ _ _ _ _; first | refine then_normal ?_ | refine then_ret ?_ | refine then_exit ?_) | (show InBlock _ _ _ _ _ _; first | refine inBlock_normal ?_ | refine inBlock_ret ?_ | refine inBlock_same ?_ | refine b_other ?_) | (show LoopPost _ _ _ _ _ _; first | refine loop_ret ?_ | refine loop_exit ?_) | (show RetP _ _ _ _ _ _ _ _; first | refine r_1 ?_) | assumption | intro _)
  rename_i bb vk Bk ks hp hs hS
  have hks : ks = L.map Sl.slot := by
    refine ints_same (hp.trans ?_) hs (List.pairwise_map.2 hR.srt)
    have := hR.p.map Sl.slot
    simpa [Function.comp_def] using this
  subst hks
  have hfl : ∀ l : List Int, (l.map fun k => [Value.int .i64 k]).flatten = l.map (Value.int .i64) := fun l => by
    induction l with
    | nil => rfl
    | cons a l ih => simp [ih]
  have hin : InSl Bk 1 ((L.map Sl.slot).map fun k => [Value.int .i64 k]) vk := SlO.inB (e := 2) (by rw [List.length_map, hfl]; exact hS) (fun r hr => by obtain ⟨u, _, rfl⟩ := List.mem_map.1 hr; exact ⟨rfl, rfl⟩)
  have hlk : (L.map Sl.slot).length = L.length := List.length_map _
  refine wpC_loopA (κ := LiS) [5, 7, 15, 16, 17, 18, 19, 20, 21, 22, 23, 24, 25, 26, 27, 28, 29, 30, 31, 32] (fun s => [(5, s.v), (15, .int .i64 (s.i : Int))]) (fun s => ((s.Bs ++ acH s.ls) ++ ((accO d m es clk prom first ++ acH l) ++ F)) ++ Bk)
    (fun s => s.i ≤ L.length ∧ s.ls.map SlR.c = fromS (L.take s.i) n ∧ (∀ x ∈ s.ls, x.ok) ∧ SlO 52 59 s.v s.ls.length (s.ls.map SlR.cells).flatten s.Bs) (fun s => L.length - s.i) ⟨0, .slice none 0 0, [], []⟩ ⟨Nat.zero_le _, rfl, (fun x hx => by cases hx), SlO.nil 52 59⟩ ⟨rfl, rfl, trivial⟩ q_drp ?_
  rintro ⟨i, v, Bs, ls⟩ ρx ⟨hi, hls, hok, hv⟩
  simp only at hi hls hok hv ⊢
  have hlsl : ls.length ≤ i := by
    have := congrArg List.length hls
    rw [List.length_map] at this
    rw [this]
    exact Nat.le_trans (List.length_filter_le _ _) (by rw [List.length_take]; omega)
  cases hr : L[i]? with
  | none =>
    have hge : L.length ≤ i := List.getElem?_eq_none_iff.1 hr
    repeat' (first | (show wpO _ _ _ _ _ _ _; first | refine wpO_nil ?_ | (show wpO _ _ _ (⟨_, .binOp _ _ _ _ _, _, _, _, _⟩ :: _) _ _ _; first | refine s_tt ?_ | refine s_ff ?_ | refine s_rdp ?_ | (refine s_cmp (fun _ => ?_) (fun _ => ?_) <;> (first | (exfalso; omega) | contradiction | skip)) | (refine s_cb (fun _ => ?_) (fun _ => ?_) <;> (first | (exfalso; omega) | contradiction | skip))) | (show wpO _ _ _ (⟨_, .lookup _ _ _ _, _, _, _, _⟩ :: _) _ _ _; first | refine s_rdm ?_ | refine s_look (fun _ _ => ?_) (fun _ => ?_)) | (show wpO _ _ _ (⟨_, .indexAddr _ _ _, _, _, _, _⟩ :: _) _ _ _; first | refine s_rdp ?_ | refine s_idx (fun _ _ _ _ _ _ _ => ?_)) | refine s_rdp ?_ | refine s_rdm ?_ | refine s_exq ?_ | refine s_exm ?_) | (show Ex _ _ _ _ _; first | (show Ex _ ⟨_, .buildSlice _ _ _, _, _, _, _⟩ _ _ _; first | (refine e_buildSlice ?_; intro _) | (refine e_buildNil ?_; intro _ _ _)) | (show Ex _ ⟨_, .call ⟨.builtin .append, _, _⟩, _, _, _, _⟩ _ _ _; (first | refine e_append ?_ | refine e_appendIn ?_); intro _ _ _)) | (show wpC _ _ _ _ _ _; first | refine wpC_seq ?_ | refine wpC_region ?_ | refine c_true ?_ | refine c_false ?_ | (refine c_b (fun _ => ?_) (fun _ => ?_) <;> (first | (exfalso; omega) | contradiction | skip)) | refine wpC_block ?_ | refine wpC_ret ?_ | refine wpC_skip ?_ | refine wpC_exit ?_ | refine wpC_label ?_) | (show Then _ _ _ _ _ _ _; first | refine then_normal ?_ | refine then_ret ?_ | refine then_exit ?_) | (show InBlock _ _ _ _ _ _; first | refine inBlock_normal ?_ | refine inBlock_ret ?_ | refine inBlock_same ?_ | refine b_other ?_) | (show LoopPost _ _ _ _ _ _; first | refine loop_ret ?_ | refine loop_exit ?_) | (show RetP _ _ _ _ _ _ _ _; first | refine r_1 ?_))
    rw [List.take_of_length_le hge] at hls
    exact q_drop (hK v Bs ls hls hok hv)
  | some x =>
    have hlt := (List.getElem?_eq_some_iff.1 hr).1
    have hgk : (L.map Sl.slot)[i]? = some x.slot := by simp [hr]
    obtain ⟨s, hsl, hsc, hget⟩ := hR.find (List.mem_of_getElem? hr)
    have hsi := acH_in hsl (hR.ok s hsl)
    have hsz := hR.sz s hsl
    have htk : fromS (L.take (i + 1)) n = fromS (L.take i) n ++ (if n ≤ x.slot then [x] else []) := by
      unfold fromS
      rw [List.take_add_one, hr, List.filter_append]
      by_cases h : n ≤ x.slot <;> simp [h]
    repeat' (first | (show wpO _ _ _ _ _ _ _; first | refine wpO_nil ?_ | (show wpO _ _ _ (⟨_, .binOp _ _ _ _ _, _, _, _, _⟩ :: _) _ _ _; first | refine s_tt ?_ | refine s_ff ?_ | refine s_rdp ?_ | (refine s_cmp (fun _ => ?_) (fun _ => ?_) <;> (first | (exfalso; omega) | contradiction | skip)) | (refine s_cb (fun _ => ?_) (fun _ => ?_) <;> (first | (exfalso; omega) | contradiction | skip))) | (show wpO _ _ _ (⟨_, .lookup _ _ _ _, _, _, _, _⟩ :: _) _ _ _; first | refine s_rdm ?_ | refine s_look (fun _ _ => ?_) (fun _ => ?_)) | (show wpO _ _ _ (⟨_, .indexAddr _ _ _, _, _, _, _⟩ :: _) _ _ _; first | refine s_rdp ?_ | refine s_idx (fun _ _ _ _ _ _ _ => ?_)) | refine s_rdp ?_ | refine s_rdm ?_ | refine s_exq ?_ | refine s_exm ?_) | (show Ex _ _ _ _ _; first | (show Ex _ ⟨_, .call ⟨.value (.func _), _, _⟩, _, _, _, _⟩ _ _ _; refine e_call ?_; first | (apply p_pcs; apply twin_spec _ hsi hsz; (try case hS => assumption); (case hpcs => (repeat (first | exact Pcs.blk (by infer_instance) | exact Pcs.nil | (apply Pcs.cons; infer_instance) | apply Pcs.app))))) | (show Ex _ ⟨_, .buildSlice _ _ _, _, _, _, _⟩ _ _ _; first | (refine e_buildSlice ?_; intro _) | (refine e_buildNil ?_; intro _ _ _)) | (show Ex _ ⟨_, .call ⟨.builtin .append, _, _⟩, _, _, _, _⟩ _ _ _; (first | refine e_append ?_ | refine e_appendIn ?_); intro _ _ _)) | (show wpC _ _ _ _ _ _; first | refine wpC_seq ?_ | refine wpC_region ?_ | refine c_true ?_ | refine c_false ?_ | (refine c_b (fun _ => ?_) (fun _ => ?_) <;> (first | (exfalso; omega) | contradiction | skip)) | refine wpC_block ?_ | refine wpC_ret ?_ | refine wpC_skip ?_ | refine wpC_exit ?_ | refine wpC_label ?_) | (show Then _ _ _ _ _ _ _; first | refine then_normal ?_ | refine then_ret ?_ | refine then_exit ?_) | (show InBlock _ _ _ _ _ _; first | refine inBlock_normal ?_ | refine inBlock_ret ?_ | refine inBlock_same ?_ | refine b_other ?_) | (show LoopPost _ _ _ _ _ _; first | refine loop_ret ?_ | refine loop_exit ?_) | (show RetP _ _ _ _ _ _ _ _; first | refine r_1 ?_) | assumption | intro _)
    · rename_i hcmp y hyc hyok bx w' Bw' hw'
      refine lp_end ⟨i + 1, w', Bw', ls ++ [y]⟩ (by simp only; omega) ⟨hlt, ?_, ?_, hw'.cast (by simp) (by simp)⟩ (h6 := by simp only [acH_app, acH_cons, show acH [] = [] from rfl, List.append_nil]; exact q_drp)
      · show List.map SlR.c _ = _
        rw [htk, List.map_append, hls, if_pos (by omega)]
        congr 1
        show [y.c] = [x]
        rw [hyc, hsc]
      · intro z hz
        rcases List.mem_append.1 hz with hz | hz
        · exact hok z hz
        · obtain rfl := List.mem_singleton.1 hz
          exact hyok
    · rename_i hcmp
      exact lp_end ⟨i + 1, v, Bs, ls⟩ (by simp only; omega) ⟨hlt, by simp only; rw [htk, if_neg (by omega), List.append_nil]; exact hls, hok, hv⟩
end Go.Vl
