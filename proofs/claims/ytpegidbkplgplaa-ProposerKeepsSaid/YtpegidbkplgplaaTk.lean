/-
  maps.Keys, slices.Collect, slices.Sorted over a map's keys.
-/
import Derived.Test.YtpegidbkplgplaaVs
import Derived.Test.YtpegidbkplgplaaVt
import Derived.Test.YtpegidbkplgplaaLay
namespace Go.Vl
open Go.Proofs Go.Shelf Go.Sort
attribute [local irreducible] wpC wpO wpD Ex Rd callsK RetP Drop valK

structure KyS (κ α : Type) where
  ks : List κ
  last : Option (κ × α)
  left : List (κ × α)
  o : Obj
  T : Hp
abbrev KeyS {α : Type} (l : List (Int × α)) : List (List Value) → Prop := fun s => ∃ ks : List Int, s = ks.map (fun k => [(Value.int .i64) k]) ∧ ks.Perm (l.map Prod.fst)

set_option maxHeartbeats 4000000 in
set_option maxRecDepth 100000 in
theorem keys_iter (e : World) {α : Type} {enc : α → Value} {bb bm clk : Nat} {es : Array MapEntry} {l : List (Int × α)} (hM : MapK (Value.int .i64) enc es clk l) :
    Iter Try.prog e 75 #[] #[.pointer (some ⟨bb, 0, none⟩)] [(bb, cellsO [.map (some bm)] 87), (bm, .map es clk)] (KeyS l) := by
  intro yv inv stop K T hY h0 hall hstop
  refine calls_body (N := 14) (args := [yv, .pointer (some ⟨bb, 0, none⟩)]) Try.func75 rfl rfl rfl (by simp) ?_
  repeat' (first | (show wpO _ _ _ _ _ _ _; first | refine wpO_nil ?_ | refine s_rdp ?_ | refine s_rdm ?_ | refine s_exq ?_ | refine s_exm ?_) | (show Ex _ _ _ _ _; first | (show Ex _ ⟨_, .range _ _, _, _, _, _⟩ _ _ _; refine e_range ?_; intro _ _ _) | (show Ex _ ⟨_, .next _ _, _, _, _, _⟩ _ _ _; refine e_next (fun _ => ?_) (fun _ _ _ _ => ?_))) | (show wpC _ _ _ _ _ _; first | refine wpC_seq ?_ | refine wpC_region ?_ | refine c_true ?_ | refine c_false ?_ | (refine c_b (fun _ => ?_) (fun _ => ?_) <;> (first | (exfalso; omega) | contradiction | skip)) | refine wpC_block ?_ | refine wpC_ret ?_ | refine wpC_skip ?_ | refine wpC_exit ?_ | refine wpC_label ?_) | (show Then _ _ _ _ _ _ _; first | refine then_normal ?_ | refine then_ret ?_ | refine then_exit ?_) | (show InBlock _ _ _ _ _ _; first | refine inBlock_normal ?_ | refine inBlock_ret ?_ | refine inBlock_same ?_ | refine b_other ?_) | (show LoopPost _ _ _ _ _ _; first | refine loop_ret ?_ | refine loop_exit ?_) | (show RetP _ _ _ _ _ _ _ _; first | refine r_0 ?_))
  rename_i bi oi hI0
  refine wpC_loopA (κ := KyS Int α) [3, 6, 7, 8, 9, 10, 11, 12, 13] (fun _ => []) (fun k => [(bb, cellsO [.map (some bm)] 87), (bm, .map es clk), (bi, k.o)] ++ k.T)
    (fun k => IterK (Value.int .i64) enc bm es clk k.last k.left k.o ∧ (k.ks ++ k.left.map Prod.fst).Perm (l.map Prod.fst) ∧ inv (k.ks.map fun k => [(Value.int .i64) k]) k.T) (fun k => k.left.length) ⟨[], none, l, oi, T⟩ ⟨hI0, .refl _, h0⟩ trivial q_drp ?_
  rintro ⟨ks, la, left, oi, T⟩ ρx ⟨hI, hp, hi⟩
  simp only at hI hp hi ⊢
  repeat' ((fail_if_success (show wpO _ _ _ (⟨_, .call ⟨.value (.tmp _), _, _⟩, _, _, _, _⟩ :: _) _ _ _)); first | (show wpO _ _ _ _ _ _ _; first | refine wpO_nil ?_ | refine s_rdp ?_ | refine s_rdm ?_ | refine s_exq ?_ | refine s_exm ?_) | (show Ex _ _ _ _ _; first | (show Ex _ ⟨_, .range _ _, _, _, _, _⟩ _ _ _; refine e_range ?_; intro _ _ _) | (show Ex _ ⟨_, .next _ _, _, _, _, _⟩ _ _ _; refine e_next (fun _ => ?_) (fun _ _ _ _ => ?_))) | (show wpC _ _ _ _ _ _; first | refine wpC_seq ?_ | refine wpC_region ?_ | refine c_true ?_ | refine c_false ?_ | (refine c_b (fun _ => ?_) (fun _ => ?_) <;> (first | (exfalso; omega) | contradiction | skip)) | refine wpC_block ?_ | refine wpC_ret ?_ | refine wpC_skip ?_ | refine wpC_exit ?_ | refine wpC_label ?_) | (show Then _ _ _ _ _ _ _; first | refine then_normal ?_ | refine then_ret ?_ | refine then_exit ?_) | (show InBlock _ _ _ _ _ _; first | refine inBlock_normal ?_ | refine inBlock_ret ?_ | refine inBlock_same ?_ | refine b_other ?_) | (show LoopPost _ _ _ _ _ _; first | refine loop_ret ?_ | refine loop_exit ?_) | (show RetP _ _ _ _ _ _ _ _; first | refine r_0 ?_))
  · rename_i hl
    subst hl
    refine q_drop (hall _ _ ⟨ks, rfl, ?_⟩ hi)
    simpa using hp
  · rename_i pr hpl o' hI'
    have hnd : (left.map Prod.fst).Nodup := (List.nodup_append.1 (hp.nodup_iff.2 hM.keys)).2.1
    have hpt := (perm_take hnd hpl).map Prod.fst
    have hp' : ((ks ++ [pr.1]) ++ (adel left pr.1).map Prod.fst).Perm (l.map Prod.fst) := by
      rw [List.append_assoc]
      exact ((hpt.symm).append_left ks).trans hp
    have hx : ∃ rest, KeyS l (ks.map (fun k => [(Value.int .i64) k]) ++ [(Value.int .i64) pr.1] :: rest) :=
      ⟨((adel left pr.1).map Prod.fst).map fun k => [(Value.int .i64) k], _, by rw [← List.map_cons (f := fun k => [(Value.int .i64) k]), ← List.map_append], by simpa using hp'⟩
    refine s_exs ?_
    refine e_callV ?_
    refine valK_mono (hY _ _ T [(bb, cellsO [.map (some bm)] 87), (bm, .map es clk), (bi, o')] hx hi) ?_
    rintro b H' (⟨rfl, T', hinv, hd⟩ | ⟨rfl, T', hst, hd⟩)
    · refine wpO_drp hd ?_
      repeat' (first | (show wpO _ _ _ _ _ _ _; first | refine wpO_nil ?_ | refine s_rdp ?_ | refine s_rdm ?_ | refine s_exq ?_ | refine s_exm ?_) | (show Ex _ _ _ _ _; first | (show Ex _ ⟨_, .range _ _, _, _, _, _⟩ _ _ _; refine e_range ?_; intro _ _ _) | (show Ex _ ⟨_, .next _ _, _, _, _, _⟩ _ _ _; refine e_next (fun _ => ?_) (fun _ _ _ _ => ?_))) | (show wpC _ _ _ _ _ _; first | refine wpC_seq ?_ | refine wpC_region ?_ | refine c_true ?_ | refine c_false ?_ | (refine c_b (fun _ => ?_) (fun _ => ?_) <;> (first | (exfalso; omega) | contradiction | skip)) | refine wpC_block ?_ | refine wpC_ret ?_ | refine wpC_skip ?_ | refine wpC_exit ?_ | refine wpC_label ?_) | (show Then _ _ _ _ _ _ _; first | refine then_normal ?_ | refine then_ret ?_ | refine then_exit ?_) | (show InBlock _ _ _ _ _ _; first | refine inBlock_normal ?_ | refine inBlock_ret ?_ | refine inBlock_same ?_ | refine b_other ?_) | (show LoopPost _ _ _ _ _ _; first | refine loop_ret ?_ | refine loop_exit ?_) | (show RetP _ _ _ _ _ _ _ _; first | refine r_0 ?_))
      exact lp_end ⟨ks ++ [pr.1], some pr, adel left pr.1, o', T'⟩ (adel_less hpl) ⟨hI', hp', by simpa using hinv⟩
    · refine wpO_drp hd ?_
      repeat' (first | (show wpO _ _ _ _ _ _ _; first | refine wpO_nil ?_ | refine s_rdp ?_ | refine s_rdm ?_ | refine s_exq ?_ | refine s_exm ?_) | (show Ex _ _ _ _ _; first | (show Ex _ ⟨_, .range _ _, _, _, _, _⟩ _ _ _; refine e_range ?_; intro _ _ _) | (show Ex _ ⟨_, .next _ _, _, _, _, _⟩ _ _ _; refine e_next (fun _ => ?_) (fun _ _ _ _ => ?_))) | (show wpC _ _ _ _ _ _; first | refine wpC_seq ?_ | refine wpC_region ?_ | refine c_true ?_ | refine c_false ?_ | (refine c_b (fun _ => ?_) (fun _ => ?_) <;> (first | (exfalso; omega) | contradiction | skip)) | refine wpC_block ?_ | refine wpC_ret ?_ | refine wpC_skip ?_ | refine wpC_exit ?_ | refine wpC_label ?_) | (show Then _ _ _ _ _ _ _; first | refine then_normal ?_ | refine then_ret ?_ | refine then_exit ?_) | (show InBlock _ _ _ _ _ _; first | refine inBlock_normal ?_ | refine inBlock_ret ?_ | refine inBlock_same ?_ | refine b_other ?_) | (show LoopPost _ _ _ _ _ _; first | refine loop_ret ?_ | refine loop_exit ?_) | (show RetP _ _ _ _ _ _ _ _; first | refine r_0 ?_))
      exact q_drop (hstop _ hst)

set_option maxHeartbeats 4000000 in
set_option maxRecDepth 100000 in
theorem keys_spec (e : World) {bm : Nat} {H : Hp} {K : Value → Hp → Prop} (hK : ∀ bb, K (.func (.func 75) #[] #[.pointer (some ⟨bb, 0, none⟩)]) ((bb, cellsO [.map (some bm)] 87) :: H)) : callsK Try.prog e 47 #[.map (some bm)] H K := by
  refine calls_body (N := 4) (args := [.map (some bm)]) Try.func47 rfl rfl rfl (by simp) ?_
  repeat' (first | (show wpO _ _ _ _ _ _ _; first | refine wpO_nil ?_ | refine s_rdp ?_ | refine s_rdm ?_ | refine s_exq ?_ | refine s_exm ?_) | (show Ex _ _ _ _ _; first | (show Ex _ ⟨_, .box _ _, _, _, _, _⟩ _ _ _; first | (refine e_boxA ?_; intro _) | (refine e_box1 ?_; intro _))) | (show wpC _ _ _ _ _ _; first | refine wpC_seq ?_ | refine wpC_region ?_ | refine wpC_ret ?_ | refine wpC_skip ?_ | refine wpC_label ?_) | (show Then _ _ _ _ _ _ _; first | refine then_normal ?_ | refine then_ret ?_) | (show RetP _ _ _ _ _ _ _ _; first | refine r_1 ?_))
  exact q_drop (hK _)

set_option maxHeartbeats 4000000 in
set_option maxRecDepth 100000 in
theorem appendSeq_spec (e : World) {gf : FuncId} {fn : Func} {first cap : Array Value} {B F : Hp} {S : List (List Value) → Prop} {K : Value → Hp → Prop} (hI : Iter Try.prog e gf first cap B S) (hf : Try.prog.funcs[gf]? = some fn) (hb : fn.body.isNone = false)
    (hn : (fn.name == "runtime.NumGoroutine") = false) (hS : ∀ s, S s → ∃ ks : List Int, s = ks.map (fun k => [(Value.int .i64) k]) ∧ ks.length ≤ 4398046511104)
    (hK : ∀ s v Bs, S s → SlO 2 1 v s.length s.flatten Bs → K v (Bs ++ (B ++ F))) : callsK Try.prog e 84 #[.slice none 0 0, .func (.func gf) first cap] (B ++ F) K := by
  refine calls_body (N := 13) (args := [.slice none 0 0, .func (.func gf) first cap]) Try.func84 rfl rfl rfl (by simp) ?_
  repeat' (first | (show wpO _ _ _ _ _ _ _; first | refine wpO_nil ?_ | refine s_rdp ?_ | refine s_rdm ?_ | refine s_exq ?_ | refine s_exm ?_) | (show Ex _ _ _ _ _; first | (show Ex _ ⟨_, .box _ _, _, _, _, _⟩ _ _ _; first | (refine e_boxA ?_; intro _) | (refine e_box1 ?_; intro _)) | (show Ex _ ⟨_, .store _ _ _, _, _, _, _⟩ _ _ _; first | refine e_store1 ?_ | refine e_storeA ?_ | (refine e_storeO ?_; intro _ _)) | (show Ex _ ⟨_, .buildSlice _ _ _, _, _, _, _⟩ _ _ _; first | (refine e_buildSlice ?_; intro _) | (refine e_buildNil ?_; intro _ _ _)) | (show Ex _ ⟨_, .call ⟨.builtin .append, _, _⟩, _, _, _, _⟩ _ _ _; (first | refine e_append ?_ | refine e_appendIn ?_); intro _ _ _)) | (show wpC _ _ _ _ _ _; first | refine wpC_seq ?_ | refine wpC_region ?_ | refine wpC_block ?_ | refine wpC_ret ?_ | refine wpC_skip ?_ | refine wpC_label ?_) | (show Then _ _ _ _ _ _ _; first | refine then_normal ?_ | refine then_ret ?_) | (show InBlock _ _ _ _ _ _; first | refine inBlock_normal ?_ | refine inBlock_ret ?_ | refine inBlock_same ?_ | refine b_other ?_) | (show RetP _ _ _ _ _ _ _ _; first | refine r_1 ?_ | refine r_D1 ?_ | refine r_D0 ?_))
  rename_i bs
  refine wpC_rangeIter (T0 := (bs, cellsO [.slice none 0 0] 115) :: F) (B := B) (S := S) (ps := [7]) (fun done T => ∃ v Bs, SlO 2 1 v done.length done.flatten Bs ∧ T = (bs, cellsO [v] 115) :: (Bs ++ F)) (fun _ _ => False) hI ?_ rfl rfl hf hb hn rfl ?_ ⟨_, [], SlO.nil 2 1, rfl⟩ ?_ ?_ (fun _ _ _ h => h.elim)
  · exact List.perm_middle.symm
  · intro s hs x hx
    obtain ⟨ks, rfl, _⟩ := hS s hs
    obtain ⟨k, _, rfl⟩ := List.mem_map.1 hx
    rfl
  · rintro done x _ A l rc ⟨rest, hrest⟩ ⟨v, Bs, hSl, rfl⟩
    obtain ⟨ks, hks, hkl⟩ := hS _ hrest
    have hx : x ∈ ks.map (fun k => [(Value.int .i64) k]) := by rw [← hks]; simp
    obtain ⟨k, _, rfl⟩ := List.mem_map.1 hx
    have hlen : done.length + 1 ≤ 4398046511104 := by
      have := congrArg List.length hks
      simp at this
      omega
    repeat' (first | (show wpO _ _ _ _ _ _ _; first | refine wpO_nil ?_ | refine s_rdp ?_ | refine s_rdm ?_ | refine s_exq ?_ | refine s_exm ?_) | (show Ex _ _ _ _ _; first | (show Ex _ ⟨_, .box _ _, _, _, _, _⟩ _ _ _; first | (refine e_boxA ?_; intro _) | (refine e_box1 ?_; intro _)) | (show Ex _ ⟨_, .store _ _ _, _, _, _, _⟩ _ _ _; first | refine e_store1 ?_ | refine e_storeA ?_ | (refine e_storeO ?_; intro _ _)) | (show Ex _ ⟨_, .buildSlice _ _ _, _, _, _, _⟩ _ _ _; first | (refine e_buildSlice ?_; intro _) | (refine e_buildNil ?_; intro _ _ _)) | (show Ex _ ⟨_, .call ⟨.builtin .append, _, _⟩, _, _, _, _⟩ _ _ _; (first | refine e_append ?_ | refine e_appendIn ?_); intro _ _ _)) | (show wpC _ _ _ _ _ _; first | refine wpC_seq ?_ | refine wpC_region ?_ | refine wpC_block ?_ | refine wpC_ret ?_ | refine wpC_skip ?_ | refine wpC_label ?_) | (show Then _ _ _ _ _ _ _; first | refine then_normal ?_ | refine then_ret ?_) | (show InBlock _ _ _ _ _ _; first | refine inBlock_normal ?_ | refine inBlock_ret ?_ | refine inBlock_same ?_ | refine b_other ?_) | (show RetP _ _ _ _ _ _ _ _; first | refine r_1 ?_ | refine r_D1 ?_ | refine r_D0 ?_))
    refine ⟨rfl, rfl, _, none, ⟨[], by rw [List.append_nil]⟩, ?_⟩
    repeat' (first | (show wpO _ _ _ _ _ _ _; first | refine wpO_nil ?_ | refine s_rdp ?_ | refine s_rdm ?_ | refine s_exq ?_ | refine s_exm ?_) | (show Ex _ _ _ _ _; first | (show Ex _ ⟨_, .box _ _, _, _, _, _⟩ _ _ _; first | (refine e_boxA ?_; intro _) | (refine e_box1 ?_; intro _)) | (show Ex _ ⟨_, .store _ _ _, _, _, _, _⟩ _ _ _; first | refine e_store1 ?_ | refine e_storeA ?_ | (refine e_storeO ?_; intro _ _)) | (show Ex _ ⟨_, .buildSlice _ _ _, _, _, _, _⟩ _ _ _; first | (refine e_buildSlice ?_; intro _) | (refine e_buildNil ?_; intro _ _ _)) | (show Ex _ ⟨_, .call ⟨.builtin .append, _, _⟩, _, _, _, _⟩ _ _ _; (first | refine e_append ?_ | refine e_appendIn ?_); intro _ _ _)) | (show wpC _ _ _ _ _ _; first | refine wpC_seq ?_ | refine wpC_region ?_ | refine wpC_block ?_ | refine wpC_ret ?_ | refine wpC_skip ?_ | refine wpC_label ?_ | (apply wpC_drawX (id := 2) (Bs) [0] rfl (by kernel_rfl); (case hpk => (repeat (first | exact Pcs.blk (by infer_instance) | exact Pcs.nil | (apply Pcs.cons; infer_instance) | apply Pcs.app))))) | (show Then _ _ _ _ _ _ _; first | refine then_normal ?_ | refine then_ret ?_) | (show InBlock _ _ _ _ _ _; first | refine inBlock_normal ?_ | refine inBlock_ret ?_ | refine inBlock_same ?_ | refine b_other ?_) | (show RetP _ _ _ _ _ _ _ _; first | refine r_1 ?_ | refine r_D1 ?_ | refine r_D0 ?_))
    rename_i v' Bs' hs'
    show ∃ p, ∃ T', _ ∧ _
    exact ⟨none, (bs, cellsO [v'] 115) :: (Bs' ++ F), ⟨v', Bs', by simpa using hs', rfl⟩, q_drp⟩
  · rintro D all _ hall ⟨v, Bs, hSl, rfl⟩
    repeat' (first | (show wpO _ _ _ _ _ _ _; first | refine wpO_nil ?_ | refine s_rdp ?_ | refine s_rdm ?_ | refine s_exq ?_ | refine s_exm ?_) | (show Ex _ _ _ _ _; first | (show Ex _ ⟨_, .box _ _, _, _, _, _⟩ _ _ _; first | (refine e_boxA ?_; intro _) | (refine e_box1 ?_; intro _)) | (show Ex _ ⟨_, .store _ _ _, _, _, _, _⟩ _ _ _; first | refine e_store1 ?_ | refine e_storeA ?_ | (refine e_storeO ?_; intro _ _)) | (show Ex _ ⟨_, .buildSlice _ _ _, _, _, _, _⟩ _ _ _; first | (refine e_buildSlice ?_; intro _) | (refine e_buildNil ?_; intro _ _ _)) | (show Ex _ ⟨_, .call ⟨.builtin .append, _, _⟩, _, _, _, _⟩ _ _ _; (first | refine e_append ?_ | refine e_appendIn ?_); intro _ _ _)) | (show wpC _ _ _ _ _ _; first | refine wpC_seq ?_ | refine wpC_region ?_ | refine wpC_block ?_ | refine wpC_ret ?_ | refine wpC_skip ?_ | refine wpC_label ?_) | (show Then _ _ _ _ _ _ _; first | refine then_normal ?_ | refine then_ret ?_) | (show InBlock _ _ _ _ _ _; first | refine inBlock_normal ?_ | refine inBlock_ret ?_ | refine inBlock_same ?_ | refine b_other ?_) | (show RetP _ _ _ _ _ _ _ _; first | refine r_1 ?_ | refine r_D1 ?_ | refine r_D0 ?_))
    exact q_drop (hK all v Bs hall hSl)

set_option maxHeartbeats 4000000 in
set_option maxRecDepth 100000 in
theorem collect_spec (e : World) {gf : FuncId} {fn : Func} {first cap : Array Value} {B F : Hp} {S : List (List Value) → Prop} {K : Value → Hp → Prop} (hI : Iter Try.prog e gf first cap B S) (hf : Try.prog.funcs[gf]? = some fn) (hb : fn.body.isNone = false)
    (hn : (fn.name == "runtime.NumGoroutine") = false) (hS : ∀ s, S s → ∃ ks : List Int, s = ks.map (fun k => [(Value.int .i64) k]) ∧ ks.length ≤ 4398046511104)
    (hK : ∀ s v Bs, S s → SlO 2 1 v s.length s.flatten Bs → K v (Bs ++ (B ++ F))) : callsK Try.prog e 73 #[.func (.func gf) first cap] (B ++ F) K := by
  refine calls_body (N := 5) (args := [.func (.func gf) first cap]) Try.func73 rfl rfl rfl (by simp) ?_
  repeat' (first | (show wpO _ _ _ _ _ _ _; first | refine wpO_nil ?_ | refine s_rdp ?_ | refine s_rdm ?_ | refine s_exq ?_ | refine s_exm ?_) | (show Ex _ _ _ _ _; first | (show Ex _ ⟨_, .call ⟨.value (.func _), _, _⟩, _, _, _, _⟩ _ _ _; refine e_call ?_; first | (apply appendSeq_spec _ hI hf hb hn hS))) | (show wpC _ _ _ _ _ _; first | refine wpC_seq ?_ | refine wpC_region ?_ | refine wpC_ret ?_ | refine wpC_skip ?_ | refine wpC_label ?_) | (show Then _ _ _ _ _ _ _; first | refine then_normal ?_ | refine then_ret ?_) | (show RetP _ _ _ _ _ _ _ _; first | refine r_1 ?_) | assumption | intro _)
  rename_i s v Bs hs hsl
  exact q_drop (hK s v Bs hs hsl)

set_option maxHeartbeats 4000000 in
set_option maxRecDepth 100000 in
theorem sort_spec {e : World} {v : Value} {zs : List Int} {Bs F : Hp} {K : Value → Hp → Prop} (hS : SlO 2 1 v zs.length (zs.map (Value.int .i64)) Bs) (hz : zs.length < 4611686018427387904)
    (hK : ∀ Bs', SlO 2 1 v zs.length ((zs.mergeSort fun x y => decide (x ≤ y)).map (Value.int .i64)) Bs' → K (.tuple #[]) (Bs' ++ F)) : callsK Try.prog e 74 #[v] (Bs ++ F) K :=
  sort_of (sorted := fun l => l.mergeSort fun x y => decide (x ≤ y)) (fun l => List.length_mergeSort l) (fun blk off cap zs w hH hb hz => AnyM.slices_Sort_int Try.sortA blk off cap zs w hH hb hz) (fun p cap w => AnyM.slices_Sort_int_none Try.sortA p cap w) hS hz hK
end Go.Vl
