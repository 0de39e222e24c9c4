/-
  Steps of the proof: Tk, Tki, GO, GP.
-/
import Derived.Test.YtpegidbkplgplaaGreatQ06
import Derived.Test.YtpegidbkplgplaaGreatQ17
namespace Go.Vl
open Go.Proofs Go.Shelf Go.Sort
attribute [local irreducible] wpC wpO wpD Ex Rd callsK RetP Drop valK

structure KyS (κ α : Type) where
  ks : List κ
  last : Option (κ × α)
  left : List (κ × α)
  o : Obj
  T : Hp
abbrev KeyS {α : Type} (l : List (Int × α)) : List (List Value) → Prop := fun s => ∃ ks : List Int, s = ks.map (fun k => [(Value.int .i64) k]) ∧ ks.Perm (l.map Prod.fst)

set_option maxHeartbeats 4000000 in
set_option maxRecDepth 100000 in
theorem keys_iter (e : World) {α : Type} {enc : α → Value} {bb bm clk : Nat} {es : Array MapEntry} {l : List (Int × α)} (hM : MapK (Value.int .i64) enc es clk l) :
    Iter Tryz.prog e 57 #[] #[.pointer (some ⟨bb, 0, none⟩)] [(bb, cellsO [.map (some bm)] 61), (bm, .map es clk)] (KeyS l) := by
  intro yv inv stop K T hY h0 hall hstop
  refine calls_body (N := 14) (args := [yv, .pointer (some ⟨bb, 0, none⟩)]) Tryz.func57 rfl rfl rfl (by simp) ?_
  repeat' (first | (show wpO _ _ _ _ _ _ _; first | refine wpO_nil ?_ | refine s_rdp ?_ | refine s_rdm ?_ | refine s_exq ?_ | refine s_exm ?_) | (show Ex _ _ _ _ _; first | (show Ex _ ⟨_, .range _ _, _, _, _, _⟩ _ _ _; refine e_range ?_; intro _ _ _) | (show Ex _ ⟨_, .next _ _, _, _, _, _⟩ _ _ _; refine e_next (fun _ => ?_) (fun _ _ _ _ => ?_))) | (show wpC _ _ _ _ _ _; first | refine wpC_seq ?_ | refine wpC_region ?_ | refine c_true ?_ | refine c_false ?_ | (refine c_b (fun _ => ?_) (fun _ => ?_) <;> (first | (exfalso; omega) | contradiction | skip)) | refine wpC_block ?_ | refine wpC_ret ?_ | refine wpC_skip ?_ | refine wpC_exit ?_ | refine wpC_label ?_) | (show Then _ _ _ _ _ _ _; first | refine then_normal ?_ | refine then_ret ?_ | refine then_exit ?_) | (show InBlock _ _ _ _ _ _; first | refine inBlock_normal ?_ | refine inBlock_ret ?_ | refine inBlock_same ?_ | refine b_other ?_) | (show LoopPost _ _ _ _ _ _; first | refine loop_ret ?_ | refine loop_exit ?_) | (show RetP _ _ _ _ _ _ _ _; first | refine r_0 ?_))
  rename_i bi oi hI0
  refine wpC_loopA (κ := KyS Int α) [3, 6, 7, 8, 9, 10, 11, 12, 13] (fun _ => []) (fun k => [(bb, cellsO [.map (some bm)] 61), (bm, .map es clk), (bi, k.o)] ++ k.T)
    (fun k => IterK (Value.int .i64) enc bm es clk k.last k.left k.o ∧ (k.ks ++ k.left.map Prod.fst).Perm (l.map Prod.fst) ∧ inv (k.ks.map fun k => [(Value.int .i64) k]) k.T) (fun k => k.left.length) ⟨[], none, l, oi, T⟩ ⟨hI0, .refl _, h0⟩ trivial q_drp ?_
  rintro ⟨ks, la, left, oi, T⟩ ρx ⟨hI, hp, hi⟩
  simp only at hI hp hi ⊢
  repeat' ((fail_if_success (show wpO _ _ _ (⟨_, .call ⟨.value (.tmp _), _, _⟩, _, _, _, _⟩ :: _) _ _ _)); first | (show wpO _ _ _ _ _ _ _; first | refine wpO_nil ?_ | refine s_rdp ?_ | refine s_rdm ?_ | refine s_exq ?_ | refine s_exm ?_) | (show Ex _ _ _ _ _; first | (show Ex _ ⟨_, .range _ _, _, _, _, _⟩ _ _ _; refine e_range ?_; intro _ _ _) | (show Ex _ ⟨_, .next _ _, _, _, _, _⟩ _ _ _; refine e_next (fun _ => ?_) (fun _ _ _ _ => ?_))) | (show wpC _ _ _ _ _ _; first | refine wpC_seq ?_ | refine wpC_region ?_ | refine c_true ?_ | refine c_false ?_ | (refine c_b (fun _ => ?_) (fun _ => ?_) <;> (first | (exfalso; omega) | contradiction | skip)) | refine wpC_block ?_ | refine wpC_ret ?_ | refine wpC_skip ?_ | refine wpC_exit ?_ | refine wpC_label ?_) | (show Then _ _ _ _ _ _ _; first | refine then_normal ?_ | refine then_ret ?_ | refine then_exit ?_) | (show InBlock _ _ _ _ _ _; first | refine inBlock_normal ?_ | refine inBlock_ret ?_ | refine inBlock_same ?_ | refine b_other ?_) | (show LoopPost _ _ _ _ _ _; first | refine loop_ret ?_ | refine loop_exit ?_) | (show RetP _ _ _ _ _ _ _ _; first | refine r_0 ?_))
  · rename_i hl
    subst hl
    refine q_drop (hall _ _ ⟨ks, rfl, ?_⟩ hi)
    simpa using hp
  · rename_i pr hpl o' hI'
    have hnd : (left.map Prod.fst).Nodup := (List.nodup_append.1 (hp.nodup_iff.2 hM.keys)).2.1
    have hpt := (perm_take hnd hpl).map Prod.fst
    have hp' : ((ks ++ [pr.1]) ++ (adel left pr.1).map Prod.fst).Perm (l.map Prod.fst) := by
      rw [List.append_assoc]
      exact ((hpt.symm).append_left ks).trans hp
    have hx : ∃ rest, KeyS l (ks.map (fun k => [(Value.int .i64) k]) ++ [(Value.int .i64) pr.1] :: rest) :=
      ⟨((adel left pr.1).map Prod.fst).map fun k => [(Value.int .i64) k], _, by rw [← List.map_cons (f := fun k => [(Value.int .i64) k]), ← List.map_append], by simpa using hp'⟩
    refine s_exs ?_
    refine e_callV ?_
    refine valK_mono (hY _ _ T [(bb, cellsO [.map (some bm)] 61), (bm, .map es clk), (bi, o')] hx hi) ?_
    rintro b H' (⟨rfl, T', hinv, hd⟩ | ⟨rfl, T', hst, hd⟩)
    · refine wpO_drp hd ?_
      repeat' (first | (show wpO _ _ _ _ _ _ _; first | refine wpO_nil ?_ | refine s_rdp ?_ | refine s_rdm ?_ | refine s_exq ?_ | refine s_exm ?_) | (show Ex _ _ _ _ _; first | (show Ex _ ⟨_, .range _ _, _, _, _, _⟩ _ _ _; refine e_range ?_; intro _ _ _) | (show Ex _ ⟨_, .next _ _, _, _, _, _⟩ _ _ _; refine e_next (fun _ => ?_) (fun _ _ _ _ => ?_))) | (show wpC _ _ _ _ _ _; first | refine wpC_seq ?_ | refine wpC_region ?_ | refine c_true ?_ | refine c_false ?_ | (refine c_b (fun _ => ?_) (fun _ => ?_) <;> (first | (exfalso; omega) | contradiction | skip)) | refine wpC_block ?_ | refine wpC_ret ?_ | refine wpC_skip ?_ | refine wpC_exit ?_ | refine wpC_label ?_) | (show Then _ _ _ _ _ _ _; first | refine then_normal ?_ | refine then_ret ?_ | refine then_exit ?_) | (show InBlock _ _ _ _ _ _; first | refine inBlock_normal ?_ | refine inBlock_ret ?_ | refine inBlock_same ?_ | refine b_other ?_) | (show LoopPost _ _ _ _ _ _; first | refine loop_ret ?_ | refine loop_exit ?_) | (show RetP _ _ _ _ _ _ _ _; first | refine r_0 ?_))
      exact lp_end ⟨ks ++ [pr.1], some pr, adel left pr.1, o', T'⟩ (adel_less hpl) ⟨hI', hp', by simpa using hinv⟩
    · refine wpO_drp hd ?_
      repeat' (first | (show wpO _ _ _ _ _ _ _; first | refine wpO_nil ?_ | refine s_rdp ?_ | refine s_rdm ?_ | refine s_exq ?_ | refine s_exm ?_) | (show Ex _ _ _ _ _; first | (show Ex _ ⟨_, .range _ _, _, _, _, _⟩ _ _ _; refine e_range ?_; intro _ _ _) | (show Ex _ ⟨_, .next _ _, _, _, _, _⟩ _ _ _; refine e_next (fun _ => ?_) (fun _ _ _ _ => ?_))) | (show wpC _ _ _ _ _ _; first | refine wpC_seq ?_ | refine wpC_region ?_ | refine c_true ?_ | refine c_false ?_ | (refine c_b (fun _ => ?_) (fun _ => ?_) <;> (first | (exfalso; omega) | contradiction | skip)) | refine wpC_block ?_ | refine wpC_ret ?_ | refine wpC_skip ?_ | refine wpC_exit ?_ | refine wpC_label ?_) | (show Then _ _ _ _ _ _ _; first | refine then_normal ?_ | refine then_ret ?_ | refine then_exit ?_) | (show InBlock _ _ _ _ _ _; first | refine inBlock_normal ?_ | refine inBlock_ret ?_ | refine inBlock_same ?_ | refine b_other ?_) | (show LoopPost _ _ _ _ _ _; first | refine loop_ret ?_ | refine loop_exit ?_) | (show RetP _ _ _ _ _ _ _ _; first | refine r_0 ?_))
      exact q_drop (hstop _ hst)

set_option maxHeartbeats 4000000 in
set_option maxRecDepth 100000 in
theorem keys_spec (e : World) {bm : Nat} {H : Hp} {K : Value → Hp → Prop} (hK : ∀ bb, K (.func (.func 57) #[] #[.pointer (some ⟨bb, 0, none⟩)]) ((bb, cellsO [.map (some bm)] 61) :: H)) : callsK Tryz.prog e 36 #[.map (some bm)] H K := by
  refine calls_body (N := 4) (args := [.map (some bm)]) Tryz.func36 rfl rfl rfl (by simp) ?_
  repeat' (first | (show wpO _ _ _ _ _ _ _; first | refine wpO_nil ?_ | refine s_rdp ?_ | refine s_rdm ?_ | refine s_exq ?_ | refine s_exm ?_) | (show Ex _ _ _ _ _; first | (show Ex _ ⟨_, .box _ _, _, _, _, _⟩ _ _ _; first | (refine e_boxA ?_; intro _) | (refine e_box1 ?_; intro _))) | (show wpC _ _ _ _ _ _; first | refine wpC_seq ?_ | refine wpC_region ?_ | refine wpC_ret ?_ | refine wpC_skip ?_ | refine wpC_label ?_) | (show Then _ _ _ _ _ _ _; first | refine then_normal ?_ | refine then_ret ?_) | (show RetP _ _ _ _ _ _ _ _; first | refine r_1 ?_))
  exact q_drop (hK _)

set_option maxHeartbeats 4000000 in
set_option maxRecDepth 100000 in
theorem appendSeq_spec (e : World) {gf : FuncId} {fn : Func} {first cap : Array Value} {B F : Hp} {S : List (List Value) → Prop} {K : Value → Hp → Prop} (hI : Iter Tryz.prog e gf first cap B S) (hf : Tryz.prog.funcs[gf]? = some fn) (hb : fn.body.isNone = false)
    (hn : (fn.name == "runtime.NumGoroutine") = false) (hS : ∀ s, S s → ∃ ks : List Int, s = ks.map (fun k => [(Value.int .i64) k]) ∧ ks.length ≤ 4398046511104)
    (hK : ∀ s v Bs, S s → SlO 2 1 v s.length s.flatten Bs → K v (Bs ++ (B ++ F))) : callsK Tryz.prog e 76 #[.slice none 0 0, .func (.func gf) first cap] (B ++ F) K := by
  refine calls_body (N := 13) (args := [.slice none 0 0, .func (.func gf) first cap]) Tryz.func76 rfl rfl rfl (by simp) ?_
  repeat' (first | (show wpO _ _ _ _ _ _ _; first | refine wpO_nil ?_ | refine s_rdp ?_ | refine s_rdm ?_ | refine s_exq ?_ | refine s_exm ?_) | (show Ex _ _ _ _ _; first | (show Ex _ ⟨_, .box _ _, _, _, _, _⟩ _ _ _; first | (refine e_boxA ?_; intro _) | (refine e_box1 ?_; intro _)) | (show Ex _ ⟨_, .store _ _ _, _, _, _, _⟩ _ _ _; first | refine e_store1 ?_ | refine e_storeA ?_ | (refine e_storeO ?_; intro _ _)) | (show Ex _ ⟨_, .buildSlice _ _ _, _, _, _, _⟩ _ _ _; first | (refine e_buildSlice ?_; intro _) | (refine e_buildNil ?_; intro _ _ _)) | (show Ex _ ⟨_, .call ⟨.builtin .append, _, _⟩, _, _, _, _⟩ _ _ _; (first | refine e_append ?_ | refine e_appendIn ?_); intro _ _ _)) | (show wpC _ _ _ _ _ _; first | refine wpC_seq ?_ | refine wpC_region ?_ | refine wpC_block ?_ | refine wpC_ret ?_ | refine wpC_skip ?_ | refine wpC_label ?_) | (show Then _ _ _ _ _ _ _; first | refine then_normal ?_ | refine then_ret ?_) | (show InBlock _ _ _ _ _ _; first | refine inBlock_normal ?_ | refine inBlock_ret ?_ | refine inBlock_same ?_ | refine b_other ?_) | (show RetP _ _ _ _ _ _ _ _; first | refine r_1 ?_ | refine r_D1 ?_ | refine r_D0 ?_))
  rename_i bs
  refine wpC_rangeIter (T0 := (bs, cellsO [.slice none 0 0] 86) :: F) (B := B) (S := S) (ps := [7]) (fun done T => ∃ v Bs, SlO 2 1 v done.length done.flatten Bs ∧ T = (bs, cellsO [v] 86) :: (Bs ++ F)) (fun _ _ => False) hI ?_ rfl rfl hf hb hn rfl ?_ ⟨_, [], SlO.nil 2 1, rfl⟩ ?_ ?_ (fun _ _ _ h => h.elim)
  · exact List.perm_middle.symm
  · intro s hs x hx
    obtain ⟨ks, rfl, _⟩ := hS s hs
    obtain ⟨k, _, rfl⟩ := List.mem_map.1 hx
    rfl
  · rintro done x _ A l rc ⟨rest, hrest⟩ ⟨v, Bs, hSl, rfl⟩
    obtain ⟨ks, hks, hkl⟩ := hS _ hrest
    have hx : x ∈ ks.map (fun k => [(Value.int .i64) k]) := by rw [← hks]; simp
    obtain ⟨k, _, rfl⟩ := List.mem_map.1 hx
    have hlen : done.length + 1 ≤ 4398046511104 := by
      have := congrArg List.length hks
      simp at this
      omega
    repeat' (first | (show wpO _ _ _ _ _ _ _; first | refine wpO_nil ?_ | refine s_rdp ?_ | refine s_rdm ?_ | refine s_exq ?_ | refine s_exm ?_) | (show Ex _ _ _ _ _; first | (show Ex _ ⟨_, .box _ _, _, _, _, _⟩ _ _ _; first | (refine e_boxA ?_; intro _) | (refine e_box1 ?_; intro _)) | (show Ex _ ⟨_, .store _ _ _, _, _, _, _⟩ _ _ _; first | refine e_store1 ?_ | refine e_storeA ?_ | (refine e_storeO ?_; intro _ _)) | (show Ex _ ⟨_, .buildSlice _ _ _, _, _, _, _⟩ _ _ _; first | (refine e_buildSlice ?_; intro _) | (refine e_buildNil ?_; intro _ _ _)) | (show Ex _ ⟨_, .call ⟨.builtin .append, _, _⟩, _, _, _, _⟩ _ _ _; (first | refine e_append ?_ | refine e_appendIn ?_); intro _ _ _)) | (show wpC _ _ _ _ _ _; first | refine wpC_seq ?_ | refine wpC_region ?_ | refine wpC_block ?_ | refine wpC_ret ?_ | refine wpC_skip ?_ | refine wpC_label ?_) | (show Then _ _ _ _ _ _ _; first | refine then_normal ?_ | refine then_ret ?_) | (show InBlock _ _ _ _ _ _; first | refine inBlock_normal ?_ | refine inBlock_ret ?_ | refine inBlock_same ?_ | refine b_other ?_) | (show RetP _ _ _ _ _ _ _ _; first | refine r_1 ?_ | refine r_D1 ?_ | refine r_D0 ?_))
    refine ⟨rfl, rfl, _, none, ⟨[], by rw [List.append_nil]⟩, ?_⟩
    repeat' (first | (show wpO _ _ _ _ _ _ _; first | refine wpO_nil ?_ | refine s_rdp ?_ | refine s_rdm ?_ | refine s_exq ?_ | refine s_exm ?_) | (show Ex _ _ _ _ _; first | (show Ex _ ⟨_, .box _ _, _, _, _, _⟩ _ _ _; first | (refine e_boxA ?_; intro _) | (refine e_box1 ?_; intro _)) | (show Ex _ ⟨_, .store _ _ _, _, _, _, _⟩ _ _ _; first | refine e_store1 ?_ | refine e_storeA ?_ | (refine e_storeO ?_; intro _ _)) | (show Ex _ ⟨_, .buildSlice _ _ _, _, _, _, _⟩ _ _ _; first | (refine e_buildSlice ?_; intro _) | (refine e_buildNil ?_; intro _ _ _)) | (show Ex _ ⟨_, .call ⟨.builtin .append, _, _⟩, _, _, _, _⟩ _ _ _; (first | refine e_append ?_ | refine e_appendIn ?_); intro _ _ _)) | (show wpC _ _ _ _ _ _; first | refine wpC_seq ?_ | refine wpC_region ?_ | refine wpC_block ?_ | refine wpC_ret ?_ | refine wpC_skip ?_ | refine wpC_label ?_ | (apply wpC_drawX (id := 2) (Bs) [0] rfl (by kernel_rfl); (case hpk => (repeat (first | exact Pcs.blk (by infer_instance) | exact Pcs.nil | (apply Pcs.cons; infer_instance) | apply Pcs.app))))) | (show Then _ _ _ _ _ _ _; first | refine then_normal ?_ | refine then_ret ?_) | (show InBlock _ _ _ _ _ _; first | refine inBlock_normal ?_ | refine inBlock_ret ?_ | refine inBlock_same ?_ | refine b_other ?_) | (show RetP _ _ _ _ _ _ _ _; first | refine r_1 ?_ | refine r_D1 ?_ | refine r_D0 ?_))
    rename_i v' Bs' hs'
    show ∃ p, ∃ T', _ ∧ _
    exact ⟨none, (bs, cellsO [v'] 86) :: (Bs' ++ F), ⟨v', Bs', by simpa using hs', rfl⟩, q_drp⟩
  · rintro D all _ hall ⟨v, Bs, hSl, rfl⟩
    repeat' (first | (show wpO _ _ _ _ _ _ _; first | refine wpO_nil ?_ | refine s_rdp ?_ | refine s_rdm ?_ | refine s_exq ?_ | refine s_exm ?_) | (show Ex _ _ _ _ _; first | (show Ex _ ⟨_, .box _ _, _, _, _, _⟩ _ _ _; first | (refine e_boxA ?_; intro _) | (refine e_box1 ?_; intro _)) | (show Ex _ ⟨_, .store _ _ _, _, _, _, _⟩ _ _ _; first | refine e_store1 ?_ | refine e_storeA ?_ | (refine e_storeO ?_; intro _ _)) | (show Ex _ ⟨_, .buildSlice _ _ _, _, _, _, _⟩ _ _ _; first | (refine e_buildSlice ?_; intro _) | (refine e_buildNil ?_; intro _ _ _)) | (show Ex _ ⟨_, .call ⟨.builtin .append, _, _⟩, _, _, _, _⟩ _ _ _; (first | refine e_append ?_ | refine e_appendIn ?_); intro _ _ _)) | (show wpC _ _ _ _ _ _; first | refine wpC_seq ?_ | refine wpC_region ?_ | refine wpC_block ?_ | refine wpC_ret ?_ | refine wpC_skip ?_ | refine wpC_label ?_) | (show Then _ _ _ _ _ _ _; first | refine then_normal ?_ | refine then_ret ?_) | (show InBlock _ _ _ _ _ _; first | refine inBlock_normal ?_ | refine inBlock_ret ?_ | refine inBlock_same ?_ | refine b_other ?_) | (show RetP _ _ _ _ _ _ _ _; first | refine r_1 ?_ | refine r_D1 ?_ | refine r_D0 ?_))
    exact q_drop (hK all v Bs hall hSl)

set_option maxHeartbeats 4000000 in
set_option maxRecDepth 100000 in
theorem collect_spec (e : World) {gf : FuncId} {fn : Func} {first cap : Array Value} {B F : Hp} {S : List (List Value) → Prop} {K : Value → Hp → Prop} (hI : Iter Tryz.prog e gf first cap B S) (hf : Tryz.prog.funcs[gf]? = some fn) (hb : fn.body.isNone = false)
    (hn : (fn.name == "runtime.NumGoroutine") = false) (hS : ∀ s, S s → ∃ ks : List Int, s = ks.map (fun k => [(Value.int .i64) k]) ∧ ks.length ≤ 4398046511104)
    (hK : ∀ s v Bs, S s → SlO 2 1 v s.length s.flatten Bs → K v (Bs ++ (B ++ F))) : callsK Tryz.prog e 55 #[.func (.func gf) first cap] (B ++ F) K := by
  refine calls_body (N := 5) (args := [.func (.func gf) first cap]) Tryz.func55 rfl rfl rfl (by simp) ?_
  repeat' (first | (show wpO _ _ _ _ _ _ _; first | refine wpO_nil ?_ | refine s_rdp ?_ | refine s_rdm ?_ | refine s_exq ?_ | refine s_exm ?_) | (show Ex _ _ _ _ _; first | (show Ex _ ⟨_, .call ⟨.value (.func _), _, _⟩, _, _, _, _⟩ _ _ _; refine e_call ?_; first | (apply appendSeq_spec _ hI hf hb hn hS))) | (show wpC _ _ _ _ _ _; first | refine wpC_seq ?_ | refine wpC_region ?_ | refine wpC_ret ?_ | refine wpC_skip ?_ | refine wpC_label ?_) | (show Then _ _ _ _ _ _ _; first | refine then_normal ?_ | refine then_ret ?_) | (show RetP _ _ _ _ _ _ _ _; first | refine r_1 ?_) | assumption | intro _)
  rename_i s v Bs hs hsl
  exact q_drop (hK s v Bs hs hsl)

set_option maxHeartbeats 4000000 in
set_option maxRecDepth 100000 in
theorem sort_spec {e : World} {v : Value} {zs : List Int} {Bs F : Hp} {K : Value → Hp → Prop} (hS : SlO 2 1 v zs.length (zs.map (Value.int .i64)) Bs) (hz : zs.length < 4611686018427387904)
    (hK : ∀ Bs', SlO 2 1 v zs.length ((zs.mergeSort fun x y => decide (x ≤ y)).map (Value.int .i64)) Bs' → K (.tuple #[]) (Bs' ++ F)) : callsK Tryz.prog e 56 #[v] (Bs ++ F) K :=
  sort_of (sorted := fun l => l.mergeSort fun x y => decide (x ≤ y)) (fun l => List.length_mergeSort l) (fun blk off cap zs w hH hb hz => AnyM.slices_Sort_int Tryz.sortA blk off cap zs w hH hb hz) (fun p cap w => AnyM.slices_Sort_int_none Tryz.sortA p cap w) hS hz hK
end Go.Vl

namespace Go.Vl
open Go.Proofs Go.Shelf Go.Sort
attribute [local irreducible] wpC wpO wpD Ex Rd callsK RetP Drop valK

set_option maxHeartbeats 4000000 in
set_option maxRecDepth 100000 in
theorem mergeSort_le (l : List Int) : (l.mergeSort fun x y => decide (x ≤ y)).Pairwise (· ≤ ·) := by
  have := List.pairwise_mergeSort (le := fun x y : Int => decide (x ≤ y)) (fun a b c h1 h2 => by simp at *; omega) (fun a b => by simp; omega) l
  exact this.imp (by simp)

set_option maxHeartbeats 4000000 in
set_option maxRecDepth 100000 in
theorem sorted_spec (e : World) {α : Type} {enc : α → Value} {bb bm clk : Nat} {es : Array MapEntry} {l : List (Int × α)} {F : Hp} {K : Value → Hp → Prop} (hM : MapK (Value.int .i64) enc es clk l) (hl : l.length ≤ 4398046511104)
    (hK : ∀ v Bs (ks : List Int), ks.Perm (l.map Prod.fst) → ks.Pairwise (· ≤ ·) → SlO 2 1 v ks.length (ks.map (Value.int .i64)) Bs → K v (Bs ++ ([(bb, cellsO [.map (some bm)] 61), (bm, .map es clk)] ++ F))) :
    callsK Tryz.prog e 35 #[.func (.func 57) #[] #[.pointer (some ⟨bb, 0, none⟩)]] ([(bb, cellsO [.map (some bm)] 61), (bm, .map es clk)] ++ F) K := by
  refine calls_body (N := 9) (args := [.func (.func 57) #[] #[.pointer (some ⟨bb, 0, none⟩)]]) Tryz.func35 rfl rfl rfl (by simp) ?_
  repeat' (first | (show wpO _ _ _ _ _ _ _; first | refine wpO_nil ?_ | refine s_rdp ?_ | refine s_rdm ?_ | refine s_exq ?_ | refine s_exm ?_) | (show Ex _ _ _ _ _; first | (show Ex _ ⟨_, .call ⟨.value (.func _), _, _⟩, _, _, _, _⟩ _ _ _; refine e_call ?_; first | (apply collect_spec _ (keys_iter _ hM) rfl rfl (by kernel_rfl) (fun s ⟨ks, h1, h2⟩ => ⟨ks, h1, by have := h2.length_eq; simp at this; omega⟩)))) | (show wpC _ _ _ _ _ _; first | refine wpC_seq ?_ | refine wpC_region ?_ | refine wpC_ret ?_ | refine wpC_skip ?_ | refine wpC_label ?_) | (show Then _ _ _ _ _ _ _; first | refine then_normal ?_ | refine then_ret ?_) | (show RetP _ _ _ _ _ _ _ _; first | refine r_1 ?_) | assumption | intro _)
  rename_i s v Bs hs hS
  obtain ⟨ks, rfl, hp⟩ := hs
  have hfl : (ks.map fun k => [Value.int .i64 k]).flatten = ks.map (Value.int .i64) := by
    clear hS hp
    induction ks with
    | nil => rfl
    | cons a l ih => simp [ih]
  rw [hfl, List.length_map] at hS
  have hlk : ks.length ≤ 4398046511104 := by have := hp.length_eq; simp at this; omega
  repeat' (first | (show wpO _ _ _ _ _ _ _; first | refine wpO_nil ?_ | refine s_rdp ?_ | refine s_rdm ?_ | refine s_exq ?_ | refine s_exm ?_) | (show Ex _ _ _ _ _; first | (show Ex _ ⟨_, .call ⟨.value (.func _), _, _⟩, _, _, _, _⟩ _ _ _; refine e_call ?_; first | (apply sort_spec hS (by omega)))) | (show wpC _ _ _ _ _ _; first | refine wpC_seq ?_ | refine wpC_region ?_ | refine wpC_ret ?_ | refine wpC_skip ?_ | refine wpC_label ?_) | (show Then _ _ _ _ _ _ _; first | refine then_normal ?_ | refine then_ret ?_) | (show RetP _ _ _ _ _ _ _ _; first | refine r_1 ?_) | assumption | intro _)
  rename_i Bs' hS'
  exact q_drop (hK v Bs' _ ((List.mergeSort_perm ks _).trans hp) (mergeSort_le ks) (by rw [List.length_mergeSort]; exact hS'))
end Go.Vl

namespace Go.Vl
open Go.Proofs Classical
set_option maxHeartbeats 4000000 in
set_option maxRecDepth 100000 in
theorem ints_same {ks ws : List Int} (hp : ks.Perm ws) (hk : ks.Pairwise (· ≤ ·)) (hw : ws.Pairwise (· < ·)) : ks = ws := by
  refine List.Perm.eq_of_pairwise (le := fun a b : Int => a ≤ b) ?_ hk (hw.imp fun h => Int.le_of_lt h) hp
  intro a b _ _ h1 h2
  omega
structure LiS where
  i : Nat
  v : Value
  Bs : Hp
  ls : List SlR
def waitsN (a : Ld) (n : Nat) : List Sl := ((a.L.take n).filter fun x => !x.ch a.n).map fun x => ⟨x.slot, a.b, x.en⟩
set_option maxHeartbeats 4000000 in
set_option maxRecDepth 100000 in
theorem waitsN_all {a : Ld} {n : Nat} (h : a.L.length ≤ n) : waitsN a n = a.waits := by unfold waitsN Ld.waits; rw [List.take_of_length_le h]
set_option maxHeartbeats 4000000 in
set_option maxRecDepth 100000 in
theorem waitsN_len (a : Ld) (n : Nat) : (waitsN a n).length ≤ n := by
  unfold waitsN
  rw [List.length_map]
  exact Nat.le_trans (List.length_filter_le _ _) (by rw [List.length_take]; omega)
set_option maxHeartbeats 4000000 in
set_option maxRecDepth 100000 in
theorem lo_at {r : LdR} {a : Ld} (hr : r.ok a) {i : Nat} {x : Opn} (hx : r.lo[i]? = some x) : a.L[i]? = some x.c := by rw [← hr.L, List.getElem?_map, hx]; rfl
set_option maxHeartbeats 4000000 in
set_option maxRecDepth 100000 in
theorem lo_ch {r : LdR} {a : Ld} (hr : r.ok a) {x : Opn} (hx : x ∈ r.lo) : x.ch = x.c.ch a.n := hr.ch x hx
set_option maxHeartbeats 4000000 in
set_option maxRecDepth 100000 in
theorem lo_keys {r : LdR} {a : Ld} (hr : r.ok a) : (r.lo.map fun x => x.slot).Pairwise (· < ·) := by
  have := hr.a.srt
  rw [← hr.L, List.pairwise_map] at this
  exact List.pairwise_map.2 this
set_option maxHeartbeats 4000000 in
set_option maxRecDepth 100000 in
theorem lo_get {r : LdR} {a : Ld} (hr : r.ok a) {x : Opn} (hx : x ∈ r.lo) : aget (r.lo.map fun x => (x.slot, x.o)) x.slot = some x.o := by
  refine aget_of_mem ?_ (List.mem_map.2 ⟨x, hx, rfl⟩)
  have : (r.lo.map fun x => x.slot).Nodup := (lo_keys hr).imp (fun h => Int.ne_of_lt h)
  simpa [Function.comp_def] using this
attribute [local irreducible] eqW eqV wpC wpO wpD Ex Rd callsK RetP Drop valK
set_option maxHeartbeats 4000000 in
set_option maxRecDepth 100000 in
theorem pwaiting (e : World) {a : Ld} {d : Nat} {r : LdR} {F : Hp} {K : Value → Hp → Prop} (hr : r.ok a) (hl : a.L.length * 528 ≤ 140737488355328)
    (hK : ∀ v Bs ls, ls.map SlR.c = a.waits → (∀ s ∈ ls, s.ok) → SlO 73 59 v ls.length (ls.map SlR.cells).flatten Bs → K v ((Bs ++ acH ls) ++ (r.hp a d ++ F))) :
    callsK Tryz.prog e 17 #[pv d] (r.hp a d ++ F) K := by
  have hM := hr.open_
  have hlen : r.lo.length = a.L.length := by rw [← hr.L, List.length_map]
  have hll : (r.lo.map fun x => (x.slot, x.o)).length = a.L.length := by rw [List.length_map, hlen]
  refine calls_body (N := 47) (args := [pv d]) Tryz.func17 rfl rfl rfl (by simp) ?_
  repeat' ((fail_if_success (show wpC _ (.loop _) _ _ _ _)); first | (show wpO _ _ _ _ _ _ _; first | refine wpO_nil ?_ | (show wpO _ _ _ (⟨_, .binOp _ _ _ _ _, _, _, _, _⟩ :: _) _ _ _; first | refine s_tt ?_ | refine s_ff ?_ | refine s_rdp ?_ | ((first | refine s_cmp (fun _ => ?_) (fun _ => ?_) | refine s_cb (fun _ => ?_) (fun _ => ?_)) <;> (first | (exfalso; omega) | contradiction | skip))) | (show wpO _ _ _ (⟨_, .lookup _ _ _ _, _, _, _, _⟩ :: _) _ _ _; first | refine s_rdm ?_ | refine s_look (fun _ _ => ?_) (fun _ => ?_)) | (show wpO _ _ _ (⟨_, .indexAddr _ _ _, _, _, _, _⟩ :: _) _ _ _; first | refine s_rdp ?_ | refine s_idx (fun _ _ _ _ _ _ _ => ?_)) | refine s_rdp ?_ | refine s_rdm ?_ | refine s_exq ?_ | refine s_exm ?_) | (show Ex _ _ _ _ _; first | (show Ex _ ⟨_, .call ⟨.value (.func _), _, _⟩, _, _, _, _⟩ _ _ _; refine e_call ?_; first | (apply keys_spec _) | (apply p_pcs; (first | apply pnone _ | apply sorted_spec _ hM (by omega)); (try case hS => assumption); (case hpcs => (repeat (first | exact Pcs.blk (by infer_instance) | exact Pcs.nil | (apply Pcs.cons; infer_instance) | apply Pcs.app))))) | (show Ex _ ⟨_, .buildSlice _ _ _, _, _, _, _⟩ _ _ _; first | (refine e_buildSlice ?_; intro _) | (refine e_buildNil ?_; intro _ _ _)) | (show Ex _ ⟨_, .call ⟨.builtin .append, _, _⟩, _, _, _, _⟩ _ _ _; (first | refine e_append ?_ | refine e_appendIn ?_); intro _ _ _)) | (show wpC _ _ _ _ _ _; first | refine wpC_seq ?_ | refine wpC_region ?_ | refine c_true ?_ | refine c_false ?_ | (refine c_b (fun _ => ?_) (fun _ => ?_) <;> (first | (exfalso; omega) | contradiction | skip)) | refine wpC_block ?_ | refine wpC_ret ?_ | refine wpC_skip ?_ | refine wpC_exit ?_ | refine wpC_label ?_ | (apply wpC_drawX (id := 9) ([]) [0, 1, 2, 3, 4, 5, 6, 7, 8, 9, 10, 11, 12, 13, 14] rfl (by kernel_rfl); (case hpk => (repeat (first | exact Pcs.blk (by infer_instance) | exact Pcs.nil | (apply Pcs.cons; infer_instance) | apply Pcs.app))))) | (show Then _ _ _ _ _ _ _; first | refine then_normal ?_ | refine then_ret ?_ | refine then_exit ?_) | (show InBlock _ _ _ _ _ _; first | refine inBlock_normal ?_ | refine inBlock_ret ?_ | refine inBlock_same ?_ | refine b_other ?_) | (show LoopPost _ _ _ _ _ _; first | refine loop_ret ?_ | refine loop_exit ?_) | (show wpD _ _ _ _ _ _ _ _; first | refine wpD_nil ?_ | refine d_rdp ?_ | refine d_rdm ?_ | refine d_tt ?_ | refine d_ff ?_ | ((first | refine d_cmp (fun _ => ?_) (fun _ => ?_) | refine d_cb (fun _ => ?_) (fun _ => ?_)) <;> (first | (exfalso; omega) | contradiction | skip)) | refine d_look (fun _ _ => ?_) (fun _ => ?_) | refine d_idx (fun _ _ _ _ _ _ _ => ?_) | refine d_exs ?_ | refine d_exn ?_) | (show (_ ∨ Subs _ _) ∧ _; first | refine d_sub ?_ | refine d_cov ?_) | (show RetP _ _ _ _ _ _ _ _; first | refine r_1 ?_) | assumption | intro _)
  rename_i bb vk Bk ks hp hs hS
  have hks : ks = r.lo.map fun x => x.slot := by
    refine ints_same (hp.trans ?_) hs (lo_keys hr)
    simp [Function.comp_def]
  subst hks
  have hfl : ∀ l : List Int, (l.map fun k => [Value.int .i64 k]).flatten = l.map (Value.int .i64) := fun l => by
    induction l with
    | nil => rfl
    | cons a l ih => simp [ih]
  have hin : InSl Bk 1 ((r.lo.map fun x => x.slot).map fun k => [Value.int .i64 k]) vk := SlO.inB (e := 2) (by rw [List.length_map, hfl]; exact hS) (fun r hr => by obtain ⟨u, _, rfl⟩ := List.mem_map.1 hr; exact ⟨rfl, rfl⟩)
  have hlk : (r.lo.map fun x => x.slot).length = a.L.length := by rw [List.length_map, hlen]
  have hget := fun x hx => lo_get hr (x := x) hx
  have hcho := fun x hx => lo_ch hr (x := x) hx
  have hat := fun i x hx => lo_at hr (i := i) (x := x) hx
  have hli := hr.li
  clear hr hp hs
  obtain ⟨m1, m2, bes, bclk, ses, sclk, lb, lo, M⟩ := r
  simp only at hM hlen hll hin hlk hget hcho hat hli hS ⊢
  refine wpC_loopA (κ := LiS) [3, 5, 6, 16, 17, 18, 19, 20, 21, 22, 23, 24, 25, 26, 27, 28, 29, 30, 31, 32, 33, 34, 35, 36, 37, 38, 39, 40, 41, 42, 43, 44, 45] (fun s => [(3, s.v), (16, .int .i64 (s.i : Int))]) (fun s => ((s.Bs ++ acH s.ls) ++ (([(d, cellsO (ldC a m1 m2) 65), (m1, .map bes bclk), (m2, .map ses sclk)] ++ (opH lo ++ M)) ++ F)) ++ Bk)
    (fun s => s.i ≤ a.L.length ∧ s.ls.map SlR.c = waitsN a s.i ∧ (∀ x ∈ s.ls, x.ok) ∧ SlO 73 59 s.v s.ls.length (s.ls.map SlR.cells).flatten s.Bs) (fun s => a.L.length - s.i) ⟨0, .slice none 0 0, [], []⟩ ⟨Nat.zero_le _, rfl, (fun x hx => by cases hx), SlO.nil 73 59⟩ ⟨rfl, rfl, trivial⟩ q_drp ?_
  rintro ⟨i, v, Bs, ls⟩ ρx ⟨hi, hls, hok, hv⟩
  simp only at hi hls hok hv ⊢
  have hlsl : ls.length ≤ i := by
    have := congrArg List.length hls
    rw [List.length_map] at this
    rw [this]
    exact waitsN_len a i
  cases hx : lo[i]? with
  | none =>
    have hge : lo.length ≤ i := List.getElem?_eq_none_iff.1 hx
    rw [waitsN_all (by omega)] at hls
    repeat' (first | (show wpO _ _ _ _ _ _ _; first | refine wpO_nil ?_ | (show wpO _ _ _ (⟨_, .binOp _ _ _ _ _, _, _, _, _⟩ :: _) _ _ _; first | refine s_tt ?_ | refine s_ff ?_ | refine s_rdp ?_ | ((first | refine s_cmp (fun _ => ?_) (fun _ => ?_) | refine s_cb (fun _ => ?_) (fun _ => ?_)) <;> (first | (exfalso; omega) | contradiction | skip))) | (show wpO _ _ _ (⟨_, .lookup _ _ _ _, _, _, _, _⟩ :: _) _ _ _; first | refine s_rdm ?_ | refine s_look (fun _ _ => ?_) (fun _ => ?_)) | (show wpO _ _ _ (⟨_, .indexAddr _ _ _, _, _, _, _⟩ :: _) _ _ _; first | refine s_rdp ?_ | refine s_idx (fun _ _ _ _ _ _ _ => ?_)) | refine s_rdp ?_ | refine s_rdm ?_ | refine s_exq ?_ | refine s_exm ?_) | (show Ex _ _ _ _ _; first | (show Ex _ ⟨_, .buildSlice _ _ _, _, _, _, _⟩ _ _ _; first | (refine e_buildSlice ?_; intro _) | (refine e_buildNil ?_; intro _ _ _)) | (show Ex _ ⟨_, .call ⟨.builtin .append, _, _⟩, _, _, _, _⟩ _ _ _; (first | refine e_append ?_ | refine e_appendIn ?_); intro _ _ _)) | (show wpC _ _ _ _ _ _; first | refine wpC_seq ?_ | refine wpC_region ?_ | refine c_true ?_ | refine c_false ?_ | (refine c_b (fun _ => ?_) (fun _ => ?_) <;> (first | (exfalso; omega) | contradiction | skip)) | refine wpC_block ?_ | refine wpC_ret ?_ | refine wpC_skip ?_ | refine wpC_exit ?_ | refine wpC_label ?_ | (apply wpC_drawX (id := 9) ([]) [0, 1, 2, 3, 4, 5, 6, 7, 8, 9, 10, 11, 12, 13, 14] rfl (by kernel_rfl); (case hpk => (repeat (first | exact Pcs.blk (by infer_instance) | exact Pcs.nil | (apply Pcs.cons; infer_instance) | apply Pcs.app))))) | (show Then _ _ _ _ _ _ _; first | refine then_normal ?_ | refine then_ret ?_ | refine then_exit ?_) | (show InBlock _ _ _ _ _ _; first | refine inBlock_normal ?_ | refine inBlock_ret ?_ | refine inBlock_same ?_ | refine b_other ?_) | (show LoopPost _ _ _ _ _ _; first | refine loop_ret ?_ | refine loop_exit ?_) | (show wpD _ _ _ _ _ _ _ _; first | refine wpD_nil ?_ | refine d_rdp ?_ | refine d_rdm ?_ | refine d_tt ?_ | refine d_ff ?_ | ((first | refine d_cmp (fun _ => ?_) (fun _ => ?_) | refine d_cb (fun _ => ?_) (fun _ => ?_)) <;> (first | (exfalso; omega) | contradiction | skip)) | refine d_look (fun _ _ => ?_) (fun _ => ?_) | refine d_idx (fun _ _ _ _ _ _ _ => ?_) | refine d_exs ?_ | refine d_exn ?_) | (show (_ ∨ Subs _ _) ∧ _; first | refine d_sub ?_ | refine d_cov ?_) | (show RetP _ _ _ _ _ _ _ _; first | refine r_1 ?_))
    all_goals first | (exfalso; omega) | exact q_drop (hK v Bs ls hls hok hv) | trace_state
  | some x =>
    have hlt := (List.getElem?_eq_some_iff.1 hx).1
    have hxm := List.mem_of_getElem? hx
    have hgk : (lo.map fun x => x.slot)[i]? = some x.slot := by simp [hx]
    have hgx := hget x hxm
    have hcx := hcho x hxm
    obtain ⟨hei, hes⟩ := hli x hxm
    have hax := hat i x hx
    have htk : waitsN a (i + 1) = waitsN a i ++ (if x.ch = true then [] else [⟨x.slot, a.b, x.en.c⟩]) := by
      unfold waitsN
      rw [List.take_add_one, hax, List.filter_append, List.map_append]
      congr 1
      rw [hcx]
      cases hc : x.c.ch a.n <;> simp [hc]
    obtain ⟨l1, l2, rfl⟩ : ∃ l1 l2, lo = l1 ++ x :: l2 := List.append_of_mem hxm
    have hsp : opH (l1 ++ x :: l2) = opH l1 ++ ((x.o, cellsO x.cells 93) :: opH l2) := by rw [opH_app]; rfl
    rw [hsp]
    clear hK hget hcho hat hli hcx
    obtain ⟨xs, xo, xe, xv, xc⟩ := x
    simp only at hgk hgx hei hes htk
    cases xc with
    | true =>
      repeat' (first | (show wpO _ _ _ _ _ _ _; first | refine wpO_nil ?_ | (show wpO _ _ _ (⟨_, .binOp _ _ _ _ _, _, _, _, _⟩ :: _) _ _ _; first | refine s_tt ?_ | refine s_ff ?_ | refine s_rdp ?_ | ((first | refine s_cmp (fun _ => ?_) (fun _ => ?_) | refine s_cb (fun _ => ?_) (fun _ => ?_)) <;> (first | (exfalso; omega) | contradiction | skip))) | (show wpO _ _ _ (⟨_, .lookup _ _ _ _, _, _, _, _⟩ :: _) _ _ _; first | refine s_rdm ?_ | refine s_look (fun _ _ => ?_) (fun _ => ?_)) | (show wpO _ _ _ (⟨_, .indexAddr _ _ _, _, _, _, _⟩ :: _) _ _ _; first | refine s_rdp ?_ | refine s_idx (fun _ _ _ _ _ _ _ => ?_)) | refine s_rdp ?_ | refine s_rdm ?_ | refine s_exq ?_ | refine s_exm ?_) | (show Ex _ _ _ _ _; first | (show Ex _ ⟨_, .buildSlice _ _ _, _, _, _, _⟩ _ _ _; first | (refine e_buildSlice ?_; intro _) | (refine e_buildNil ?_; intro _ _ _)) | (show Ex _ ⟨_, .call ⟨.builtin .append, _, _⟩, _, _, _, _⟩ _ _ _; (first | refine e_append ?_ | refine e_appendIn ?_); intro _ _ _)) | (show wpC _ _ _ _ _ _; first | refine wpC_seq ?_ | refine wpC_region ?_ | refine c_true ?_ | refine c_false ?_ | (refine c_b (fun _ => ?_) (fun _ => ?_) <;> (first | (exfalso; omega) | contradiction | skip)) | refine wpC_block ?_ | refine wpC_ret ?_ | refine wpC_skip ?_ | refine wpC_exit ?_ | refine wpC_label ?_ | (apply wpC_drawX (id := 9) ([]) [0, 1, 2, 3, 4, 5, 6, 7, 8, 9, 10, 11, 12, 13, 14] rfl (by kernel_rfl); (case hpk => (repeat (first | exact Pcs.blk (by infer_instance) | exact Pcs.nil | (apply Pcs.cons; infer_instance) | apply Pcs.app))))) | (show Then _ _ _ _ _ _ _; first | refine then_normal ?_ | refine then_ret ?_ | refine then_exit ?_) | (show InBlock _ _ _ _ _ _; first | refine inBlock_normal ?_ | refine inBlock_ret ?_ | refine inBlock_same ?_ | refine b_other ?_) | (show LoopPost _ _ _ _ _ _; first | refine loop_ret ?_ | refine loop_exit ?_) | (show wpD _ _ _ _ _ _ _ _; first | refine wpD_nil ?_ | refine d_rdp ?_ | refine d_rdm ?_ | refine d_tt ?_ | refine d_ff ?_ | ((first | refine d_cmp (fun _ => ?_) (fun _ => ?_) | refine d_cb (fun _ => ?_) (fun _ => ?_)) <;> (first | (exfalso; omega) | contradiction | skip)) | refine d_look (fun _ _ => ?_) (fun _ => ?_) | refine d_idx (fun _ _ _ _ _ _ _ => ?_) | refine d_exs ?_ | refine d_exn ?_) | (show (_ ∨ Subs _ _) ∧ _; first | refine d_sub ?_ | refine d_cov ?_) | (show RetP _ _ _ _ _ _ _ _; first | refine r_1 ?_))
      all_goals first
        | (exfalso; omega)
        | exact lp_end ⟨i + 1, v, Bs, ls⟩ (by simp only; omega) ⟨by simp only; omega, by simp only; rw [htk, if_pos rfl, List.append_nil]; exact hls, hok, hv⟩
        | trace_state
    | false =>
      repeat' (first | (show wpO _ _ _ _ _ _ _; first | refine wpO_nil ?_ | (show wpO _ _ _ (⟨_, .binOp _ _ _ _ _, _, _, _, _⟩ :: _) _ _ _; first | refine s_tt ?_ | refine s_ff ?_ | refine s_rdp ?_ | ((first | refine s_cmp (fun _ => ?_) (fun _ => ?_) | refine s_cb (fun _ => ?_) (fun _ => ?_)) <;> (first | (exfalso; omega) | contradiction | skip))) | (show wpO _ _ _ (⟨_, .lookup _ _ _ _, _, _, _, _⟩ :: _) _ _ _; first | refine s_rdm ?_ | refine s_look (fun _ _ => ?_) (fun _ => ?_)) | (show wpO _ _ _ (⟨_, .indexAddr _ _ _, _, _, _, _⟩ :: _) _ _ _; first | refine s_rdp ?_ | refine s_idx (fun _ _ _ _ _ _ _ => ?_)) | refine s_rdp ?_ | refine s_rdm ?_ | refine s_exq ?_ | refine s_exm ?_) | (show Ex _ _ _ _ _; first | (show Ex _ ⟨_, .call ⟨.value (.func _), _, _⟩, _, _, _, _⟩ _ _ _; refine e_call ?_; first | (apply p_pcs; apply cloneEntry_spec _ (x := xe) hei hes; (try case hS => assumption); (case hpcs => (repeat (first | exact Pcs.blk (by infer_instance) | exact Pcs.nil | (apply Pcs.cons; infer_instance) | apply Pcs.app))))) | (show Ex _ ⟨_, .buildSlice _ _ _, _, _, _, _⟩ _ _ _; first | (refine e_buildSlice ?_; intro _) | (refine e_buildNil ?_; intro _ _ _)) | (show Ex _ ⟨_, .call ⟨.builtin .append, _, _⟩, _, _, _, _⟩ _ _ _; (first | refine e_append ?_ | refine e_appendIn ?_); intro _ _ _)) | (show wpC _ _ _ _ _ _; first | refine wpC_seq ?_ | refine wpC_region ?_ | refine c_true ?_ | refine c_false ?_ | (refine c_b (fun _ => ?_) (fun _ => ?_) <;> (first | (exfalso; omega) | contradiction | skip)) | refine wpC_block ?_ | refine wpC_ret ?_ | refine wpC_skip ?_ | refine wpC_exit ?_ | refine wpC_label ?_ | (apply wpC_drawK (id := 9) [65, 93] [0, 1, 2, 3, 4, 5, 6, 7, 8, 9, 10, 11, 12, 13, 14] rfl (by kernel_rfl); infer_instance)) | (show Then _ _ _ _ _ _ _; first | refine then_normal ?_ | refine then_ret ?_ | refine then_exit ?_) | (show InBlock _ _ _ _ _ _; first | refine inBlock_normal ?_ | refine inBlock_ret ?_ | refine inBlock_same ?_ | refine b_other ?_) | (show LoopPost _ _ _ _ _ _; first | refine loop_ret ?_ | refine loop_exit ?_) | (show wpD _ _ _ _ _ _ _ _; first | refine wpD_nil ?_ | refine d_rdp ?_ | refine d_rdm ?_ | refine d_tt ?_ | refine d_ff ?_ | ((first | refine d_cmp (fun _ => ?_) (fun _ => ?_) | refine d_cb (fun _ => ?_) (fun _ => ?_)) <;> (first | (exfalso; omega) | contradiction | skip)) | refine d_look (fun _ _ => ?_) (fun _ => ?_) | refine d_idx (fun _ _ _ _ _ _ _ => ?_) | refine d_exs ?_ | refine d_exn ?_) | (show (_ ∨ Subs _ _) ∧ _; first | refine d_sub ?_ | refine d_cov ?_) | (show RetP _ _ _ _ _ _ _ _; first | refine r_1 ?_) | assumption | intro _)
      all_goals first | (exfalso; omega) | skip
      rename_i y hyc Bo Bd hO bx v' Bs' hv'
      refine lp_end ⟨i + 1, v', Bs', ls ++ [⟨xs, a.b, y, Bo, Bd⟩]⟩ (by simp only; omega) ⟨by simp only; omega, ?_, ?_, hv'.cast (by simp) (by simp)⟩ (h6 := by simp only [acH_app, acH_cons, show acH [] = [] from rfl, List.append_nil]; exact q_drp)
      · show List.map SlR.c _ = _
        rw [htk, List.map_append, hls, if_neg (by decide)]
        congr 1
        show [(⟨xs, a.b, y.c⟩ : Sl)] = [⟨xs, a.b, xe.c⟩]
        rw [hyc]
      · intro z hz
        rcases List.mem_append.1 hz with hz | hz
        · exact hok z hz
        · obtain rfl := List.mem_singleton.1 hz
          exact hO
end Go.Vl

namespace Go.Vl
open Go.Proofs Classical
set_option maxHeartbeats 4000000 in
set_option maxRecDepth 100000 in
theorem opAt (x : Opn) {k : Nat} (hk : k < 5) : x.cells[0 + 56 + k * 1]? = some (.bool (x.v k)) := by
  rcases (by omega : k = 0 ∨ k = 1 ∨ k = 2 ∨ k = 3 ∨ k = 4) with rfl | rfl | rfl | rfl | rfl <;> rfl
set_option maxHeartbeats 4000000 in
set_option maxRecDepth 100000 in
theorem opSet (xs : Int) (xo : Nat) (xe : EnR) (xv : Nat → Bool) (xc : Bool) {k : Nat} (hk : k < 5) : (Opn.mk xs xo xe xv xc).cells.set (0 + 56 + k * 1) (.bool true) = (Opn.mk xs xo xe (setv xv k) xc).cells := by
  rcases (by omega : k = 0 ∨ k = 1 ∨ k = 2 ∨ k = 3 ∨ k = 4) with rfl | rfl | rfl | rfl | rfl <;> rfl
attribute [local irreducible] eqW eqV wpC wpO wpD Ex Rd callsK RetP Drop valK
set_option maxHeartbeats 4000000 in
set_option maxRecDepth 100000 in
theorem pnext (e : World) {a : Ld} {d : Nat} {r : LdR} {F : Hp} {K : Value → Hp → Prop} (hK : K (.int .i64 a.next) (r.hp a d ++ F)) : callsK Tryz.prog e 12 #[pv d] (r.hp a d ++ F) K := by
  refine calls_body (N := 9) (args := [pv d]) Tryz.func12 rfl rfl rfl (by simp) ?_
  repeat' (first | (show wpO _ _ _ _ _ _ _; first | refine wpO_nil ?_ | refine s_rdp ?_ | refine s_rdm ?_ | refine s_exq ?_ | refine s_exm ?_) | (show Ex _ _ _ _ _; first | (show Ex _ ⟨_, .call ⟨.value (.func _), _, _⟩, _, _, _, _⟩ _ _ _; refine e_call ?_; first | (apply p_pcs; apply pnone _; (try case hS => assumption); (case hpcs => (repeat (first | exact Pcs.blk (by infer_instance) | exact Pcs.nil | (apply Pcs.cons; infer_instance) | apply Pcs.app)))))) | (show wpC _ _ _ _ _ _; first | refine wpC_seq ?_ | refine wpC_region ?_ | refine c_true ?_ | refine c_false ?_ | (refine c_b (fun _ => ?_) (fun _ => ?_) <;> (first | (exfalso; omega) | contradiction | skip)) | refine wpC_ret ?_ | refine wpC_skip ?_ | refine wpC_label ?_) | (show Then _ _ _ _ _ _ _; first | refine then_normal ?_ | refine then_ret ?_) | (show RetP _ _ _ _ _ _ _ _; first | refine r_1 ?_) | assumption | intro _)
  all_goals first | exact q_drop hK | trace_state
set_option maxHeartbeats 4000000 in
set_option maxRecDepth 100000 in
theorem pready (e : World) {a : Ld} {d : Nat} {r : LdR} {F : Hp} {K : Value → Hp → Prop} (hK : K (.bool a.ready) (r.hp a d ++ F)) : callsK Tryz.prog e 10 #[pv d] (r.hp a d ++ F) K := by
  refine calls_body (N := 12) (args := [pv d]) Tryz.func10 rfl rfl rfl (by simp) ?_
  repeat' (first | (show wpO _ _ _ _ _ _ _; first | refine wpO_nil ?_ | (show wpO _ _ _ (⟨_, .pick _ _ _, _, _, _, _⟩ :: _) _ _ _; first | refine s_rdp ?_ | (refine s_p (fun _ => ?_) (fun _ => ?_) <;> (first | (exfalso; omega) | contradiction | skip))) | refine s_rdp ?_ | refine s_rdm ?_ | refine s_exq ?_ | refine s_exm ?_ | refine s_sks ?_ | refine s_skn ?_ | (refine s_g (fun _ => ?_) (fun _ => ?_) <;> (first | (exfalso; omega) | contradiction | skip))) | (show Ex _ _ _ _ _; first | (show Ex _ ⟨_, .call ⟨.value (.func _), _, _⟩, _, _, _, _⟩ _ _ _; refine e_call ?_; first | (apply p_pcs; apply pnone _; (try case hS => assumption); (case hpcs => (repeat (first | exact Pcs.blk (by infer_instance) | exact Pcs.nil | (apply Pcs.cons; infer_instance) | apply Pcs.app)))))) | (show wpC _ _ _ _ _ _; first | refine wpC_seq ?_ | refine wpC_region ?_ | refine wpC_ret ?_ | refine wpC_skip ?_ | refine wpC_label ?_) | (show Then _ _ _ _ _ _ _; first | refine then_normal ?_ | refine then_ret ?_) | (show RetP _ _ _ _ _ _ _ _; first | refine r_1 ?_) | assumption | intro _)
  all_goals first | exact q_drop hK | trace_state
set_option maxHeartbeats 4000000 in
set_option maxRecDepth 100000 in
theorem pballot (e : World) {a : Ld} {d : Nat} {r : LdR} {F : Hp} {K : Value → Hp → Prop} (hK : K (.agg a.b.cells.toArray) (r.hp a d ++ F)) : callsK Tryz.prog e 14 #[pv d] (r.hp a d ++ F) K := by
  refine calls_body (N := 10) (args := [pv d]) Tryz.func14 rfl rfl rfl (by simp) ?_
  repeat' (first | refine r_CA ?_ | (show wpO _ _ _ _ _ _ _; first | refine wpO_nil ?_ | refine s_rdp ?_ | refine s_rdm ?_ | refine s_exq ?_ | refine s_exm ?_) | (show Ex _ _ _ _ _; first | (show Ex _ ⟨_, .call ⟨.value (.func _), _, _⟩, _, _, _, _⟩ _ _ _; refine e_call ?_; first | (apply p_pcs; apply pnone _; (try case hS => assumption); (case hpcs => (repeat (first | exact Pcs.blk (by infer_instance) | exact Pcs.nil | (apply Pcs.cons; infer_instance) | apply Pcs.app))))) | (show Ex _ ⟨_, .alloc _, _, _, _, _⟩ _ _ _; first | (refine e_allocA ?_; intro _) | (refine e_alloc1 ?_; intro _)) | (show Ex _ ⟨_, .store _ _ _, _, _, _, _⟩ _ _ _; first | refine e_store1 ?_ | refine e_storeA ?_ | (refine e_storeO ?_; intro _ _))) | (show wpC _ _ _ _ _ _; first | refine wpC_seq ?_ | refine wpC_region ?_ | refine c_true ?_ | refine c_false ?_ | (refine c_b (fun _ => ?_) (fun _ => ?_) <;> (first | (exfalso; omega) | contradiction | skip)) | refine wpC_ret ?_ | refine wpC_skip ?_ | refine wpC_label ?_) | (show Then _ _ _ _ _ _ _; first | refine then_normal ?_ | refine then_ret ?_) | (show RetP _ _ _ _ _ _ _ _; first | refine r_C1 ?_ | refine r_DC ?_) | assumption | intro _)
  all_goals first | exact q_drop hK | trace_state
set_option maxHeartbeats 4000000 in
set_option maxRecDepth 100000 in
theorem ok_put {a : Ld} (h : a.ok) (hr : a.ready = true) (hn : a.next ≤ 1099511627776) (e : EnC) : Ld.ok { a with L := a.L ++ [⟨a.next, e, noV⟩], next := a.next + 1 } := by
  refine ⟨h.n1, h.n5, h.f0, h.f1, ?_, ?_, h.key, h.nod, ?_, ?_, fun g => ?_⟩
  · have := h.x0; show a.fr ≤ a.next + 1; omega
  · show a.next + 1 ≤ _; omega
  · refine List.pairwise_append.2 ⟨h.srt, List.pairwise_singleton _ _, fun x hx y hy => ?_⟩
    rw [List.mem_singleton.1 hy]
    exact (h.sl x hx).2
  · intro x hx
    show a.fr ≤ x.slot ∧ x.slot < a.next + 1
    have := h.x0
    rcases List.mem_append.1 hx with hx | hx
    · have := h.sl x hx; omega
    · rw [List.mem_singleton.1 hx]; simp only; omega
  · have g : a.ready = false := g
    rw [hr] at g; cases g
set_option maxHeartbeats 4000000 in
set_option maxRecDepth 100000 in
theorem r_put {r : LdR} {a : Ld} (h : r.ok a) (hr : a.ready = true) (hn : a.next ≤ 1099511627776) {y : EnR} {e : EnC} (hy : y.c = e) (hz : EnSz e) {o : Nat} {es : Array MapEntry} {clk : Nat} {Bo Bd M' : Hp} (hO : EnO y Bo Bd) (hM' : ∀ z ∈ Bo ++ Bd, z ∈ M') (hM2 : ∀ z ∈ r.M, z ∈ M')
    (hM : MapK (Value.int .i64) pv es clk (aput (r.lo.map fun x => (x.slot, x.o)) a.next o)) :
    LdR.ok ⟨r.m1, r.m2, r.bes, r.bclk, es, clk, r.lb, r.lo ++ [⟨a.next, o, y, noV, false⟩], M'⟩ { a with L := a.L ++ [⟨a.next, e, noV⟩], next := a.next + 1 } := by
  have hn0 : aget (r.lo.map fun x => (x.slot, x.o)) a.next = none := by
    rw [aget_none]
    intro p hp
    obtain ⟨x, hx, rfl⟩ := List.mem_map.1 hp
    have := h.a.sl x.c (by rw [← h.L]; exact List.mem_map.2 ⟨x, hx, rfl⟩)
    simp only at this ⊢; omega
  rw [aput_new hn0] at hM
  refine ⟨h.best, by simpa using hM, h.came, ?_, ?_, fun p hp => ⟨(h.bi p hp).1.more hM2, (h.bi p hp).2⟩, ?_, ok_put h.a hr hn e⟩
  · show (r.lo ++ [_]).map Opn.c = a.L ++ [_]
    rw [List.map_append, h.L, ← hy]; rfl
  · intro x hx
    rcases List.mem_append.1 hx with hx | hx
    · exact h.ch x hx
    · rw [List.mem_singleton.1 hx]
      show false = decide (maj a.n ≤ cnt5 noV)
      rw [cnt_noV]; unfold maj; simp
  · intro x hx
    rcases List.mem_append.1 hx with hx | hx
    · exact ⟨(h.li x hx).1.more hM2, (h.li x hx).2⟩
    · rw [List.mem_singleton.1 hx]
      exact ⟨(EnO.inn hO).more hM', by rw [show y.c = e from hy]; exact hz⟩
end Go.Vl
