/-
  slices.Sorted over a map's keys that are integers.
-/
import Derived.Test.YtpegidbkplgplaaTk
namespace Go.Vl
open Go.Proofs Go.Shelf Go.Sort
attribute [local irreducible] wpC wpO wpD Ex Rd callsK RetP Drop valK

set_option maxHeartbeats 4000000 in
set_option maxRecDepth 100000 in
theorem mergeSort_le (l : List Int) : (l.mergeSort fun x y => decide (x ≤ y)).Pairwise (· ≤ ·) := by
  have := List.pairwise_mergeSort (le := fun x y : Int => decide (x ≤ y)) (fun a b c h1 h2 => by simp at *; omega) (fun a b => by simp; omega) l
  exact this.imp (by simp)

set_option maxHeartbeats 4000000 in
set_option maxRecDepth 100000 in
theorem sorted_spec (e : World) {α : Type} {enc : α → Value} {bb bm clk : Nat} {es : Array MapEntry} {l : List (Int × α)} {F : Hp} {K : Value → Hp → Prop} (hM : MapK (Value.int .i64) enc es clk l) (hl : l.length ≤ 4398046511104)
    (hK : ∀ v Bs (ks : List Int), ks.Perm (l.map Prod.fst) → ks.Pairwise (· ≤ ·) → SlO 2 1 v ks.length (ks.map (Value.int .i64)) Bs → K v (Bs ++ ([(bb, cellsO [.map (some bm)] 87), (bm, .map es clk)] ++ F))) :
    callsK Try.prog e 46 #[.func (.func 75) #[] #[.pointer (some ⟨bb, 0, none⟩)]] ([(bb, cellsO [.map (some bm)] 87), (bm, .map es clk)] ++ F) K := by
  refine calls_body (N := 9) (args := [.func (.func 75) #[] #[.pointer (some ⟨bb, 0, none⟩)]]) Try.func46 rfl rfl rfl (by simp) ?_
  repeat' (first | (show wpO _ _ _ _ _ _ _; first | refine wpO_nil ?_ | refine s_rdp ?_ | refine s_rdm ?_ | refine s_exq ?_ | refine s_exm ?_) | (show Ex _ _ _ _ _; first | (show Ex _ ⟨_, .call ⟨.value (.func _), _, _⟩, _, _, _, _⟩ _ _ _; refine e_call ?_; first | (apply collect_spec _ (keys_iter _ hM) rfl rfl (by kernel_rfl) (fun s ⟨ks, h1, h2⟩ => ⟨ks, h1, by have := h2.length_eq; simp at this; omega⟩)))) | (show wpC _ _ _ _ _ _; first | refine wpC_seq ?_ | refine wpC_region ?_ | refine wpC_ret ?_ | refine wpC_skip ?_ | refine wpC_label ?_) | (show Then _ _ _ _ _ _ _; first | refine then_normal ?_ | refine then_ret ?_) | (show RetP _ _ _ _ _ _ _ _; first | refine r_1 ?_) | assumption | intro _)
  rename_i s v Bs hs hS
  obtain ⟨ks, rfl, hp⟩ := hs
  have hfl : (ks.map fun k => [Value.int .i64 k]).flatten = ks.map (Value.int .i64) := by
    clear hS hp
    induction ks with
    | nil => rfl
    | cons a l ih => simp [ih]
  rw [hfl, List.length_map] at hS
  have hlk : ks.length ≤ 4398046511104 := by have := hp.length_eq; simp at this; omega
  repeat' (first | (show wpO _ _ _ _ _ _ _; first | refine wpO_nil ?_ | refine s_rdp ?_ | refine s_rdm ?_ | refine s_exq ?_ | refine s_exm ?_) | (show Ex _ _ _ _ _; first | (show Ex _ ⟨_, .call ⟨.value (.func _), _, _⟩, _, _, _, _⟩ _ _ _; refine e_call ?_; first | (apply sort_spec hS (by omega)))) | (show wpC _ _ _ _ _ _; first | refine wpC_seq ?_ | refine wpC_region ?_ | refine wpC_ret ?_ | refine wpC_skip ?_ | refine wpC_label ?_) | (show Then _ _ _ _ _ _ _; first | refine then_normal ?_ | refine then_ret ?_) | (show RetP _ _ _ _ _ _ _ _; first | refine r_1 ?_) | assumption | intro _)
  rename_i Bs' hS'
  exact q_drop (hK v Bs' _ ((List.mergeSort_perm ks _).trans hp) (mergeSort_le ks) (by rw [List.length_mergeSort]; exact hS'))
end Go.Vl
