/-
  slices.Sorted over a map's keys that are strings.
-/
import Derived.Test.YtkamfmdonhaikaaTk
namespace Go.Vl
open Go.Proofs Go.Shelf Go.Sort
attribute [local irreducible] wpC wpO wpD Ex Rd callsK RetP Drop valK

set_option maxHeartbeats 4000000 in
set_option maxRecDepth 100000 in
theorem mergeSort_leS (l : List (List UInt8)) : (l.mergeSort fun x y => decide (x ≤ y)).Pairwise (· ≤ ·) := by
  have := List.pairwise_mergeSort (le := fun x y : List UInt8 => decide (x ≤ y)) (fun a b c h1 h2 => by simp at *; exact List.le_trans h1 h2) (fun a b => by simp; exact List.le_total a b) l
  exact this.imp (by simp)
abbrev bToL (b : ByteArray) : List UInt8 := b.data.toList
abbrev lToB (l : List UInt8) : ByteArray := ⟨l.toArray⟩
set_option maxHeartbeats 4000000 in
set_option maxRecDepth 100000 in
theorem sortedS_spec (e : World) {α : Type} {enc : α → Value} {bb bm clk : Nat} {es : Array MapEntry} {l : List (ByteArray × α)} {F : Hp} {K : Value → Hp → Prop} (hM : MapK Value.string enc es clk l) (hl : l.length ≤ 4398046511104)
    (hK : ∀ v Bs (ks : List ByteArray), ks.Perm (l.map Prod.fst) → ks.Pairwise (fun a b => bToL a ≤ bToL b) → SlO 9 1 v ks.length (ks.map Value.string) Bs → K v (Bs ++ ([(bb, cellsO [.map (some bm)] 66), (bm, .map es clk)] ++ F))) :
    callsK Try.prog e 98 #[.func (.func 118) #[] #[.pointer (some ⟨bb, 0, none⟩)]] ([(bb, cellsO [.map (some bm)] 66), (bm, .map es clk)] ++ F) K := by
  refine calls_body (N := 9) (args := [.func (.func 118) #[] #[.pointer (some ⟨bb, 0, none⟩)]]) Try.func98 rfl rfl rfl (by simp) ?_
  repeat' (first | (show wpO _ _ _ _ _ _ _; first | refine wpO_nil ?_ | refine s_rdp ?_ | refine s_rdm ?_ | refine s_exq ?_ | refine s_exm ?_) | (show Ex _ _ _ _ _; first | (show Ex _ ⟨_, .call ⟨.value (.func _), _, _⟩, _, _, _, _⟩ _ _ _; refine e_call ?_; first | (apply collect_spec _ (keys_iter _ hM) rfl rfl (by kernel_rfl) (fun s ⟨ks, h1, h2⟩ => ⟨ks, h1, by have := h2.length_eq; simp at this; omega⟩)))) | (show wpC _ _ _ _ _ _; first | refine wpC_seq ?_ | refine wpC_region ?_ | refine wpC_ret ?_ | refine wpC_skip ?_ | refine wpC_label ?_) | (show Then _ _ _ _ _ _ _; first | refine then_normal ?_ | refine then_ret ?_) | (show RetP _ _ _ _ _ _ _ _; first | refine r_1 ?_) | assumption | intro _)
  rename_i s v Bs hs hS
  obtain ⟨ks, rfl, hp⟩ := hs
  have hfl : (ks.map fun k => [Value.string k]).flatten = (ks.map bToL).map encStr := by
    clear hS hp
    induction ks with
    | nil => rfl
    | cons a l ih => simp [ih]
  have hlen : (ks.map fun k => [Value.string k]).length = (ks.map bToL).length := by simp
  rw [hfl, hlen] at hS
  have hlk : (ks.map bToL).length ≤ 4398046511104 := by have := hp.length_eq; simp at this ⊢; omega
  repeat' (first | (show wpO _ _ _ _ _ _ _; first | refine wpO_nil ?_ | refine s_rdp ?_ | refine s_rdm ?_ | refine s_exq ?_ | refine s_exm ?_) | (show Ex _ _ _ _ _; first | (show Ex _ ⟨_, .call ⟨.value (.func _), _, _⟩, _, _, _, _⟩ _ _ _; refine e_call ?_; first | (apply sort_spec hS (by omega)))) | (show wpC _ _ _ _ _ _; first | refine wpC_seq ?_ | refine wpC_region ?_ | refine wpC_ret ?_ | refine wpC_skip ?_ | refine wpC_label ?_) | (show Then _ _ _ _ _ _ _; first | refine then_normal ?_ | refine then_ret ?_) | (show RetP _ _ _ _ _ _ _ _; first | refine r_1 ?_) | assumption | intro _)
  rename_i Bs' hS'
  have hb : (((ks.map bToL).mergeSort fun x y => decide (x ≤ y)).map lToB).map bToL = (ks.map bToL).mergeSort fun x y => decide (x ≤ y) := by
    rw [List.map_map]
    conv => rhs; rw [← List.map_id ((ks.map bToL).mergeSort fun x y => decide (x ≤ y))]
    exact List.map_congr_left fun a _ => by simp
  refine q_drop (hK v Bs' (((ks.map bToL).mergeSort fun x y => decide (x ≤ y)).map lToB) (.trans ?_ hp) ?_ (hS'.cast (by simp) (by rw [List.map_map]; rfl)))
  · have h1 := (List.mergeSort_perm (ks.map bToL) fun x y => decide (x ≤ y)).map lToB
    rw [List.map_map] at h1
    refine h1.trans (.of_eq ?_)
    conv => rhs; rw [← List.map_id ks]
    exact List.map_congr_left fun a _ => rfl
  · rw [← List.pairwise_map (f := bToL) (R := fun a b => a ≤ b), hb]
    exact mergeSort_leS _
end Go.Vl
