/-
  The disk: its files as a list; what is asked of it, what it uses.
-/
import Derived.Test.YtkamfmdonhaikaaProg
import Derived.Test.YtkamfmdonhaikaaVs
import Derived.Test.YtkamfmdonhaikaaVt
namespace Go.Vl
open Go.Proofs
attribute [local irreducible] wpC wpO wpD Ex Rd callsK RetP Drop valK

/-- a file of a disk: its name, where it lies, its bytes, how many are synced -/
structure Fl where
  nm : ByteArray
  ptr : Nat
  v : Value
  bs : List UInt8
  syn : Nat
  B : Hp
abbrev Fl.obj (f : Fl) : Obj := cellsO [f.v, .int .i64 (f.syn : Int)] 83
abbrev Fl.hp (f : Fl) : Hp := (f.ptr, f.obj) :: f.B
abbrev BytO (v : Value) (bs : List UInt8) (B : Hp) : Prop := SlO 5 1 v bs.length (bs.map byC).flatten B
structure Fl.ok (f : Fl) : Prop where
  s : BytO f.v f.bs f.B
  y : f.syn ≤ f.bs.length
def fsH (l : List Fl) : Hp := l.flatMap Fl.hp
set_option maxHeartbeats 4000000 in
set_option maxRecDepth 100000 in
theorem fsH_cons (f : Fl) (l : List Fl) : fsH (f :: l) = f.hp ++ fsH l := rfl
set_option maxHeartbeats 4000000 in
set_option maxRecDepth 100000 in
theorem fsH_app (a b : List Fl) : fsH (a ++ b) = fsH a ++ fsH b := List.flatMap_append
set_option maxHeartbeats 4000000 in
set_option maxRecDepth 100000 in
theorem fsH_has {f : Fl} {l : List Fl} (h : f ∈ l) : Has (fsH l) f.ptr f.obj := ⟨List.mem_flatMap.2 ⟨f, h, by simp⟩⟩
set_option maxHeartbeats 4000000 in
set_option maxRecDepth 100000 in
theorem fsH_sub {f : Fl} {l : List Fl} (h : f ∈ l) : Sbs f.B (fsH l) := ⟨fun x hx => List.mem_flatMap.2 ⟨f, h, by simp [hx]⟩⟩
def tot (l : List Fl) : Nat := (l.map fun f => f.bs.length).sum
set_option maxHeartbeats 4000000 in
set_option maxRecDepth 100000 in
theorem tot_cons (f : Fl) (l : List Fl) : tot (f :: l) = f.bs.length + tot l := rfl
set_option maxHeartbeats 4000000 in
set_option maxRecDepth 100000 in
theorem tot_perm {a b : List Fl} (h : a.Perm b) : tot a = tot b := (h.map _).sum_nat
abbrev pv (n : Nat) : Value := .pointer (some ⟨n, 0, none⟩)
abbrev kp (f : Fl) : ByteArray × Nat := (f.nm, f.ptr)
abbrev MapF (es : Array MapEntry) (clk : Nat) (l : List Fl) : Prop := MapK Value.string pv es clk (l.map kp)
abbrev dskO (d m : Nat) (es : Array MapEntry) (clk : Nat) (left keep room : Int) (down : Bool) : Hp := [(d, cellsO [.map (some m), .int .i64 left, .int .i64 keep, .int .i64 room, .bool down] 70), (m, .map es clk)]

set_option maxHeartbeats 4000000 in
set_option maxRecDepth 100000 in
theorem adel_kp (k : ByteArray) (l : List Fl) : adel (l.map kp) k = (l.filter fun f => decide (f.nm ≠ k)).map kp := by
  simp [adel, List.filter_map, Function.comp_def]
set_option maxHeartbeats 4000000 in
set_option maxRecDepth 100000 in
theorem names_kp (l : List Fl) : (l.map kp).map Prod.fst = l.map fun f => f.nm := by simp [Function.comp_def]
set_option maxHeartbeats 4000000 in
set_option maxRecDepth 100000 in
theorem take_fl {f : Fl} : ∀ {l : List Fl}, (l.map fun f => f.nm).Nodup → f ∈ l → l.Perm (f :: l.filter fun x => decide (x.nm ≠ f.nm))
  | x :: l, hn, hf => by
    rw [List.map_cons, List.nodup_cons] at hn
    rcases List.mem_cons.1 hf with rfl | hf
    · have : l.filter (fun x => decide (x.nm ≠ f.nm)) = l := List.filter_eq_self.2 fun x hx => by
        have : x.nm ≠ f.nm := fun he => hn.1 (List.mem_map.2 ⟨x, hx, he⟩)
        simpa using this
      rw [List.filter_cons_of_neg (by simp), this]
    · have hne : x.nm ≠ f.nm := fun he => hn.1 (List.mem_map.2 ⟨f, hf, he.symm⟩)
      rw [List.filter_cons_of_pos (by simpa using hne)]
      exact ((take_fl hn.2 hf).cons x).trans (List.Perm.swap _ _ _)

set_option maxHeartbeats 4000000 in
set_option maxRecDepth 100000 in
theorem none_f (e : World) {d m clk : Nat} {es : Array MapEntry} {left keep room : Int} {down : Bool} {F : Hp} {K : Value → Hp → Prop} (hK : K (.bool false) (dskO d m es clk left keep room down ++ F)) :
    callsK Try.prog e 48 #[pv d] (dskO d m es clk left keep room down ++ F) K := by
  refine calls_body (N := 12) (args := [pv d]) Try.func48 rfl rfl rfl (by simp) ?_
  repeat' (first | (show wpO _ _ _ _ _ _ _; first | refine wpO_nil ?_ | (show wpO _ _ _ (⟨_, .binOp _ _ _ _ _, _, _, _, _⟩ :: _) _ _ _; first | refine s_tt ?_ | refine s_ff ?_ | refine s_rdp ?_ | (refine s_cmp (fun _ => ?_) (fun _ => ?_) <;> (first | (exfalso; omega) | contradiction | skip)) | (refine s_cb (fun _ => ?_) (fun _ => ?_) <;> (first | (exfalso; omega) | contradiction | skip)) | refine s_sks ?_ | (refine s_g (fun _ => ?_) (fun _ => ?_) <;> (first | (exfalso; omega) | contradiction | skip))) | (show wpO _ _ _ (⟨_, .pick _ _ _, _, _, _, _⟩ :: _) _ _ _; first | refine s_rdp ?_ | (refine s_p (fun _ => ?_) (fun _ => ?_) <;> (first | (exfalso; omega) | contradiction | skip)) | refine s_sks ?_ | (refine s_g (fun _ => ?_) (fun _ => ?_) <;> (first | (exfalso; omega) | contradiction | skip))) | refine s_rdp ?_ | refine s_rdm ?_ | refine s_exq ?_ | refine s_exm ?_ | refine s_sks ?_ | refine s_skn ?_ | (refine s_g (fun _ => ?_) (fun _ => ?_) <;> (first | (exfalso; omega) | contradiction | skip))) | (show wpC _ _ _ _ _ _; first | refine wpC_seq ?_ | refine wpC_region ?_ | refine wpC_ret ?_ | refine wpC_skip ?_ | refine wpC_label ?_) | (show Then _ _ _ _ _ _ _; first | refine then_normal ?_ | refine then_ret ?_) | (show RetP _ _ _ _ _ _ _ _; first | refine r_1 ?_))
  exact q_drop hK
set_option maxHeartbeats 4000000 in
set_option maxRecDepth 100000 in
theorem burns_spec (e : World) {d m clk : Nat} {es : Array MapEntry} {left keep room : Int} {down : Bool} {F : Hp} {K : Value → Hp → Prop} (h0 : 0 ≤ left) (h1 : left ≤ 9223372036854775807)
    (hK0 : left = 0 → K (.bool false) (dskO d m es clk left keep room down ++ F)) (hK1 : left = 1 → K (.bool true) (dskO d m es clk (left - 1) keep room down ++ F)) (hK2 : left ≠ 0 → left ≠ 1 → K (.bool false) (dskO d m es clk (left - 1) keep room down ++ F)) :
    callsK Try.prog e 95 #[.pointer (some ⟨d, 1, none⟩)] (dskO d m es clk left keep room down ++ F) K := by
  refine calls_body (N := 20) (args := [.pointer (some ⟨d, 1, none⟩)]) Try.func95 rfl rfl rfl (by simp) ?_
  repeat' (first | (show wpO _ _ _ _ _ _ _; first | refine wpO_nil ?_ | (show wpO _ _ _ (⟨_, .binOp _ _ _ _ _, _, _, _, _⟩ :: _) _ _ _; first | refine s_tt ?_ | refine s_ff ?_ | refine s_rdp ?_ | (refine s_cmp (fun _ => ?_) (fun _ => ?_) <;> (first | (exfalso; omega) | contradiction | skip)) | (refine s_cb (fun _ => ?_) (fun _ => ?_) <;> (first | (exfalso; omega) | contradiction | skip))) | refine s_rdp ?_ | refine s_rdm ?_ | refine s_exq ?_ | refine s_exm ?_) | (show Ex _ _ _ _ _; first | (show Ex _ ⟨_, .store _ _ _, _, _, _, _⟩ _ _ _; first | refine e_store1 ?_ | refine e_storeA ?_ | (refine e_storeO ?_; intro _ _))) | (show wpC _ _ _ _ _ _; first | refine wpC_seq ?_ | refine wpC_region ?_ | refine c_true ?_ | refine c_false ?_ | (refine c_b (fun _ => ?_) (fun _ => ?_) <;> (first | (exfalso; omega) | contradiction | skip)) | refine wpC_ret ?_ | refine wpC_skip ?_ | refine wpC_label ?_) | (show Then _ _ _ _ _ _ _; first | refine then_normal ?_ | refine then_ret ?_) | (show RetP _ _ _ _ _ _ _ _; first | refine r_1 ?_))
  · exact q_drop (hK0 ‹_›)
  · exact q_drop (hK1 (by omega))
  · exact q_drop (hK2 ‹_› (by omega))
structure UsS where
  n : Nat
  last : Option (ByteArray × Nat)
  left : List Fl
  o : Obj
set_option maxHeartbeats 4000000 in
set_option maxRecDepth 100000 in
theorem used_spec (e : World) {m clk : Nat} {es : Array MapEntry} {l : List Fl} {F : Hp} {K : Value → Hp → Prop} (hM : MapF es clk l) (hok : ∀ f ∈ l, f.ok) (hl : tot l ≤ 9223372036854775807) (hK : K (.int .i64 (tot l : Int)) (([(m, .map es clk)] ++ fsH l) ++ F)) :
    callsK Try.prog e 46 #[.map (some m)] (([(m, .map es clk)] ++ fsH l) ++ F) K := by
  refine calls_body (N := 20) (args := [.map (some m)]) Try.func46 rfl rfl rfl (by simp) ?_
  repeat' (first | (show wpO _ _ _ _ _ _ _; first | refine wpO_nil ?_ | (show wpO _ _ _ (⟨_, .binOp _ _ _ _ _, _, _, _, _⟩ :: _) _ _ _; first | refine s_tt ?_ | refine s_ff ?_ | refine s_rdp ?_ | (refine s_cmp (fun _ => ?_) (fun _ => ?_) <;> (first | (exfalso; omega) | contradiction | skip)) | (refine s_cb (fun _ => ?_) (fun _ => ?_) <;> (first | (exfalso; omega) | contradiction | skip))) | refine s_rdp ?_ | refine s_rdm ?_ | refine s_exq ?_ | refine s_exm ?_) | (show Ex _ _ _ _ _; first | (show Ex _ ⟨_, .range _ _, _, _, _, _⟩ _ _ _; refine e_range ?_; intro _ _ _) | (show Ex _ ⟨_, .next _ _, _, _, _, _⟩ _ _ _; refine e_next (fun _ => ?_) (fun _ _ _ _ => ?_))) | (show wpC _ _ _ _ _ _; first | refine wpC_seq ?_ | refine wpC_region ?_ | refine c_true ?_ | refine c_false ?_ | (refine c_b (fun _ => ?_) (fun _ => ?_) <;> (first | (exfalso; omega) | contradiction | skip)) | refine wpC_block ?_ | refine wpC_ret ?_ | refine wpC_skip ?_ | refine wpC_exit ?_ | refine wpC_label ?_) | (show Then _ _ _ _ _ _ _; first | refine then_normal ?_ | refine then_ret ?_ | refine then_exit ?_) | (show InBlock _ _ _ _ _ _; first | refine inBlock_normal ?_ | refine inBlock_ret ?_ | refine inBlock_same ?_ | refine b_other ?_) | (show LoopPost _ _ _ _ _ _; first | refine loop_ret ?_ | refine loop_exit ?_) | (show RetP _ _ _ _ _ _ _ _; first | refine r_1 ?_))
  rename_i bi oi hI0
  have hnd : (l.map fun f => f.nm).Nodup := by have := hM.keys; rwa [names_kp] at this
  refine wpC_loopA (κ := UsS) [3, 5, 8, 9, 10, 11, 12, 13, 14, 15, 16, 17, 18] (fun k => [(3, .int .i64 (k.n : Int))]) (fun k => [(bi, k.o)] ++ (([(m, .map es clk)] ++ fsH l) ++ F))
    (fun k => IterK Value.string pv m es clk k.last (k.left.map kp) k.o ∧ (k.left.map fun f => f.nm).Nodup ∧ (∀ f ∈ k.left, f ∈ l) ∧ k.n + tot k.left = tot l) (fun k => k.left.length) ⟨0, none, l, oi⟩ ⟨hI0, hnd, fun f h => h, by simp⟩ ⟨rfl, trivial⟩ q_drp ?_
  rintro ⟨n, la, left, oi⟩ ρx ⟨hI, hn, hs, hsum⟩
  simp only at hI hn hs hsum ⊢
  repeat' (first | (show wpO _ _ _ _ _ _ _; first | refine wpO_nil ?_ | (show wpO _ _ _ (⟨_, .binOp _ _ _ _ _, _, _, _, _⟩ :: _) _ _ _; first | refine s_tt ?_ | refine s_ff ?_ | refine s_rdp ?_ | (refine s_cmp (fun _ => ?_) (fun _ => ?_) <;> (first | (exfalso; omega) | contradiction | skip)) | (refine s_cb (fun _ => ?_) (fun _ => ?_) <;> (first | (exfalso; omega) | contradiction | skip))) | refine s_rdp ?_ | refine s_rdm ?_ | refine s_exq ?_ | refine s_exm ?_) | (show Ex _ _ _ _ _; first | (refine e_next (fun h0 => ?_) (fun p hp o' hI' => ?_); rotate_left; obtain ⟨f, hf, rfl⟩ := List.mem_map.1 hp; have hff := hok f (hs f hf); have hfs := hff.s; haveI := fsH_has (hs f hf); have htk := take_fl hn hf; have htt := tot_perm htk; rw [tot_cons] at htt; rw [adel_kp] at hI') | (show Ex _ ⟨_, .range _ _, _, _, _, _⟩ _ _ _; refine e_range ?_; intro _ _ _) | (show Ex _ ⟨_, .next _ _, _, _, _, _⟩ _ _ _; refine e_next (fun _ => ?_) (fun _ _ _ _ => ?_))) | (show wpC _ _ _ _ _ _; first | refine wpC_seq ?_ | refine wpC_region ?_ | refine c_true ?_ | refine c_false ?_ | (refine c_b (fun _ => ?_) (fun _ => ?_) <;> (first | (exfalso; omega) | contradiction | skip)) | refine wpC_block ?_ | refine wpC_ret ?_ | refine wpC_skip ?_ | refine wpC_exit ?_ | refine wpC_label ?_) | (show Then _ _ _ _ _ _ _; first | refine then_normal ?_ | refine then_ret ?_ | refine then_exit ?_) | (show InBlock _ _ _ _ _ _; first | refine inBlock_normal ?_ | refine inBlock_ret ?_ | refine inBlock_same ?_ | refine b_other ?_) | (show LoopPost _ _ _ _ _ _; first | refine loop_ret ?_ | refine loop_exit ?_) | (show RetP _ _ _ _ _ _ _ _; first | refine r_1 ?_) | assumption | intro _)
  · have hlen := htk.length_eq
    have hn' : ((left.filter fun x => decide (x.nm ≠ f.nm)).map fun f => f.nm).Nodup := hn.sublist (List.filter_sublist.map _)
    exact lp_end ⟨n + f.bs.length, some (kp f), left.filter fun x => decide (x.nm ≠ f.nm), o'⟩ (by simp only [List.length_cons] at hlen ⊢; omega) ⟨hI', hn', fun x hx => hs x (List.mem_filter.1 hx).1, by simp only; omega⟩
  · rename_i h0
    obtain rfl : left = [] := by simpa using h0
    obtain rfl : n = tot l := by simpa [tot] using hsum
    exact q_drop hK
end Go.Vl
