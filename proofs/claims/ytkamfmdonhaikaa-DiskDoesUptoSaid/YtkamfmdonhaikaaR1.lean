/-
  The document's disk: its files in order; what it uses; a file's place.
-/
import Derived.Test.YtkamfmdonhaikaaDTP
import Derived.Test.YtkamfmdonhaikaaTks
import Derived.Sort.Walk0
namespace Go.Vl
open Go.Proofs
structure Rf where
  nm : ByteArray
  a : Option Addr
  c : Nat
  bs : List UInt8
  syn : Nat
abbrev Rf.v (f : Rf) : Value := .slice f.a f.bs.length f.c
abbrev Rf.cells (f : Rf) : List Value := [.string f.nm, f.v, .int .i64 (f.syn : Int)]
abbrev Rf.ab (f : Rf) : Ab := (f.nm, f.bs, f.syn)
abbrev FsO (v : Value) (fs : List Rf) (B : Hp) : Prop := SlO 96 3 v fs.length (fs.map Rf.cells).flatten B
def PlOK (Pl : Hp) (fs : List Rf) : Prop := ∀ f ∈ fs, InSl Pl 1 (f.bs.map byC) f.v
abbrev rblk (d : Nat) (room : Int) (v : Value) (fuse : Int) (keep : Nat) (down : Bool) : Hp := [(d, cellsO [.int .i64 room, v, .int .i64 fuse, .int .i64 (keep : Int), .bool down] 93)]
def ltN (a b : ByteArray) : Prop := bToL a < bToL b
set_option maxHeartbeats 4000000 in
set_option maxRecDepth 100000 in
theorem less_ltN (a b : ByteArray) : Op.bytesLess a.toList b.toList = true ↔ ltN a b := by
  rw [bytesLess_eq, Go.Lib.toList_data, Go.Lib.toList_data, decide_eq_true_iff]
  exact Iff.rfl
set_option maxHeartbeats 4000000 in
set_option maxRecDepth 100000 in
theorem ltN_irrefl (a : ByteArray) : ¬ ltN a a := List.lt_irrefl _
set_option maxHeartbeats 4000000 in
set_option maxRecDepth 100000 in
theorem ltN_trans {a b c : ByteArray} (h : ltN a b) (g : ltN b c) : ltN a c := List.lt_trans h g
set_option maxHeartbeats 4000000 in
set_option maxRecDepth 100000 in
theorem bToL_inj {a b : ByteArray} (h : bToL a = bToL b) : a = b := by
  obtain ⟨⟨x⟩⟩ := a
  obtain ⟨⟨y⟩⟩ := b
  simp only [bToL] at h
  rw [h]
set_option maxHeartbeats 4000000 in
set_option maxRecDepth 100000 in
theorem ltN_of {a b : ByteArray} (h : ¬ ltN a b) (hn : a ≠ b) : ltN b a := by
  unfold ltN at h ⊢
  have h1 := List.not_lt.1 h
  rcases List.le_iff_lt_or_eq.1 h1 with h2 | h2
  · exact h2
  · exact absurd (bToL_inj h2).symm hn
set_option maxHeartbeats 4000000 in
set_option maxRecDepth 100000 in
theorem fsIn {v : Value} {fs : List Rf} {B : Hp} (h : FsO v fs B) : InSl B 3 (fs.map Rf.cells) v :=
  SlO.inB (by rw [List.length_map]; exact h) (fun r hr => by obtain ⟨u, _, rfl⟩ := List.mem_map.1 hr; exact ⟨rfl, rfl⟩)
set_option maxHeartbeats 4000000 in
set_option maxRecDepth 100000 in
theorem totR_take {fs : List Rf} {i : Nat} {f : Rf} (h : fs[i]? = some f) : totA ((fs.take (i + 1)).map Rf.ab) = totA ((fs.take i).map Rf.ab) + f.bs.length := by
  rw [List.take_add_one, h, List.map_append, totA_app]
  simp [totA]
set_option maxHeartbeats 4000000 in
set_option maxRecDepth 100000 in
theorem totR_le (fs : List Rf) (i : Nat) : totA ((fs.take i).map Rf.ab) ≤ totA (fs.map Rf.ab) := by
  conv => rhs; rw [← List.take_append_drop i fs, List.map_append, totA_app]
  omega
attribute [local irreducible] wpC wpO wpD Ex Rd callsK RetP Drop valK
set_option maxHeartbeats 4000000 in
set_option maxRecDepth 100000 in
theorem rnew_spec (e : World) {room : Int} {F : Hp} {K : Value → Hp → Prop} (h1 : room < 0 → K (.tuple #[.pointer none, .int .i64 1]) F) (h0 : 0 ≤ room → ∀ d, K (.tuple #[pv d, .int .i64 0]) (rblk d room (.slice none 0 0) 0 0 false ++ F)) :
    callsK Try.prog e 32 #[.int .i64 room] F K := by
  refine calls_body (N := 9) (args := [.int .i64 room]) Try.func32 rfl rfl rfl (by simp) ?_
  repeat' (first | (show wpO _ _ _ _ _ _ _; first | refine wpO_nil ?_ | (show wpO _ _ _ (⟨_, .binOp _ _ _ _ _, _, _, _, _⟩ :: _) _ _ _; first | refine s_tt ?_ | refine s_ff ?_ | refine s_rdp ?_ | (refine s_cmp (fun _ => ?_) (fun _ => ?_) <;> (first | (exfalso; omega) | contradiction | skip)) | (refine s_cb (fun _ => ?_) (fun _ => ?_) <;> (first | (exfalso; omega) | contradiction | skip))) | refine s_rdp ?_ | refine s_rdm ?_ | refine s_exq ?_ | refine s_exm ?_) | (show Ex _ _ _ _ _; first | (show Ex _ ⟨_, .box _ _, _, _, _, _⟩ _ _ _; first | (refine e_boxA ?_; intro _) | (refine e_box1 ?_; intro _))) | (show wpC _ _ _ _ _ _; first | refine wpC_seq ?_ | refine wpC_region ?_ | refine c_true ?_ | refine c_false ?_ | (refine c_b (fun _ => ?_) (fun _ => ?_) <;> (first | (exfalso; omega) | contradiction | skip)) | refine wpC_ret ?_ | refine wpC_skip ?_ | refine wpC_label ?_) | (show Then _ _ _ _ _ _ _; first | refine then_normal ?_ | refine then_ret ?_) | (show RetP _ _ _ _ _ _ _ _; first | refine r_2 ?_))
  · exact q_drop (h1 ‹_›)
  · exact q_drop (h0 (by omega) _)
set_option maxHeartbeats 4000000 in
set_option maxRecDepth 100000 in
theorem rroom_spec (e : World) {d : Nat} {room fuse : Int} {v : Value} {k : Nat} {down : Bool} {F : Hp} {K : Value → Hp → Prop} (hK : K (.int .i64 room) (rblk d room v fuse k down ++ F)) : callsK Try.prog e 73 #[pv d] (rblk d room v fuse k down ++ F) K := by
  refine calls_body (N := 7) (args := [pv d]) Try.func73 rfl rfl rfl (by simp) ?_
  repeat' (first | (show wpO _ _ _ _ _ _ _; first | refine wpO_nil ?_ | refine s_rdp ?_ | refine s_rdm ?_ | refine s_exq ?_ | refine s_exm ?_) | (show wpC _ _ _ _ _ _; first | refine wpC_seq ?_ | refine wpC_region ?_ | refine wpC_ret ?_ | refine wpC_skip ?_ | refine wpC_label ?_) | (show Then _ _ _ _ _ _ _; first | refine then_normal ?_ | refine then_ret ?_) | (show RetP _ _ _ _ _ _ _ _; first | refine r_1 ?_))
  exact q_drop hK
set_option maxHeartbeats 4000000 in
set_option maxRecDepth 100000 in
theorem rdown_spec (e : World) {d : Nat} {room fuse : Int} {v : Value} {k : Nat} {down : Bool} {F : Hp} {K : Value → Hp → Prop} (hK : K (.bool down) (rblk d room v fuse k down ++ F)) : callsK Try.prog e 34 #[pv d] (rblk d room v fuse k down ++ F) K := by
  refine calls_body (N := 7) (args := [pv d]) Try.func34 rfl rfl rfl (by simp) ?_
  repeat' (first | (show wpO _ _ _ _ _ _ _; first | refine wpO_nil ?_ | refine s_rdp ?_ | refine s_rdm ?_ | refine s_exq ?_ | refine s_exm ?_) | (show wpC _ _ _ _ _ _; first | refine wpC_seq ?_ | refine wpC_region ?_ | refine wpC_ret ?_ | refine wpC_skip ?_ | refine wpC_label ?_) | (show Then _ _ _ _ _ _ _; first | refine then_normal ?_ | refine then_ret ?_) | (show RetP _ _ _ _ _ _ _ _; first | refine r_1 ?_))
  exact q_drop hK
set_option maxHeartbeats 4000000 in
set_option maxRecDepth 100000 in
theorem rused_spec (e : World) {d : Nat} {room fuse : Int} {v : Value} {k : Nat} {down : Bool} {fs : List Rf} {B F : Hp} {K : Value → Hp → Prop} (hO : FsO v fs B) (ht : totA (fs.map Rf.ab) ≤ 9223372036854775807) (hl : fs.length ≤ 1024)
    (hK : K (.int .i64 (totA (fs.map Rf.ab) : Int)) ((rblk d room v fuse k down ++ B) ++ F)) : callsK Try.prog e 35 #[pv d] ((rblk d room v fuse k down ++ B) ++ F) K := by
  have hin := fsIn hO
  refine calls_body (N := 26) (args := [pv d]) Try.func35 rfl rfl rfl (by simp) ?_
  repeat' (first | (show wpO _ _ _ _ _ _ _; first | refine wpO_nil ?_ | (show wpO _ _ _ (⟨_, .binOp _ _ _ _ _, _, _, _, _⟩ :: _) _ _ _; first | refine s_tt ?_ | refine s_ff ?_ | refine s_rdp ?_ | (refine s_cmp (fun _ => ?_) (fun _ => ?_) <;> (first | (exfalso; omega) | contradiction | skip)) | (refine s_cb (fun _ => ?_) (fun _ => ?_) <;> (first | (exfalso; omega) | contradiction | skip))) | (show wpO _ _ _ (⟨_, .indexAddr _ _ _, _, _, _, _⟩ :: _) _ _ _; first | refine s_rdp ?_ | refine s_idx (fun _ _ _ _ _ _ _ => ?_)) | refine s_rdp ?_ | refine s_rdm ?_ | refine s_exq ?_ | refine s_exm ?_) | (show wpC _ _ _ _ _ _; first | refine wpC_seq ?_ | refine wpC_region ?_ | refine c_true ?_ | refine c_false ?_ | (refine c_b (fun _ => ?_) (fun _ => ?_) <;> (first | (exfalso; omega) | contradiction | skip)) | refine wpC_block ?_ | refine wpC_ret ?_ | refine wpC_skip ?_ | refine wpC_exit ?_ | refine wpC_label ?_) | (show Then _ _ _ _ _ _ _; first | refine then_normal ?_ | refine then_ret ?_ | refine then_exit ?_) | (show InBlock _ _ _ _ _ _; first | refine inBlock_normal ?_ | refine inBlock_ret ?_ | refine inBlock_same ?_ | refine b_other ?_) | (show LoopPost _ _ _ _ _ _; first | refine loop_ret ?_ | refine loop_exit ?_) | (show RetP _ _ _ _ _ _ _ _; first | refine r_1 ?_))
  refine wpC_loopA (κ := Nat) [3, 4, 5, 6, 7, 8, 9, 10, 11, 12, 13, 14, 15, 16, 17, 18, 19, 20, 21, 22, 23, 24] (fun i => [(3, .int .i64 (totA ((fs.take i).map Rf.ab) : Int)), (4, .int .i64 (i : Int))]) (fun _ => (rblk d room v fuse k down ++ B) ++ F) (fun i => i ≤ fs.length) (fun i => fs.length - i) 0 (Nat.zero_le _) ⟨rfl, rfl, trivial⟩ q_drp ?_
  rintro i ρx hi
  have hti := totR_le fs (i + 1)
  cases hr : fs[i]? with
  | some f =>
    have hlt := (List.getElem?_eq_some_iff.1 hr).1
    rw [totR_take hr] at hti
    have htk := totR_take hr
    generalize totA ((fs.take i).map Rf.ab) = N at *
    repeat' (first | (show wpO _ _ _ _ _ _ _; first | refine wpO_nil ?_ | (show wpO _ _ _ (⟨_, .binOp _ _ _ _ _, _, _, _, _⟩ :: _) _ _ _; first | refine s_tt ?_ | refine s_ff ?_ | refine s_rdp ?_ | (refine s_cmp (fun _ => ?_) (fun _ => ?_) <;> (first | (exfalso; omega) | contradiction | skip)) | (refine s_cb (fun _ => ?_) (fun _ => ?_) <;> (first | (exfalso; omega) | contradiction | skip))) | (show wpO _ _ _ (⟨_, .indexAddr _ _ _, _, _, _, _⟩ :: _) _ _ _; first | refine s_rdp ?_ | refine s_idx (fun _ _ _ _ _ _ _ => ?_)) | refine s_rdp ?_ | refine s_rdm ?_ | refine s_exq ?_ | refine s_exm ?_) | (show wpC _ _ _ _ _ _; first | refine wpC_seq ?_ | refine wpC_region ?_ | refine c_true ?_ | refine c_false ?_ | (refine c_b (fun _ => ?_) (fun _ => ?_) <;> (first | (exfalso; omega) | contradiction | skip)) | refine wpC_block ?_ | refine wpC_ret ?_ | refine wpC_skip ?_ | refine wpC_exit ?_ | refine wpC_label ?_) | (show Then _ _ _ _ _ _ _; first | refine then_normal ?_ | refine then_ret ?_ | refine then_exit ?_) | (show InBlock _ _ _ _ _ _; first | refine inBlock_normal ?_ | refine inBlock_ret ?_ | refine inBlock_same ?_ | refine b_other ?_) | (show LoopPost _ _ _ _ _ _; first | refine loop_ret ?_ | refine loop_exit ?_) | (show RetP _ _ _ _ _ _ _ _; first | refine r_1 ?_))
    exact lp_end (i + 1) (by omega) hlt (h3 := by refine ⟨?_, rfl, trivial⟩; rw [htk]; rfl)
  | none =>
    have hge : fs.length ≤ i := List.getElem?_eq_none_iff.1 hr
    rw [List.take_of_length_le hge]
    repeat' (first | (show wpO _ _ _ _ _ _ _; first | refine wpO_nil ?_ | (show wpO _ _ _ (⟨_, .binOp _ _ _ _ _, _, _, _, _⟩ :: _) _ _ _; first | refine s_tt ?_ | refine s_ff ?_ | refine s_rdp ?_ | (refine s_cmp (fun _ => ?_) (fun _ => ?_) <;> (first | (exfalso; omega) | contradiction | skip)) | (refine s_cb (fun _ => ?_) (fun _ => ?_) <;> (first | (exfalso; omega) | contradiction | skip))) | (show wpO _ _ _ (⟨_, .indexAddr _ _ _, _, _, _, _⟩ :: _) _ _ _; first | refine s_rdp ?_ | refine s_idx (fun _ _ _ _ _ _ _ => ?_)) | refine s_rdp ?_ | refine s_rdm ?_ | refine s_exq ?_ | refine s_exm ?_) | (show wpC _ _ _ _ _ _; first | refine wpC_seq ?_ | refine wpC_region ?_ | refine c_true ?_ | refine c_false ?_ | (refine c_b (fun _ => ?_) (fun _ => ?_) <;> (first | (exfalso; omega) | contradiction | skip)) | refine wpC_block ?_ | refine wpC_ret ?_ | refine wpC_skip ?_ | refine wpC_exit ?_ | refine wpC_label ?_) | (show Then _ _ _ _ _ _ _; first | refine then_normal ?_ | refine then_ret ?_ | refine then_exit ?_) | (show InBlock _ _ _ _ _ _; first | refine inBlock_normal ?_ | refine inBlock_ret ?_ | refine inBlock_same ?_ | refine b_other ?_) | (show LoopPost _ _ _ _ _ _; first | refine loop_ret ?_ | refine loop_exit ?_) | (show RetP _ _ _ _ _ _ _ _; first | refine r_1 ?_))
    exact q_drop hK
set_option maxHeartbeats 4000000 in
set_option maxRecDepth 100000 in
theorem find_spec (e : World) {d : Nat} {room fuse : Int} {v : Value} {k : Nat} {down : Bool} {fs : List Rf} {B F : Hp} {K : Value → Hp → Prop} {n : ByteArray} (hO : FsO v fs B) (hl : fs.length ≤ 1024) (hs : fs.Pairwise fun f g => ltN f.nm g.nm)
    (hY : ∀ l1 f l2, fs = l1 ++ f :: l2 → f.nm = n → K (.tuple #[.int .i64 (l1.length : Int), .bool true]) ((rblk d room v fuse k down ++ B) ++ F))
    (hN : ∀ l1 l2, fs = l1 ++ l2 → (∀ g ∈ l1, ltN g.nm n) → (∀ g ∈ l2, ltN n g.nm) → K (.tuple #[.int .i64 (l1.length : Int), .bool false]) ((rblk d room v fuse k down ++ B) ++ F)) :
    callsK Try.prog e 101 #[pv d, .string n] ((rblk d room v fuse k down ++ B) ++ F) K := by
  have hin := fsIn hO
  refine calls_body (N := 48) (args := [pv d, .string n]) Try.func101 rfl rfl rfl (by simp) ?_
  repeat' (first | (show wpO _ _ _ _ _ _ _; first | refine wpO_nil ?_ | (show wpO _ _ _ (⟨_, .binOp _ _ _ _ _, _, _, _, _⟩ :: _) _ _ _; first | refine s_tt ?_ | refine s_ff ?_ | refine s_rdp ?_ | (refine s_cmp (fun _ => ?_) (fun _ => ?_) <;> (first | (exfalso; omega) | contradiction | skip)) | (refine s_cb (fun _ => ?_) (fun _ => ?_) <;> (first | (exfalso; omega) | contradiction | skip)) | refine s_sks ?_ | (refine s_g (fun _ => ?_) (fun _ => ?_) <;> (first | (exfalso; omega) | contradiction | skip))) | (show wpO _ _ _ (⟨_, .indexAddr _ _ _, _, _, _, _⟩ :: _) _ _ _; first | refine s_rdp ?_ | refine s_idx (fun _ _ _ _ _ _ _ => ?_) | refine s_sks ?_ | (refine s_g (fun _ => ?_) (fun _ => ?_) <;> (first | (exfalso; omega) | contradiction | skip))) | (show wpO _ _ _ (⟨_, .pick _ _ _, _, _, _, _⟩ :: _) _ _ _; first | refine s_rdp ?_ | (refine s_p (fun _ => ?_) (fun _ => ?_) <;> (first | (exfalso; omega) | contradiction | skip)) | refine s_sks ?_ | (refine s_g (fun _ => ?_) (fun _ => ?_) <;> (first | (exfalso; omega) | contradiction | skip))) | refine s_rdp ?_ | refine s_rdm ?_ | refine s_exq ?_ | refine s_exm ?_ | refine s_sks ?_ | refine s_skn ?_ | (refine s_g (fun _ => ?_) (fun _ => ?_) <;> (first | (exfalso; omega) | contradiction | skip))) | (show wpC _ _ _ _ _ _; first | refine wpC_seq ?_ | refine wpC_region ?_ | refine c_true ?_ | refine c_false ?_ | (refine c_b (fun _ => ?_) (fun _ => ?_) <;> (first | (exfalso; omega) | contradiction | skip)) | refine wpC_block ?_ | refine wpC_ret ?_ | refine wpC_skip ?_ | refine wpC_exit ?_ | refine wpC_label ?_ | (apply wpC_drawX (id := 4) ([]) [0, 1, 2, 3, 4, 5, 6, 7, 8, 9, 10, 11, 12, 13, 14, 15, 16, 17, 18, 19, 20, 21] rfl (by kernel_rfl); (case hpk => (repeat (first | exact Pcs.blk (by infer_instance) | exact Pcs.nil | (apply Pcs.cons; infer_instance) | apply Pcs.app))))) | (show Then _ _ _ _ _ _ _; first | refine then_normal ?_ | refine then_ret ?_ | refine then_exit ?_) | (show InBlock _ _ _ _ _ _; first | refine inBlock_normal ?_ | refine inBlock_ret ?_ | refine inBlock_same ?_ | refine b_other ?_) | (show LoopPost _ _ _ _ _ _; first | refine loop_ret ?_ | refine loop_exit ?_) | (show wpD _ _ _ _ _ _ _ _; first | refine wpD_nil ?_ | refine d_rdp ?_ | refine d_rdm ?_ | refine d_sks ?_ | refine d_tt ?_ | refine d_ff ?_ | (refine d_cmp (fun _ => ?_) (fun _ => ?_) <;> (first | (exfalso; omega) | contradiction | skip)) | (refine d_cb (fun _ => ?_) (fun _ => ?_) <;> (first | (exfalso; omega) | contradiction | skip)) | refine d_idx (fun _ _ _ _ _ _ _ => ?_) | refine d_exs ?_ | refine d_exn ?_ | (refine d_p (fun _ => ?_) (fun _ => ?_) <;> (first | (exfalso; omega) | contradiction | skip)) | (refine d_g (fun _ => ?_) (fun _ => ?_) <;> (first | (exfalso; omega) | contradiction | skip))) | (show (_ ∨ Subs _ _) ∧ _; first | refine d_sub ?_ | refine d_cov ?_) | (show RetP _ _ _ _ _ _ _ _; first | refine r_2 ?_))
  refine wpC_loopA (κ := Nat) [6, 7, 8, 9, 10, 11, 12, 13, 14, 15, 16, 17, 18, 19, 20, 21, 22, 23, 24, 25, 26, 27] (fun i => [(6, .int .i64 (i : Int))]) (fun _ => (rblk d room v fuse k down ++ B) ++ F) (fun i => i ≤ fs.length ∧ ∀ g ∈ fs.take i, ltN g.nm n) (fun i => fs.length - i) 0 ⟨Nat.zero_le _, by simp⟩ ⟨rfl, trivial⟩ q_drp ?_
  rintro i ρx ⟨hi, hall⟩
  cases hr : fs[i]? with
  | some f =>
    have hlt := (List.getElem?_eq_some_iff.1 hr).1
    have hsp : fs = fs.take i ++ f :: fs.drop (i + 1) := by
      conv => lhs; rw [← List.take_append_drop i fs, List.drop_eq_getElem_cons hlt]
      rw [(List.getElem?_eq_some_iff.1 hr).2]
    have hlen : (fs.take i).length = i := by rw [List.length_take]; omega
    have hgt : ∀ g ∈ fs.drop (i + 1), ltN f.nm g.nm := fun g hg => by
      rw [hsp, List.pairwise_append, List.pairwise_cons] at hs
      exact hs.2.1.1 g hg
    have hrl := less_ltN f.nm n
    have htk : ∀ g ∈ fs.take (i + 1), g ∈ fs.take i ∨ g = f := fun g hg => by
      rw [List.take_add_one, hr] at hg
      rcases List.mem_append.1 hg with hg | hg
      · exact .inl hg
      · exact .inr (by simpa using hg)
    repeat' (first | (show wpO _ _ _ _ _ _ _; first | refine wpO_nil ?_ | (show wpO _ _ _ (⟨_, .binOp _ _ _ _ _, _, _, _, _⟩ :: _) _ _ _; first | refine s_tt ?_ | refine s_ff ?_ | refine s_rdp ?_ | (refine s_cmp (fun _ => ?_) (fun _ => ?_) <;> (first | (exfalso; omega) | contradiction | skip)) | (refine s_cb (fun _ => ?_) (fun _ => ?_) <;> (first | (exfalso; omega) | contradiction | skip)) | refine s_sks ?_ | (refine s_g (fun _ => ?_) (fun _ => ?_) <;> (first | (exfalso; omega) | contradiction | skip))) | (show wpO _ _ _ (⟨_, .indexAddr _ _ _, _, _, _, _⟩ :: _) _ _ _; first | refine s_rdp ?_ | refine s_idx (fun _ _ _ _ _ _ _ => ?_) | refine s_sks ?_ | (refine s_g (fun _ => ?_) (fun _ => ?_) <;> (first | (exfalso; omega) | contradiction | skip))) | (show wpO _ _ _ (⟨_, .pick _ _ _, _, _, _, _⟩ :: _) _ _ _; first | refine s_rdp ?_ | (refine s_p (fun _ => ?_) (fun _ => ?_) <;> (first | (exfalso; omega) | contradiction | skip)) | refine s_sks ?_ | (refine s_g (fun _ => ?_) (fun _ => ?_) <;> (first | (exfalso; omega) | contradiction | skip))) | refine s_rdp ?_ | refine s_rdm ?_ | refine s_exq ?_ | refine s_exm ?_ | refine s_sks ?_ | refine s_skn ?_ | (refine s_g (fun _ => ?_) (fun _ => ?_) <;> (first | (exfalso; omega) | contradiction | skip))) | (show wpC _ _ _ _ _ _; first | refine wpC_seq ?_ | refine wpC_region ?_ | refine c_true ?_ | refine c_false ?_ | (refine c_b (fun _ => ?_) (fun _ => ?_) <;> (first | (exfalso; omega) | contradiction | skip)) | refine wpC_block ?_ | refine wpC_ret ?_ | refine wpC_skip ?_ | refine wpC_exit ?_ | refine wpC_label ?_ | (apply wpC_drawX (id := 4) ([]) [0, 1, 2, 3, 4, 5, 6, 7, 8, 9, 10, 11, 12, 13, 14, 15, 16, 17, 18, 19, 20, 21] rfl (by kernel_rfl); (case hpk => (repeat (first | exact Pcs.blk (by infer_instance) | exact Pcs.nil | (apply Pcs.cons; infer_instance) | apply Pcs.app))))) | (show Then _ _ _ _ _ _ _; first | refine then_normal ?_ | refine then_ret ?_ | refine then_exit ?_) | (show InBlock _ _ _ _ _ _; first | refine inBlock_normal ?_ | refine inBlock_ret ?_ | refine inBlock_same ?_ | refine b_other ?_) | (show LoopPost _ _ _ _ _ _; first | refine loop_ret ?_ | refine loop_exit ?_) | (show wpD _ _ _ _ _ _ _ _; first | refine wpD_nil ?_ | refine d_rdp ?_ | refine d_rdm ?_ | refine d_sks ?_ | refine d_tt ?_ | refine d_ff ?_ | (refine d_cmp (fun _ => ?_) (fun _ => ?_) <;> (first | (exfalso; omega) | contradiction | skip)) | (refine d_cb (fun _ => ?_) (fun _ => ?_) <;> (first | (exfalso; omega) | contradiction | skip)) | refine d_idx (fun _ _ _ _ _ _ _ => ?_) | refine d_exs ?_ | refine d_exn ?_ | (refine d_p (fun _ => ?_) (fun _ => ?_) <;> (first | (exfalso; omega) | contradiction | skip)) | (refine d_g (fun _ => ?_) (fun _ => ?_) <;> (first | (exfalso; omega) | contradiction | skip))) | (show (_ ∨ Subs _ _) ∧ _; first | refine d_sub ?_ | refine d_cov ?_) | (show RetP _ _ _ _ _ _ _ _; first | refine r_2 ?_))
    · rename_i hb
      exact lp_end (i + 1) (by omega) ⟨hlt, fun g hg => (htk g hg).elim (hall g) (fun h => by rw [h]; exact hrl.1 hb)⟩
    · rename_i he
      have := hY (fs.take i) f (fs.drop (i + 1)) hsp he
      rw [hlen] at this
      exact q_drop this
    · rename_i he
      have hb : Op.bytesLess f.nm.toList n.toList = false := ‹_›
      have hnl : ¬ ltN f.nm n := fun h => by rw [hrl.2 h] at hb; cases hb
      have hfn := ltN_of hnl he
      have := hN (fs.take i) (f :: fs.drop (i + 1)) hsp hall (fun g hg => by
        rcases List.mem_cons.1 hg with rfl | hg
        · exact hfn
        · exact ltN_trans hfn (hgt g hg))
      rw [hlen] at this
      exact q_drop this
  | none =>
    have hge : fs.length ≤ i := List.getElem?_eq_none_iff.1 hr
    repeat' (first | (show wpO _ _ _ _ _ _ _; first | refine wpO_nil ?_ | (show wpO _ _ _ (⟨_, .binOp _ _ _ _ _, _, _, _, _⟩ :: _) _ _ _; first | refine s_tt ?_ | refine s_ff ?_ | refine s_rdp ?_ | (refine s_cmp (fun _ => ?_) (fun _ => ?_) <;> (first | (exfalso; omega) | contradiction | skip)) | (refine s_cb (fun _ => ?_) (fun _ => ?_) <;> (first | (exfalso; omega) | contradiction | skip)) | refine s_sks ?_ | (refine s_g (fun _ => ?_) (fun _ => ?_) <;> (first | (exfalso; omega) | contradiction | skip))) | (show wpO _ _ _ (⟨_, .indexAddr _ _ _, _, _, _, _⟩ :: _) _ _ _; first | refine s_rdp ?_ | refine s_idx (fun _ _ _ _ _ _ _ => ?_) | refine s_sks ?_ | (refine s_g (fun _ => ?_) (fun _ => ?_) <;> (first | (exfalso; omega) | contradiction | skip))) | (show wpO _ _ _ (⟨_, .pick _ _ _, _, _, _, _⟩ :: _) _ _ _; first | refine s_rdp ?_ | (refine s_p (fun _ => ?_) (fun _ => ?_) <;> (first | (exfalso; omega) | contradiction | skip)) | refine s_sks ?_ | (refine s_g (fun _ => ?_) (fun _ => ?_) <;> (first | (exfalso; omega) | contradiction | skip))) | refine s_rdp ?_ | refine s_rdm ?_ | refine s_exq ?_ | refine s_exm ?_ | refine s_sks ?_ | refine s_skn ?_ | (refine s_g (fun _ => ?_) (fun _ => ?_) <;> (first | (exfalso; omega) | contradiction | skip))) | (show wpC _ _ _ _ _ _; first | refine wpC_seq ?_ | refine wpC_region ?_ | refine c_true ?_ | refine c_false ?_ | (refine c_b (fun _ => ?_) (fun _ => ?_) <;> (first | (exfalso; omega) | contradiction | skip)) | refine wpC_block ?_ | refine wpC_ret ?_ | refine wpC_skip ?_ | refine wpC_exit ?_ | refine wpC_label ?_ | (apply wpC_drawX (id := 4) ([]) [0, 1, 2, 3, 4, 5, 6, 7, 8, 9, 10, 11, 12, 13, 14, 15, 16, 17, 18, 19, 20, 21] rfl (by kernel_rfl); (case hpk => (repeat (first | exact Pcs.blk (by infer_instance) | exact Pcs.nil | (apply Pcs.cons; infer_instance) | apply Pcs.app))))) | (show Then _ _ _ _ _ _ _; first | refine then_normal ?_ | refine then_ret ?_ | refine then_exit ?_) | (show InBlock _ _ _ _ _ _; first | refine inBlock_normal ?_ | refine inBlock_ret ?_ | refine inBlock_same ?_ | refine b_other ?_) | (show LoopPost _ _ _ _ _ _; first | refine loop_ret ?_ | refine loop_exit ?_) | (show wpD _ _ _ _ _ _ _ _; first | refine wpD_nil ?_ | refine d_rdp ?_ | refine d_rdm ?_ | refine d_sks ?_ | refine d_tt ?_ | refine d_ff ?_ | (refine d_cmp (fun _ => ?_) (fun _ => ?_) <;> (first | (exfalso; omega) | contradiction | skip)) | (refine d_cb (fun _ => ?_) (fun _ => ?_) <;> (first | (exfalso; omega) | contradiction | skip)) | refine d_idx (fun _ _ _ _ _ _ _ => ?_) | refine d_exs ?_ | refine d_exn ?_ | (refine d_p (fun _ => ?_) (fun _ => ?_) <;> (first | (exfalso; omega) | contradiction | skip)) | (refine d_g (fun _ => ?_) (fun _ => ?_) <;> (first | (exfalso; omega) | contradiction | skip))) | (show (_ ∨ Subs _ _) ∧ _; first | refine d_sub ?_ | refine d_cov ?_) | (show RetP _ _ _ _ _ _ _ _; first | refine r_2 ?_))
    have := hN fs [] (by simp) (by rw [List.take_of_length_le hge] at hall; exact hall) (by simp)
    obtain rfl : i = fs.length := by omega
    exact q_drop this
end Go.Vl
