/-
  Steps of the proof: RP, R1, R2, R3, R4, R5, R6, R7, R8, Q1, Q2, Q3, Q4.
-/
import Derived.Test.YtkamfmdonhaikaaGreatDTP
import Derived.Test.YtkamfmdonhaikaaGreatTks
import Derived.Sort.Walk0
import Derived.Test.YtkamfmdonhaikaaGreatVx
import Derived.Test.YtkamfmdonhaikaaGreatDE
namespace Go.Vl
open Go.Proofs Classical
structure DS.F (s t : DS) : Prop where
  L : s.L.Perm t.L
  left : s.left = t.left
  keep : s.left = 0 ∨ s.keep = t.keep
  down : s.down = t.down
set_option maxHeartbeats 4000000 in
set_option maxRecDepth 100000 in
theorem DS.E.F {s t : DS} (h : s.E t) : s.F t := ⟨h.L, h.left, .inr h.keep, h.down⟩
set_option maxHeartbeats 4000000 in
set_option maxRecDepth 100000 in
theorem DS.F.rfl (s : DS) : s.F s := ⟨.refl _, by simp, .inr (by simp), by simp⟩
set_option maxHeartbeats 4000000 in
set_option maxRecDepth 100000 in
theorem DS.F.symm {s t : DS} (h : s.F t) : t.F s := ⟨h.L.symm, h.left.symm, h.keep.elim (fun k => .inl (h.left ▸ k)) (fun k => .inr k.symm), h.down.symm⟩
set_option maxHeartbeats 4000000 in
set_option maxRecDepth 100000 in
theorem DS.F.trans {s t u : DS} (h : s.F t) (g : t.F u) : s.F u :=
  ⟨h.L.trans g.L, h.left.trans g.left, h.keep.elim .inl (fun k => g.keep.elim (fun l => .inl (h.left.trans l)) (fun l => .inr (k.trans l))), h.down.trans g.down⟩
set_option maxHeartbeats 4000000 in
set_option maxRecDepth 100000 in
theorem DS.ok.F {room : Int} {s t : DS} (h : s.ok room) (e : s.F t) : t.ok room :=
  ⟨h.names.perm e.L, by rw [← totA_perm e.L]; exact h.tot, by rw [← e.L.length_eq]; exact h.len, by rw [← e.left]; exact h.l0, by rw [← e.left]; exact h.l1, fun a ha => h.syn a (e.L.mem_iff.2 ha)⟩
set_option maxHeartbeats 4000000 in
set_option maxRecDepth 100000 in
theorem DS.chg_F {s t : DS} (h : s.F t) {L M : List Ab} (hp : L.Perm M) : (s.chg L).1 = (t.chg M).1 ∧ (s.chg L).2.F (t.chg M).2 := by
  unfold DS.chg DS.boom
  by_cases h1 : s.left = 1
  · have h2 : t.left = 1 := h.left ▸ h1
    have hk : s.keep = t.keep := h.keep.elim (fun k => by omega) id
    rw [if_pos h1, if_pos h2, hk]
    exact ⟨rfl, h.L.map _, rfl, .inl rfl, rfl⟩
  · have h2 : ¬ t.left = 1 := fun h3 => h1 (h.left.trans h3)
    rw [if_neg h1, if_neg h2, ← h.left]
    refine ⟨rfl, hp, rfl, ?_, h.down⟩
    rcases h.keep with k | k
    · exact .inl (if_pos k)
    · exact .inr k
set_option maxHeartbeats 4000000 in
set_option maxRecDepth 100000 in
theorem DS.append_F {room : Int} {s t : DS} (h : s.F t) (hn : NamesA s.L) (n : ByteArray) (bs : List UInt8) : (s.append room n bs).1 = (t.append room n bs).1 ∧ (s.append room n bs).2.F (t.append room n bs).2 := by
  unfold DS.append
  have h1 := hasA_perm h.L n
  have hd := h.down
  rw [totA_perm h.L, h.L.length_eq, propext h1, ← hd]
  split
  · exact ⟨rfl, h⟩
  · split
    · exact ⟨rfl, h⟩
    · split
      · exact ⟨rfl, h⟩
      · split
        · exact ⟨rfl, h⟩
        · exact DS.chg_F (s := ⟨appd s.L n bs, s.left, s.keep, s.down⟩) (t := ⟨appd t.L n bs, t.left, t.keep, s.down⟩) ⟨appd_perm h.L hn n bs, h.left, h.keep, rfl⟩ (appd_perm h.L hn n bs)
set_option maxHeartbeats 4000000 in
set_option maxRecDepth 100000 in
theorem DS.there_F {s t : DS} (h : s.F t) {ok : Prop} {n : ByteArray} {L M : List Ab} (hp : L.Perm M) : (s.there ok n L).1 = (t.there ok n M).1 ∧ (s.there ok n L).2.F (t.there ok n M).2 := by
  unfold DS.there
  have h1 := hasA_perm h.L n
  rw [h.down, propext h1]
  split
  · exact ⟨rfl, h⟩
  · split
    · exact ⟨rfl, h⟩
    · split
      · exact ⟨rfl, h⟩
      · exact DS.chg_F h hp
set_option maxHeartbeats 4000000 in
set_option maxRecDepth 100000 in
theorem DS.sync_F {s t : DS} (h : s.F t) (n : ByteArray) : (s.sync n).1 = (t.sync n).1 ∧ (s.sync n).2.F (t.sync n).2 := DS.there_F h (h.L.map _)
set_option maxHeartbeats 4000000 in
set_option maxRecDepth 100000 in
theorem DS.remove_F {s t : DS} (h : s.F t) (n : ByteArray) : (s.remove n).1 = (t.remove n).1 ∧ (s.remove n).2.F (t.remove n).2 := DS.there_F h (h.L.filter _)
set_option maxHeartbeats 4000000 in
set_option maxRecDepth 100000 in
theorem DS.rename_F {s t : DS} (h : s.F t) (n m : ByteArray) : (s.rename n m).1 = (t.rename n m).1 ∧ (s.rename n m).2.F (t.rename n m).2 := DS.there_F h (renA_perm h.L n m)
set_option maxHeartbeats 4000000 in
set_option maxRecDepth 100000 in
theorem DS.setFuse_F {s t : DS} (h : s.F t) (a b : Int) : (s.setFuse a b).1 = (t.setFuse a b).1 ∧ (s.setFuse a b).2.F (t.setFuse a b).2 := by
  unfold DS.setFuse
  rw [h.down]
  split
  · exact ⟨rfl, h⟩
  · split
    · exact ⟨rfl, h⟩
    · exact ⟨rfl, h.L, rfl, .inr rfl, rfl⟩
set_option maxHeartbeats 4000000 in
set_option maxRecDepth 100000 in
theorem DS.crash_F {s t : DS} (h : s.F t) (a : Int) : (s.crash a).1 = (t.crash a).1 ∧ (s.crash a).2.F (t.crash a).2 := by
  unfold DS.crash
  rw [h.down]
  split
  · exact ⟨rfl, h⟩
  · split
    · exact ⟨rfl, h⟩
    · exact ⟨rfl, h.L.map _, rfl, .inr rfl, rfl⟩
set_option maxHeartbeats 4000000 in
set_option maxRecDepth 100000 in
theorem DS.restart_F {s t : DS} (h : s.F t) : (s.restart).1 = (t.restart).1 ∧ (s.restart).2.F (t.restart).2 := by
  unfold DS.restart
  rw [h.down]
  split
  · exact ⟨rfl, h.L, h.left, h.keep, rfl⟩
  · exact ⟨rfl, h⟩
set_option maxHeartbeats 4000000 in
set_option maxRecDepth 100000 in
theorem readA_F {s t : DS} (h : s.F t) (hn : NamesA s.L) (n : ByteArray) : readA s n = readA t n := by
  unfold readA
  rw [h.down, find_perm h.L hn]
set_option maxHeartbeats 4000000 in
set_option maxRecDepth 100000 in
theorem sizeA_F {s t : DS} (h : s.F t) (hn : NamesA s.L) (n : ByteArray) : sizeA s n = sizeA t n := by
  unfold sizeA
  rw [h.down, find_perm h.L hn]
end Go.Vl

namespace Go.Vl
open Go.Proofs
structure Rf where
  nm : ByteArray
  a : Option Addr
  c : Nat
  bs : List UInt8
  syn : Nat
abbrev Rf.v (f : Rf) : Value := .slice f.a f.bs.length f.c
abbrev Rf.cells (f : Rf) : List Value := [.string f.nm, f.v, .int .i64 (f.syn : Int)]
abbrev Rf.ab (f : Rf) : Ab := (f.nm, f.bs, f.syn)
abbrev FsO (v : Value) (fs : List Rf) (B : Hp) : Prop := SlO 62 3 v fs.length (fs.map Rf.cells).flatten B
def PlOK (Pl : Hp) (fs : List Rf) : Prop := ∀ f ∈ fs, InSl Pl 1 (f.bs.map byC) f.v
abbrev rblk (d : Nat) (room : Int) (v : Value) (fuse : Int) (keep : Nat) (down : Bool) : Hp := [(d, cellsO [.int .i64 room, v, .int .i64 fuse, .int .i64 (keep : Int), .bool down] 50)]
def ltN (a b : ByteArray) : Prop := bToL a < bToL b
set_option maxHeartbeats 4000000 in
set_option maxRecDepth 100000 in
theorem less_ltN (a b : ByteArray) : Op.bytesLess a.toList b.toList = true ↔ ltN a b := by
  rw [bytesLess_eq, Go.Lib.toList_data, Go.Lib.toList_data, decide_eq_true_iff]
  exact Iff.rfl
set_option maxHeartbeats 4000000 in
set_option maxRecDepth 100000 in
theorem ltN_irrefl (a : ByteArray) : ¬ ltN a a := List.lt_irrefl _
set_option maxHeartbeats 4000000 in
set_option maxRecDepth 100000 in
theorem ltN_trans {a b c : ByteArray} (h : ltN a b) (g : ltN b c) : ltN a c := List.lt_trans h g
set_option maxHeartbeats 4000000 in
set_option maxRecDepth 100000 in
theorem bToL_inj {a b : ByteArray} (h : bToL a = bToL b) : a = b := by
  obtain ⟨⟨x⟩⟩ := a
  obtain ⟨⟨y⟩⟩ := b
  simp only [bToL] at h
  rw [h]
set_option maxHeartbeats 4000000 in
set_option maxRecDepth 100000 in
theorem ltN_of {a b : ByteArray} (h : ¬ ltN a b) (hn : a ≠ b) : ltN b a := by
  unfold ltN at h ⊢
  have h1 := List.not_lt.1 h
  rcases List.le_iff_lt_or_eq.1 h1 with h2 | h2
  · exact h2
  · exact absurd (bToL_inj h2).symm hn
set_option maxHeartbeats 4000000 in
set_option maxRecDepth 100000 in
theorem fsIn {v : Value} {fs : List Rf} {B : Hp} (h : FsO v fs B) : InSl B 3 (fs.map Rf.cells) v :=
  SlO.inB (by rw [List.length_map]; exact h) (fun r hr => by obtain ⟨u, _, rfl⟩ := List.mem_map.1 hr; exact ⟨rfl, rfl⟩)
set_option maxHeartbeats 4000000 in
set_option maxRecDepth 100000 in
theorem totR_take {fs : List Rf} {i : Nat} {f : Rf} (h : fs[i]? = some f) : totA ((fs.take (i + 1)).map Rf.ab) = totA ((fs.take i).map Rf.ab) + f.bs.length := by
  rw [List.take_add_one, h, List.map_append, totA_app]
  simp [totA]
set_option maxHeartbeats 4000000 in
set_option maxRecDepth 100000 in
theorem totR_le (fs : List Rf) (i : Nat) : totA ((fs.take i).map Rf.ab) ≤ totA (fs.map Rf.ab) := by
  conv => rhs; rw [← List.take_append_drop i fs, List.map_append, totA_app]
  omega
attribute [local irreducible] wpC wpO wpD Ex Rd callsK RetP Drop valK
set_option maxHeartbeats 4000000 in
set_option maxRecDepth 100000 in
theorem rnew_spec (e : World) {room : Int} {F : Hp} {K : Value → Hp → Prop} (h1 : room < 0 → K (.tuple #[.pointer none, .int .i64 1]) F) (h0 : 0 ≤ room → ∀ d, K (.tuple #[pv d, .int .i64 0]) (rblk d room (.slice none 0 0) 0 0 false ++ F)) :
    callsK Tryz.prog e 5 #[.int .i64 room] F K := by
  refine calls_body (N := 9) (args := [.int .i64 room]) Tryz.func5 rfl rfl rfl (by simp) ?_
  repeat' (first | (show wpO _ _ _ _ _ _ _; first | refine wpO_nil ?_ | (show wpO _ _ _ (⟨_, .binOp _ _ _ _ _, _, _, _, _⟩ :: _) _ _ _; first | refine s_tt ?_ | refine s_ff ?_ | refine s_rdp ?_ | (refine s_cmp (fun _ => ?_) (fun _ => ?_) <;> (first | (exfalso; omega) | contradiction | skip)) | (refine s_cb (fun _ => ?_) (fun _ => ?_) <;> (first | (exfalso; omega) | contradiction | skip))) | refine s_rdp ?_ | refine s_rdm ?_ | refine s_exq ?_ | refine s_exm ?_) | (show Ex _ _ _ _ _; first | (show Ex _ ⟨_, .box _ _, _, _, _, _⟩ _ _ _; first | (refine e_boxA ?_; intro _) | (refine e_box1 ?_; intro _))) | (show wpC _ _ _ _ _ _; first | refine wpC_seq ?_ | refine wpC_region ?_ | refine c_true ?_ | refine c_false ?_ | (refine c_b (fun _ => ?_) (fun _ => ?_) <;> (first | (exfalso; omega) | contradiction | skip)) | refine wpC_ret ?_ | refine wpC_skip ?_ | refine wpC_label ?_) | (show Then _ _ _ _ _ _ _; first | refine then_normal ?_ | refine then_ret ?_) | (show RetP _ _ _ _ _ _ _ _; first | refine r_2 ?_))
  · exact q_drop (h1 ‹_›)
  · exact q_drop (h0 (by omega) _)
set_option maxHeartbeats 4000000 in
set_option maxRecDepth 100000 in
theorem rdown_spec (e : World) {d : Nat} {room fuse : Int} {v : Value} {k : Nat} {down : Bool} {F : Hp} {K : Value → Hp → Prop} (hK : K (.bool down) (rblk d room v fuse k down ++ F)) : callsK Tryz.prog e 11 #[pv d] (rblk d room v fuse k down ++ F) K := by
  refine calls_body (N := 7) (args := [pv d]) Tryz.func11 rfl rfl rfl (by simp) ?_
  repeat' (first | (show wpO _ _ _ _ _ _ _; first | refine wpO_nil ?_ | refine s_rdp ?_ | refine s_rdm ?_ | refine s_exq ?_ | refine s_exm ?_) | (show wpC _ _ _ _ _ _; first | refine wpC_seq ?_ | refine wpC_region ?_ | refine wpC_ret ?_ | refine wpC_skip ?_ | refine wpC_label ?_) | (show Then _ _ _ _ _ _ _; first | refine then_normal ?_ | refine then_ret ?_) | (show RetP _ _ _ _ _ _ _ _; first | refine r_1 ?_))
  exact q_drop hK
set_option maxHeartbeats 4000000 in
set_option maxRecDepth 100000 in
theorem rused_spec (e : World) {d : Nat} {room fuse : Int} {v : Value} {k : Nat} {down : Bool} {fs : List Rf} {B F : Hp} {K : Value → Hp → Prop} (hO : FsO v fs B) (ht : totA (fs.map Rf.ab) ≤ 9223372036854775807) (hl : fs.length ≤ 1024)
    (hK : K (.int .i64 (totA (fs.map Rf.ab) : Int)) ((rblk d room v fuse k down ++ B) ++ F)) : callsK Tryz.prog e 9 #[pv d] ((rblk d room v fuse k down ++ B) ++ F) K := by
  have hin := fsIn hO
  refine calls_body (N := 26) (args := [pv d]) Tryz.func9 rfl rfl rfl (by simp) ?_
  repeat' (first | (show wpO _ _ _ _ _ _ _; first | refine wpO_nil ?_ | (show wpO _ _ _ (⟨_, .binOp _ _ _ _ _, _, _, _, _⟩ :: _) _ _ _; first | refine s_tt ?_ | refine s_ff ?_ | refine s_rdp ?_ | (refine s_cmp (fun _ => ?_) (fun _ => ?_) <;> (first | (exfalso; omega) | contradiction | skip)) | (refine s_cb (fun _ => ?_) (fun _ => ?_) <;> (first | (exfalso; omega) | contradiction | skip))) | (show wpO _ _ _ (⟨_, .indexAddr _ _ _, _, _, _, _⟩ :: _) _ _ _; first | refine s_rdp ?_ | refine s_idx (fun _ _ _ _ _ _ _ => ?_)) | refine s_rdp ?_ | refine s_rdm ?_ | refine s_exq ?_ | refine s_exm ?_) | (show wpC _ _ _ _ _ _; first | refine wpC_seq ?_ | refine wpC_region ?_ | refine c_true ?_ | refine c_false ?_ | (refine c_b (fun _ => ?_) (fun _ => ?_) <;> (first | (exfalso; omega) | contradiction | skip)) | refine wpC_block ?_ | refine wpC_ret ?_ | refine wpC_skip ?_ | refine wpC_exit ?_ | refine wpC_label ?_) | (show Then _ _ _ _ _ _ _; first | refine then_normal ?_ | refine then_ret ?_ | refine then_exit ?_) | (show InBlock _ _ _ _ _ _; first | refine inBlock_normal ?_ | refine inBlock_ret ?_ | refine inBlock_same ?_ | refine b_other ?_) | (show LoopPost _ _ _ _ _ _; first | refine loop_ret ?_ | refine loop_exit ?_) | (show RetP _ _ _ _ _ _ _ _; first | refine r_1 ?_))
  refine wpC_loopA (κ := Nat) [3, 4, 5, 6, 7, 8, 9, 10, 11, 12, 13, 14, 15, 16, 17, 18, 19, 20, 21, 22, 23, 24] (fun i => [(3, .int .i64 (totA ((fs.take i).map Rf.ab) : Int)), (4, .int .i64 (i : Int))]) (fun _ => (rblk d room v fuse k down ++ B) ++ F) (fun i => i ≤ fs.length) (fun i => fs.length - i) 0 (Nat.zero_le _) ⟨rfl, rfl, trivial⟩ q_drp ?_
  rintro i ρx hi
  have hti := totR_le fs (i + 1)
  cases hr : fs[i]? with
  | some f =>
    have hlt := (List.getElem?_eq_some_iff.1 hr).1
    rw [totR_take hr] at hti
    have htk := totR_take hr
    generalize totA ((fs.take i).map Rf.ab) = N at *
    repeat' (first | (show wpO _ _ _ _ _ _ _; first | refine wpO_nil ?_ | (show wpO _ _ _ (⟨_, .binOp _ _ _ _ _, _, _, _, _⟩ :: _) _ _ _; first | refine s_tt ?_ | refine s_ff ?_ | refine s_rdp ?_ | (refine s_cmp (fun _ => ?_) (fun _ => ?_) <;> (first | (exfalso; omega) | contradiction | skip)) | (refine s_cb (fun _ => ?_) (fun _ => ?_) <;> (first | (exfalso; omega) | contradiction | skip))) | (show wpO _ _ _ (⟨_, .indexAddr _ _ _, _, _, _, _⟩ :: _) _ _ _; first | refine s_rdp ?_ | refine s_idx (fun _ _ _ _ _ _ _ => ?_)) | refine s_rdp ?_ | refine s_rdm ?_ | refine s_exq ?_ | refine s_exm ?_) | (show wpC _ _ _ _ _ _; first | refine wpC_seq ?_ | refine wpC_region ?_ | refine c_true ?_ | refine c_false ?_ | (refine c_b (fun _ => ?_) (fun _ => ?_) <;> (first | (exfalso; omega) | contradiction | skip)) | refine wpC_block ?_ | refine wpC_ret ?_ | refine wpC_skip ?_ | refine wpC_exit ?_ | refine wpC_label ?_) | (show Then _ _ _ _ _ _ _; first | refine then_normal ?_ | refine then_ret ?_ | refine then_exit ?_) | (show InBlock _ _ _ _ _ _; first | refine inBlock_normal ?_ | refine inBlock_ret ?_ | refine inBlock_same ?_ | refine b_other ?_) | (show LoopPost _ _ _ _ _ _; first | refine loop_ret ?_ | refine loop_exit ?_) | (show RetP _ _ _ _ _ _ _ _; first | refine r_1 ?_))
    exact lp_end (i + 1) (by omega) hlt (h3 := by refine ⟨?_, rfl, trivial⟩; rw [htk]; rfl)
  | none =>
    have hge : fs.length ≤ i := List.getElem?_eq_none_iff.1 hr
    rw [List.take_of_length_le hge]
    repeat' (first | (show wpO _ _ _ _ _ _ _; first | refine wpO_nil ?_ | (show wpO _ _ _ (⟨_, .binOp _ _ _ _ _, _, _, _, _⟩ :: _) _ _ _; first | refine s_tt ?_ | refine s_ff ?_ | refine s_rdp ?_ | (refine s_cmp (fun _ => ?_) (fun _ => ?_) <;> (first | (exfalso; omega) | contradiction | skip)) | (refine s_cb (fun _ => ?_) (fun _ => ?_) <;> (first | (exfalso; omega) | contradiction | skip))) | (show wpO _ _ _ (⟨_, .indexAddr _ _ _, _, _, _, _⟩ :: _) _ _ _; first | refine s_rdp ?_ | refine s_idx (fun _ _ _ _ _ _ _ => ?_)) | refine s_rdp ?_ | refine s_rdm ?_ | refine s_exq ?_ | refine s_exm ?_) | (show wpC _ _ _ _ _ _; first | refine wpC_seq ?_ | refine wpC_region ?_ | refine c_true ?_ | refine c_false ?_ | (refine c_b (fun _ => ?_) (fun _ => ?_) <;> (first | (exfalso; omega) | contradiction | skip)) | refine wpC_block ?_ | refine wpC_ret ?_ | refine wpC_skip ?_ | refine wpC_exit ?_ | refine wpC_label ?_) | (show Then _ _ _ _ _ _ _; first | refine then_normal ?_ | refine then_ret ?_ | refine then_exit ?_) | (show InBlock _ _ _ _ _ _; first | refine inBlock_normal ?_ | refine inBlock_ret ?_ | refine inBlock_same ?_ | refine b_other ?_) | (show LoopPost _ _ _ _ _ _; first | refine loop_ret ?_ | refine loop_exit ?_) | (show RetP _ _ _ _ _ _ _ _; first | refine r_1 ?_))
    exact q_drop hK
set_option maxHeartbeats 4000000 in
set_option maxRecDepth 100000 in
theorem find_spec (e : World) {d : Nat} {room fuse : Int} {v : Value} {k : Nat} {down : Bool} {fs : List Rf} {B F : Hp} {K : Value → Hp → Prop} {n : ByteArray} (hO : FsO v fs B) (hl : fs.length ≤ 1024) (hs : fs.Pairwise fun f g => ltN f.nm g.nm)
    (hY : ∀ l1 f l2, fs = l1 ++ f :: l2 → f.nm = n → K (.tuple #[.int .i64 (l1.length : Int), .bool true]) ((rblk d room v fuse k down ++ B) ++ F))
    (hN : ∀ l1 l2, fs = l1 ++ l2 → (∀ g ∈ l1, ltN g.nm n) → (∀ g ∈ l2, ltN n g.nm) → K (.tuple #[.int .i64 (l1.length : Int), .bool false]) ((rblk d room v fuse k down ++ B) ++ F)) :
    callsK Tryz.prog e 56 #[pv d, .string n] ((rblk d room v fuse k down ++ B) ++ F) K := by
  have hin := fsIn hO
  refine calls_body (N := 48) (args := [pv d, .string n]) Tryz.func56 rfl rfl rfl (by simp) ?_
  repeat' (first | (show wpO _ _ _ _ _ _ _; first | refine wpO_nil ?_ | (show wpO _ _ _ (⟨_, .binOp _ _ _ _ _, _, _, _, _⟩ :: _) _ _ _; first | refine s_tt ?_ | refine s_ff ?_ | refine s_rdp ?_ | (refine s_cmp (fun _ => ?_) (fun _ => ?_) <;> (first | (exfalso; omega) | contradiction | skip)) | (refine s_cb (fun _ => ?_) (fun _ => ?_) <;> (first | (exfalso; omega) | contradiction | skip)) | refine s_sks ?_ | (refine s_g (fun _ => ?_) (fun _ => ?_) <;> (first | (exfalso; omega) | contradiction | skip))) | (show wpO _ _ _ (⟨_, .indexAddr _ _ _, _, _, _, _⟩ :: _) _ _ _; first | refine s_rdp ?_ | refine s_idx (fun _ _ _ _ _ _ _ => ?_) | refine s_sks ?_ | (refine s_g (fun _ => ?_) (fun _ => ?_) <;> (first | (exfalso; omega) | contradiction | skip))) | (show wpO _ _ _ (⟨_, .pick _ _ _, _, _, _, _⟩ :: _) _ _ _; first | refine s_rdp ?_ | (refine s_p (fun _ => ?_) (fun _ => ?_) <;> (first | (exfalso; omega) | contradiction | skip)) | refine s_sks ?_ | (refine s_g (fun _ => ?_) (fun _ => ?_) <;> (first | (exfalso; omega) | contradiction | skip))) | refine s_rdp ?_ | refine s_rdm ?_ | refine s_exq ?_ | refine s_exm ?_ | refine s_sks ?_ | refine s_skn ?_ | (refine s_g (fun _ => ?_) (fun _ => ?_) <;> (first | (exfalso; omega) | contradiction | skip))) | (show wpC _ _ _ _ _ _; first | refine wpC_seq ?_ | refine wpC_region ?_ | refine c_true ?_ | refine c_false ?_ | (refine c_b (fun _ => ?_) (fun _ => ?_) <;> (first | (exfalso; omega) | contradiction | skip)) | refine wpC_block ?_ | refine wpC_ret ?_ | refine wpC_skip ?_ | refine wpC_exit ?_ | refine wpC_label ?_ | (apply wpC_drawX (id := 4) ([]) [0, 1, 2, 3, 4, 5, 6, 7, 8, 9, 10, 11, 12, 13, 14, 15, 16, 17, 18, 19, 20, 21] rfl (by kernel_rfl); (case hpk => (repeat (first | exact Pcs.blk (by infer_instance) | exact Pcs.nil | (apply Pcs.cons; infer_instance) | apply Pcs.app))))) | (show Then _ _ _ _ _ _ _; first | refine then_normal ?_ | refine then_ret ?_ | refine then_exit ?_) | (show InBlock _ _ _ _ _ _; first | refine inBlock_normal ?_ | refine inBlock_ret ?_ | refine inBlock_same ?_ | refine b_other ?_) | (show LoopPost _ _ _ _ _ _; first | refine loop_ret ?_ | refine loop_exit ?_) | (show wpD _ _ _ _ _ _ _ _; first | refine wpD_nil ?_ | refine d_rdp ?_ | refine d_rdm ?_ | refine d_sks ?_ | refine d_tt ?_ | refine d_ff ?_ | (refine d_cmp (fun _ => ?_) (fun _ => ?_) <;> (first | (exfalso; omega) | contradiction | skip)) | (refine d_cb (fun _ => ?_) (fun _ => ?_) <;> (first | (exfalso; omega) | contradiction | skip)) | refine d_idx (fun _ _ _ _ _ _ _ => ?_) | refine d_exs ?_ | refine d_exn ?_ | (refine d_p (fun _ => ?_) (fun _ => ?_) <;> (first | (exfalso; omega) | contradiction | skip)) | (refine d_g (fun _ => ?_) (fun _ => ?_) <;> (first | (exfalso; omega) | contradiction | skip))) | (show (_ ∨ Subs _ _) ∧ _; first | refine d_sub ?_ | refine d_cov ?_) | (show RetP _ _ _ _ _ _ _ _; first | refine r_2 ?_))
  refine wpC_loopA (κ := Nat) [6, 7, 8, 9, 10, 11, 12, 13, 14, 15, 16, 17, 18, 19, 20, 21, 22, 23, 24, 25, 26, 27] (fun i => [(6, .int .i64 (i : Int))]) (fun _ => (rblk d room v fuse k down ++ B) ++ F) (fun i => i ≤ fs.length ∧ ∀ g ∈ fs.take i, ltN g.nm n) (fun i => fs.length - i) 0 ⟨Nat.zero_le _, by simp⟩ ⟨rfl, trivial⟩ q_drp ?_
  rintro i ρx ⟨hi, hall⟩
  cases hr : fs[i]? with
  | some f =>
    have hlt := (List.getElem?_eq_some_iff.1 hr).1
    have hsp : fs = fs.take i ++ f :: fs.drop (i + 1) := by
      conv => lhs; rw [← List.take_append_drop i fs, List.drop_eq_getElem_cons hlt]
      rw [(List.getElem?_eq_some_iff.1 hr).2]
    have hlen : (fs.take i).length = i := by rw [List.length_take]; omega
    have hgt : ∀ g ∈ fs.drop (i + 1), ltN f.nm g.nm := fun g hg => by
      rw [hsp, List.pairwise_append, List.pairwise_cons] at hs
      exact hs.2.1.1 g hg
    have hrl := less_ltN f.nm n
    have htk : ∀ g ∈ fs.take (i + 1), g ∈ fs.take i ∨ g = f := fun g hg => by
      rw [List.take_add_one, hr] at hg
      rcases List.mem_append.1 hg with hg | hg
      · exact .inl hg
      · exact .inr (by simpa using hg)
    repeat' (first | (show wpO _ _ _ _ _ _ _; first | refine wpO_nil ?_ | (show wpO _ _ _ (⟨_, .binOp _ _ _ _ _, _, _, _, _⟩ :: _) _ _ _; first | refine s_tt ?_ | refine s_ff ?_ | refine s_rdp ?_ | (refine s_cmp (fun _ => ?_) (fun _ => ?_) <;> (first | (exfalso; omega) | contradiction | skip)) | (refine s_cb (fun _ => ?_) (fun _ => ?_) <;> (first | (exfalso; omega) | contradiction | skip)) | refine s_sks ?_ | (refine s_g (fun _ => ?_) (fun _ => ?_) <;> (first | (exfalso; omega) | contradiction | skip))) | (show wpO _ _ _ (⟨_, .indexAddr _ _ _, _, _, _, _⟩ :: _) _ _ _; first | refine s_rdp ?_ | refine s_idx (fun _ _ _ _ _ _ _ => ?_) | refine s_sks ?_ | (refine s_g (fun _ => ?_) (fun _ => ?_) <;> (first | (exfalso; omega) | contradiction | skip))) | (show wpO _ _ _ (⟨_, .pick _ _ _, _, _, _, _⟩ :: _) _ _ _; first | refine s_rdp ?_ | (refine s_p (fun _ => ?_) (fun _ => ?_) <;> (first | (exfalso; omega) | contradiction | skip)) | refine s_sks ?_ | (refine s_g (fun _ => ?_) (fun _ => ?_) <;> (first | (exfalso; omega) | contradiction | skip))) | refine s_rdp ?_ | refine s_rdm ?_ | refine s_exq ?_ | refine s_exm ?_ | refine s_sks ?_ | refine s_skn ?_ | (refine s_g (fun _ => ?_) (fun _ => ?_) <;> (first | (exfalso; omega) | contradiction | skip))) | (show wpC _ _ _ _ _ _; first | refine wpC_seq ?_ | refine wpC_region ?_ | refine c_true ?_ | refine c_false ?_ | (refine c_b (fun _ => ?_) (fun _ => ?_) <;> (first | (exfalso; omega) | contradiction | skip)) | refine wpC_block ?_ | refine wpC_ret ?_ | refine wpC_skip ?_ | refine wpC_exit ?_ | refine wpC_label ?_ | (apply wpC_drawX (id := 4) ([]) [0, 1, 2, 3, 4, 5, 6, 7, 8, 9, 10, 11, 12, 13, 14, 15, 16, 17, 18, 19, 20, 21] rfl (by kernel_rfl); (case hpk => (repeat (first | exact Pcs.blk (by infer_instance) | exact Pcs.nil | (apply Pcs.cons; infer_instance) | apply Pcs.app))))) | (show Then _ _ _ _ _ _ _; first | refine then_normal ?_ | refine then_ret ?_ | refine then_exit ?_) | (show InBlock _ _ _ _ _ _; first | refine inBlock_normal ?_ | refine inBlock_ret ?_ | refine inBlock_same ?_ | refine b_other ?_) | (show LoopPost _ _ _ _ _ _; first | refine loop_ret ?_ | refine loop_exit ?_) | (show wpD _ _ _ _ _ _ _ _; first | refine wpD_nil ?_ | refine d_rdp ?_ | refine d_rdm ?_ | refine d_sks ?_ | refine d_tt ?_ | refine d_ff ?_ | (refine d_cmp (fun _ => ?_) (fun _ => ?_) <;> (first | (exfalso; omega) | contradiction | skip)) | (refine d_cb (fun _ => ?_) (fun _ => ?_) <;> (first | (exfalso; omega) | contradiction | skip)) | refine d_idx (fun _ _ _ _ _ _ _ => ?_) | refine d_exs ?_ | refine d_exn ?_ | (refine d_p (fun _ => ?_) (fun _ => ?_) <;> (first | (exfalso; omega) | contradiction | skip)) | (refine d_g (fun _ => ?_) (fun _ => ?_) <;> (first | (exfalso; omega) | contradiction | skip))) | (show (_ ∨ Subs _ _) ∧ _; first | refine d_sub ?_ | refine d_cov ?_) | (show RetP _ _ _ _ _ _ _ _; first | refine r_2 ?_))
    · rename_i hb
      exact lp_end (i + 1) (by omega) ⟨hlt, fun g hg => (htk g hg).elim (hall g) (fun h => by rw [h]; exact hrl.1 hb)⟩
    · rename_i he
      have := hY (fs.take i) f (fs.drop (i + 1)) hsp he
      rw [hlen] at this
      exact q_drop this
    · rename_i he
      have hb : Op.bytesLess f.nm.toList n.toList = false := ‹_›
      have hnl : ¬ ltN f.nm n := fun h => by rw [hrl.2 h] at hb; cases hb
      have hfn := ltN_of hnl he
      have := hN (fs.take i) (f :: fs.drop (i + 1)) hsp hall (fun g hg => by
        rcases List.mem_cons.1 hg with rfl | hg
        · exact hfn
        · exact ltN_trans hfn (hgt g hg))
      rw [hlen] at this
      exact q_drop this
  | none =>
    have hge : fs.length ≤ i := List.getElem?_eq_none_iff.1 hr
    repeat' (first | (show wpO _ _ _ _ _ _ _; first | refine wpO_nil ?_ | (show wpO _ _ _ (⟨_, .binOp _ _ _ _ _, _, _, _, _⟩ :: _) _ _ _; first | refine s_tt ?_ | refine s_ff ?_ | refine s_rdp ?_ | (refine s_cmp (fun _ => ?_) (fun _ => ?_) <;> (first | (exfalso; omega) | contradiction | skip)) | (refine s_cb (fun _ => ?_) (fun _ => ?_) <;> (first | (exfalso; omega) | contradiction | skip)) | refine s_sks ?_ | (refine s_g (fun _ => ?_) (fun _ => ?_) <;> (first | (exfalso; omega) | contradiction | skip))) | (show wpO _ _ _ (⟨_, .indexAddr _ _ _, _, _, _, _⟩ :: _) _ _ _; first | refine s_rdp ?_ | refine s_idx (fun _ _ _ _ _ _ _ => ?_) | refine s_sks ?_ | (refine s_g (fun _ => ?_) (fun _ => ?_) <;> (first | (exfalso; omega) | contradiction | skip))) | (show wpO _ _ _ (⟨_, .pick _ _ _, _, _, _, _⟩ :: _) _ _ _; first | refine s_rdp ?_ | (refine s_p (fun _ => ?_) (fun _ => ?_) <;> (first | (exfalso; omega) | contradiction | skip)) | refine s_sks ?_ | (refine s_g (fun _ => ?_) (fun _ => ?_) <;> (first | (exfalso; omega) | contradiction | skip))) | refine s_rdp ?_ | refine s_rdm ?_ | refine s_exq ?_ | refine s_exm ?_ | refine s_sks ?_ | refine s_skn ?_ | (refine s_g (fun _ => ?_) (fun _ => ?_) <;> (first | (exfalso; omega) | contradiction | skip))) | (show wpC _ _ _ _ _ _; first | refine wpC_seq ?_ | refine wpC_region ?_ | refine c_true ?_ | refine c_false ?_ | (refine c_b (fun _ => ?_) (fun _ => ?_) <;> (first | (exfalso; omega) | contradiction | skip)) | refine wpC_block ?_ | refine wpC_ret ?_ | refine wpC_skip ?_ | refine wpC_exit ?_ | refine wpC_label ?_ | (apply wpC_drawX (id := 4) ([]) [0, 1, 2, 3, 4, 5, 6, 7, 8, 9, 10, 11, 12, 13, 14, 15, 16, 17, 18, 19, 20, 21] rfl (by kernel_rfl); (case hpk => (repeat (first | exact Pcs.blk (by infer_instance) | exact Pcs.nil | (apply Pcs.cons; infer_instance) | apply Pcs.app))))) | (show Then _ _ _ _ _ _ _; first | refine then_normal ?_ | refine then_ret ?_ | refine then_exit ?_) | (show InBlock _ _ _ _ _ _; first | refine inBlock_normal ?_ | refine inBlock_ret ?_ | refine inBlock_same ?_ | refine b_other ?_) | (show LoopPost _ _ _ _ _ _; first | refine loop_ret ?_ | refine loop_exit ?_) | (show wpD _ _ _ _ _ _ _ _; first | refine wpD_nil ?_ | refine d_rdp ?_ | refine d_rdm ?_ | refine d_sks ?_ | refine d_tt ?_ | refine d_ff ?_ | (refine d_cmp (fun _ => ?_) (fun _ => ?_) <;> (first | (exfalso; omega) | contradiction | skip)) | (refine d_cb (fun _ => ?_) (fun _ => ?_) <;> (first | (exfalso; omega) | contradiction | skip)) | refine d_idx (fun _ _ _ _ _ _ _ => ?_) | refine d_exs ?_ | refine d_exn ?_ | (refine d_p (fun _ => ?_) (fun _ => ?_) <;> (first | (exfalso; omega) | contradiction | skip)) | (refine d_g (fun _ => ?_) (fun _ => ?_) <;> (first | (exfalso; omega) | contradiction | skip))) | (show (_ ∨ Subs _ _) ∧ _; first | refine d_sub ?_ | refine d_cov ?_) | (show RetP _ _ _ _ _ _ _ _; first | refine r_2 ?_))
    have := hN fs [] (by simp) (by rw [List.take_of_length_le hge] at hall; exact hall) (by simp)
    obtain rfl : i = fs.length := by omega
    exact q_drop this
end Go.Vl

namespace Go.Vl
open Go.Proofs
set_option maxHeartbeats 4000000 in
set_option maxRecDepth 100000 in
theorem okN_ne {s : ByteArray} (h : s = ⟨#[]⟩) : ¬ okN s := fun h1 => h1.1 (by rw [h]; rfl)
set_option maxHeartbeats 4000000 in
set_option maxRecDepth 100000 in
theorem ne_okN {s : ByteArray} (h : ¬ s = ⟨#[]⟩) : s.size ≠ 0 := fun h1 => h (by
  obtain ⟨a⟩ := s
  have : a = #[] := Array.eq_empty_of_size_eq_zero h1
  rw [this])
attribute [local irreducible] wpC wpO wpD Ex Rd callsK RetP Drop valK
set_option maxHeartbeats 4000000 in
set_option maxRecDepth 100000 in
theorem looks_spec (e : World) {d : Nat} {room fuse : Int} {v : Value} {k : Nat} {down : Bool} {ns : List ByteArray} {vn : Value} {Fn F : Hp} {K : Value → Hp → Prop} (hin : InSl Fn 1 (ns.map strC) vn) (hnl : ns.length ≤ 2)
    (h7 : down = true → K (.int .i64 7) ((rblk d room v fuse k down ++ Fn) ++ F)) (h20 : down = false → (∃ s ∈ ns, ¬ okN s) → K (.int .i64 20) ((rblk d room v fuse k down ++ Fn) ++ F))
    (h0 : down = false → (∀ s ∈ ns, okN s) → K (.int .i64 0) ((rblk d room v fuse k down ++ Fn) ++ F)) :
    callsK Tryz.prog e 55 #[pv d, vn] ((rblk d room v fuse k down ++ Fn) ++ F) K := by
  refine calls_body (N := 29) (args := [pv d, vn]) Tryz.func55 rfl rfl rfl (by simp) ?_
  repeat' (first | (show wpO _ _ _ _ _ _ _; first | refine wpO_nil ?_ | (show wpO _ _ _ (⟨_, .binOp _ _ _ _ _, _, _, _, _⟩ :: _) _ _ _; first | refine s_tt ?_ | refine s_ff ?_ | refine s_rdp ?_ | (refine s_cmp (fun _ => ?_) (fun _ => ?_) <;> (first | (exfalso; omega) | contradiction | skip)) | (refine s_cb (fun _ => ?_) (fun _ => ?_) <;> (first | (exfalso; omega) | contradiction | skip)) | refine s_sks ?_ | (refine s_g (fun _ => ?_) (fun _ => ?_) <;> (first | (exfalso; omega) | contradiction | skip))) | (show wpO _ _ _ (⟨_, .indexAddr _ _ _, _, _, _, _⟩ :: _) _ _ _; first | refine s_rdp ?_ | refine s_idx (fun _ _ _ _ _ _ _ => ?_) | refine s_sks ?_ | (refine s_g (fun _ => ?_) (fun _ => ?_) <;> (first | (exfalso; omega) | contradiction | skip))) | (show wpO _ _ _ (⟨_, .pick _ _ _, _, _, _, _⟩ :: _) _ _ _; first | refine s_rdp ?_ | (refine s_p (fun _ => ?_) (fun _ => ?_) <;> (first | (exfalso; omega) | contradiction | skip)) | refine s_sks ?_ | (refine s_g (fun _ => ?_) (fun _ => ?_) <;> (first | (exfalso; omega) | contradiction | skip))) | refine s_rdp ?_ | refine s_rdm ?_ | refine s_exq ?_ | refine s_exm ?_ | refine s_sks ?_ | refine s_skn ?_ | (refine s_g (fun _ => ?_) (fun _ => ?_) <;> (first | (exfalso; omega) | contradiction | skip))) | (show wpC _ _ _ _ _ _; first | refine wpC_seq ?_ | refine wpC_region ?_ | refine c_true ?_ | refine c_false ?_ | (refine c_b (fun _ => ?_) (fun _ => ?_) <;> (first | (exfalso; omega) | contradiction | skip)) | refine wpC_block ?_ | refine wpC_ret ?_ | refine wpC_skip ?_ | refine wpC_exit ?_ | refine wpC_label ?_) | (show Then _ _ _ _ _ _ _; first | refine then_normal ?_ | refine then_ret ?_ | refine then_exit ?_) | (show InBlock _ _ _ _ _ _; first | refine inBlock_normal ?_ | refine inBlock_ret ?_ | refine inBlock_same ?_ | refine b_other ?_) | (show LoopPost _ _ _ _ _ _; first | refine loop_ret ?_ | refine loop_exit ?_) | (show RetP _ _ _ _ _ _ _ _; first | refine r_1 ?_))
  · exact q_drop (h7 ‹_›)
  · refine wpC_loopA (κ := Nat) [4, 5, 10, 11, 12, 13, 14, 15, 16, 17, 18, 19, 20, 21, 22, 23, 24, 25, 26, 27, 28] (fun i => [(5, .int .i64 (i : Int))]) (fun _ => (rblk d room v fuse k down ++ Fn) ++ F)
      (fun i => i ≤ ns.length ∧ ∀ s ∈ ns.take i, okN s) (fun i => ns.length - i) 0 ⟨Nat.zero_le _, by simp⟩ ⟨rfl, trivial⟩ q_drp ?_
    rintro i ρx ⟨hi, hall⟩
    simp only at hi hall ⊢
    cases hr : ns[i]? with
    | none =>
      have hge : ns.length ≤ i := List.getElem?_eq_none_iff.1 hr
      repeat' (first | (show wpO _ _ _ _ _ _ _; first | refine wpO_nil ?_ | (show wpO _ _ _ (⟨_, .binOp _ _ _ _ _, _, _, _, _⟩ :: _) _ _ _; first | refine s_tt ?_ | refine s_ff ?_ | refine s_rdp ?_ | (refine s_cmp (fun _ => ?_) (fun _ => ?_) <;> (first | (exfalso; omega) | contradiction | skip)) | (refine s_cb (fun _ => ?_) (fun _ => ?_) <;> (first | (exfalso; omega) | contradiction | skip)) | refine s_sks ?_ | (refine s_g (fun _ => ?_) (fun _ => ?_) <;> (first | (exfalso; omega) | contradiction | skip))) | (show wpO _ _ _ (⟨_, .indexAddr _ _ _, _, _, _, _⟩ :: _) _ _ _; first | refine s_rdp ?_ | refine s_idx (fun _ _ _ _ _ _ _ => ?_) | refine s_sks ?_ | (refine s_g (fun _ => ?_) (fun _ => ?_) <;> (first | (exfalso; omega) | contradiction | skip))) | (show wpO _ _ _ (⟨_, .pick _ _ _, _, _, _, _⟩ :: _) _ _ _; first | refine s_rdp ?_ | (refine s_p (fun _ => ?_) (fun _ => ?_) <;> (first | (exfalso; omega) | contradiction | skip)) | refine s_sks ?_ | (refine s_g (fun _ => ?_) (fun _ => ?_) <;> (first | (exfalso; omega) | contradiction | skip))) | refine s_rdp ?_ | refine s_rdm ?_ | refine s_exq ?_ | refine s_exm ?_ | refine s_sks ?_ | refine s_skn ?_ | (refine s_g (fun _ => ?_) (fun _ => ?_) <;> (first | (exfalso; omega) | contradiction | skip))) | (show wpC _ _ _ _ _ _; first | refine wpC_seq ?_ | refine wpC_region ?_ | refine c_true ?_ | refine c_false ?_ | (refine c_b (fun _ => ?_) (fun _ => ?_) <;> (first | (exfalso; omega) | contradiction | skip)) | refine wpC_block ?_ | refine wpC_ret ?_ | refine wpC_skip ?_ | refine wpC_exit ?_ | refine wpC_label ?_) | (show Then _ _ _ _ _ _ _; first | refine then_normal ?_ | refine then_ret ?_ | refine then_exit ?_) | (show InBlock _ _ _ _ _ _; first | refine inBlock_normal ?_ | refine inBlock_ret ?_ | refine inBlock_same ?_ | refine b_other ?_) | (show LoopPost _ _ _ _ _ _; first | refine loop_ret ?_ | refine loop_exit ?_) | (show RetP _ _ _ _ _ _ _ _; first | refine r_1 ?_))
      rw [List.take_of_length_le hge] at hall
      exact q_drop (h0 ‹_› hall)
    | some s =>
      have hlt := (List.getElem?_eq_some_iff.1 hr).1
      have hms := List.mem_of_getElem? hr
      repeat' (first | (show wpO _ _ _ _ _ _ _; first | refine wpO_nil ?_ | (show wpO _ _ _ (⟨_, .binOp _ _ _ _ _, _, _, _, _⟩ :: _) _ _ _; first | refine s_tt ?_ | refine s_ff ?_ | refine s_rdp ?_ | (refine s_cmp (fun _ => ?_) (fun _ => ?_) <;> (first | (exfalso; omega) | contradiction | skip)) | (refine s_cb (fun _ => ?_) (fun _ => ?_) <;> (first | (exfalso; omega) | contradiction | skip)) | refine s_sks ?_ | (refine s_g (fun _ => ?_) (fun _ => ?_) <;> (first | (exfalso; omega) | contradiction | skip))) | (show wpO _ _ _ (⟨_, .indexAddr _ _ _, _, _, _, _⟩ :: _) _ _ _; first | refine s_rdp ?_ | refine s_idx (fun _ _ _ _ _ _ _ => ?_) | refine s_sks ?_ | (refine s_g (fun _ => ?_) (fun _ => ?_) <;> (first | (exfalso; omega) | contradiction | skip))) | (show wpO _ _ _ (⟨_, .pick _ _ _, _, _, _, _⟩ :: _) _ _ _; first | refine s_rdp ?_ | (refine s_p (fun _ => ?_) (fun _ => ?_) <;> (first | (exfalso; omega) | contradiction | skip)) | refine s_sks ?_ | (refine s_g (fun _ => ?_) (fun _ => ?_) <;> (first | (exfalso; omega) | contradiction | skip))) | refine s_rdp ?_ | refine s_rdm ?_ | refine s_exq ?_ | refine s_exm ?_ | refine s_sks ?_ | refine s_skn ?_ | (refine s_g (fun _ => ?_) (fun _ => ?_) <;> (first | (exfalso; omega) | contradiction | skip))) | (show wpC _ _ _ _ _ _; first | refine wpC_seq ?_ | refine wpC_region ?_ | refine c_true ?_ | refine c_false ?_ | (refine c_b (fun _ => ?_) (fun _ => ?_) <;> (first | (exfalso; omega) | contradiction | skip)) | refine wpC_block ?_ | refine wpC_ret ?_ | refine wpC_skip ?_ | refine wpC_exit ?_ | refine wpC_label ?_) | (show Then _ _ _ _ _ _ _; first | refine then_normal ?_ | refine then_ret ?_ | refine then_exit ?_) | (show InBlock _ _ _ _ _ _; first | refine inBlock_normal ?_ | refine inBlock_ret ?_ | refine inBlock_same ?_ | refine b_other ?_) | (show LoopPost _ _ _ _ _ _; first | refine loop_ret ?_ | refine loop_exit ?_) | (show RetP _ _ _ _ _ _ _ _; first | refine r_1 ?_))
      · exact q_drop (h20 ‹_› ⟨s, hms, okN_ne ‹_›⟩)
      · exact q_drop (h20 ‹_› ⟨s, hms, fun h => by have := h.2; omega⟩)
      · have hne := ne_okN ‹_›
        refine lp_end (i + 1) (by omega) ⟨hlt, fun x hx => ?_⟩
        rw [List.take_add_one, hr] at hx
        rcases List.mem_append.1 hx with hx | hx
        · exact hall x hx
        · obtain rfl : x = s := by simpa using hx
          exact ⟨hne, by omega⟩
set_option maxHeartbeats 4000000 in
set_option maxRecDepth 100000 in
theorem rthere_spec (e : World) {d b : Nat} {room fuse : Int} {v : Value} {k : Nat} {down : Bool} {fs : List Rf} {s : ByteArray} {ss : List ByteArray} {B F : Hp} {K : Value → Hp → Prop} (hO : FsO v fs B) (hl : fs.length ≤ 1024) (hs : fs.Pairwise fun f g => ltN f.nm g.nm) (hnl : ss.length ≤ 1)
    (h7 : down = true → K (.tuple #[.int .i64 0, .int .i64 7]) (((rblk d room v fuse k down ++ B) ++ [(b, cellsO ((s :: ss).map Value.string) 9)]) ++ F)) (h20 : down = false → (∃ x ∈ s :: ss, ¬ okN x) → K (.tuple #[.int .i64 0, .int .i64 20]) (((rblk d room v fuse k down ++ B) ++ [(b, cellsO ((s :: ss).map Value.string) 9)]) ++ F))
    (h4 : down = false → (∀ x ∈ s :: ss, okN x) → (∀ f ∈ fs, f.nm ≠ s) → K (.tuple #[.int .i64 0, .int .i64 4]) (((rblk d room v fuse k down ++ B) ++ [(b, cellsO ((s :: ss).map Value.string) 9)]) ++ F))
    (h0 : ∀ l1 f l2, down = false → (∀ x ∈ s :: ss, okN x) → fs = l1 ++ f :: l2 → f.nm = s → K (.tuple #[.int .i64 (l1.length : Int), .int .i64 0]) (((rblk d room v fuse k down ++ B) ++ [(b, cellsO ((s :: ss).map Value.string) 9)]) ++ F)) :
    callsK Tryz.prog e 82 #[pv d, .slice (some ⟨b, 0, none⟩) (ss.length + 1) (ss.length + 1)] (((rblk d room v fuse k down ++ B) ++ [(b, cellsO ((s :: ss).map Value.string) 9)]) ++ F) K := by
  have hin := inSl_strs b (s :: ss) 9
  have hidx : (s :: ss)[0]? = some s := rfl
  refine calls_body (N := 26) (args := [pv d, .slice (some ⟨b, 0, none⟩) (ss.length + 1) (ss.length + 1)]) Tryz.func82 rfl rfl rfl (by simp) ?_
  repeat' (first | (show wpO _ _ _ _ _ _ _; first | refine wpO_nil ?_ | (show wpO _ _ _ (⟨_, .binOp _ _ _ _ _, _, _, _, _⟩ :: _) _ _ _; first | refine s_tt ?_ | refine s_ff ?_ | refine s_rdp ?_ | (refine s_cmp (fun _ => ?_) (fun _ => ?_) <;> (first | (exfalso; omega) | contradiction | skip)) | (refine s_cb (fun _ => ?_) (fun _ => ?_) <;> (first | (exfalso; omega) | contradiction | skip))) | (show wpO _ _ _ (⟨_, .indexAddr _ _ _, _, _, _, _⟩ :: _) _ _ _; first | refine s_rdp ?_ | refine s_idx (fun _ _ _ _ _ _ _ => ?_)) | refine s_rdp ?_ | refine s_rdm ?_ | refine s_exq ?_ | refine s_exm ?_) | (show Ex _ _ _ _ _; first | (show Ex _ ⟨_, .call ⟨.value (.func _), _, _⟩, _, _, _, _⟩ _ _ _; refine e_call ?_; first | (apply p_pcs; apply looks_spec _ hin (by simp; omega); (try case hS => assumption); (case hpcs => (repeat (first | exact Pcs.blk (by infer_instance) | exact Pcs.nil | (apply Pcs.cons; infer_instance) | apply Pcs.app)))) | (apply p_pcs; apply find_spec _ hO hl hs; (try case hS => assumption); (case hpcs => (repeat (first | exact Pcs.blk (by infer_instance) | exact Pcs.nil | (apply Pcs.cons; infer_instance) | apply Pcs.app)))))) | (show wpC _ _ _ _ _ _; first | refine wpC_seq ?_ | refine wpC_region ?_ | refine c_true ?_ | refine c_false ?_ | (refine c_b (fun _ => ?_) (fun _ => ?_) <;> (first | (exfalso; omega) | contradiction | skip)) | refine wpC_ret ?_ | refine wpC_skip ?_ | refine wpC_label ?_) | (show Then _ _ _ _ _ _ _; first | refine then_normal ?_ | refine then_ret ?_) | (show RetP _ _ _ _ _ _ _ _; first | refine r_2 ?_) | assumption | intro _)
  · exact q_drop (h7 ‹_›)
  · exact q_drop (h20 ‹_› ‹_›)
  · exact q_drop (h0 _ _ _ ‹_› ‹_› ‹_› ‹_›)
  · rename_i l1 l2 hl12 hlt hgt
    refine q_drop (h4 ‹_› ‹_› (fun f hf he => ?_))
    rw [hl12] at hf
    rcases List.mem_append.1 hf with hf | hf
    · exact ltN_irrefl _ (he ▸ hlt f hf)
    · exact ltN_irrefl _ (he ▸ hgt f hf)
set_option maxHeartbeats 4000000 in
set_option maxRecDepth 100000 in
theorem blows_spec (e : World) {d : Nat} {room fuse : Int} {v : Value} {k : Nat} {down : Bool} {F : Hp} {K : Value → Hp → Prop} (h0 : 0 ≤ fuse) (h1 : fuse ≤ 9223372036854775807)
    (hK0 : fuse = 0 → K (.bool false) (rblk d room v fuse k down ++ F)) (hK1 : fuse = 1 → K (.bool true) (rblk d room v (fuse - 1) k down ++ F)) (hK2 : fuse ≠ 0 → fuse ≠ 1 → K (.bool false) (rblk d room v (fuse - 1) k down ++ F)) :
    callsK Tryz.prog e 57 #[pv d] (rblk d room v fuse k down ++ F) K := by
  refine calls_body (N := 20) (args := [pv d]) Tryz.func57 rfl rfl rfl (by simp) ?_
  repeat' (first | (show wpO _ _ _ _ _ _ _; first | refine wpO_nil ?_ | (show wpO _ _ _ (⟨_, .binOp _ _ _ _ _, _, _, _, _⟩ :: _) _ _ _; first | refine s_tt ?_ | refine s_ff ?_ | refine s_rdp ?_ | (refine s_cmp (fun _ => ?_) (fun _ => ?_) <;> (first | (exfalso; omega) | contradiction | skip)) | (refine s_cb (fun _ => ?_) (fun _ => ?_) <;> (first | (exfalso; omega) | contradiction | skip))) | refine s_rdp ?_ | refine s_rdm ?_ | refine s_exq ?_ | refine s_exm ?_) | (show Ex _ _ _ _ _; first | (show Ex _ ⟨_, .store _ _ _, _, _, _, _⟩ _ _ _; first | refine e_store1 ?_ | refine e_storeA ?_ | (refine e_storeO ?_; intro _ _))) | (show wpC _ _ _ _ _ _; first | refine wpC_seq ?_ | refine wpC_region ?_ | refine c_true ?_ | refine c_false ?_ | (refine c_b (fun _ => ?_) (fun _ => ?_) <;> (first | (exfalso; omega) | contradiction | skip)) | refine wpC_ret ?_ | refine wpC_skip ?_ | refine wpC_label ?_) | (show Then _ _ _ _ _ _ _; first | refine then_normal ?_ | refine then_ret ?_) | (show RetP _ _ _ _ _ _ _ _; first | refine r_1 ?_))
  · exact q_drop (hK0 ‹_›)
  · exact q_drop (hK1 (by omega))
  · exact q_drop (hK2 ‹_› (by omega))
end Go.Vl

namespace Go.Vl
open Go.Proofs
set_option maxHeartbeats 4000000 in
set_option maxRecDepth 100000 in
theorem rows3 {fs : List Rf} : ∀ r ∈ fs.map Rf.cells, r.length = 3 := fun r hr => by obtain ⟨x, _, rfl⟩ := List.mem_map.1 hr; rfl
set_option maxHeartbeats 4000000 in
set_option maxRecDepth 100000 in
theorem fsRow {l1 l2 : List Rf} {f : Rf} : ((l1 ++ f :: l2).map Rf.cells)[l1.length]? = some f.cells := by simp
set_option maxHeartbeats 4000000 in
set_option maxRecDepth 100000 in
theorem fsAt {v : Value} {l1 l2 : List Rf} {f : Rf} {B : Hp} (h : FsO v (l1 ++ f :: l2) B) : ∃ g cap cur, v = .slice (some ⟨g, 0, none⟩) (l1 ++ f :: l2).length cap ∧ B = [(g, .cells cur 62 (0, 0))] ∧ RowAt cur (0 + l1.length * 3) 3 f.cells := by
  obtain ⟨g, cap, cur, h1, h2, h3⟩ := SlO.at (rows := (l1 ++ f :: l2).map Rf.cells) (by rw [List.length_map]; exact h) rows3 (i := l1.length) (r := f.cells) fsRow
  exact ⟨g, cap, cur, by rw [h1, List.length_map], h2, h3⟩
set_option maxHeartbeats 4000000 in
set_option maxRecDepth 100000 in
theorem fsSet {l1 l2 : List Rf} {f f' : Rf} : (((l1 ++ f :: l2).map Rf.cells).set l1.length f'.cells) = (l1 ++ f' :: l2).map Rf.cells := by
  rw [List.map_append, List.map_cons, List.map_append, List.map_cons, List.set_append_right _ _ (by simp)]
  simp
set_option maxHeartbeats 4000000 in
set_option maxRecDepth 100000 in
theorem byIn {v : Value} {bs : List UInt8} {B : Hp} (h : BytO v bs B) : InSl B 1 (bs.map byC) v := SlO.inB (by rw [List.length_map]; exact h) (fun r hr => by obtain ⟨u, _, rfl⟩ := List.mem_map.1 hr; exact ⟨rfl, rfl⟩)
set_option maxHeartbeats 4000000 in
set_option maxRecDepth 100000 in
theorem BytO.app {v : Value} {xs bs : List UInt8} {B : Hp} (h : SlO 5 1 v (0 + xs.length + bs.length) ([] ++ (xs.map byC).flatten ++ (bs.map byC).flatten) B) : BytO v (xs ++ bs) B := by
  show SlO 5 1 v (xs ++ bs).length ((xs ++ bs).map byC).flatten B
  rw [List.length_append, List.map_append, List.flatten_append]
  simpa using h
set_option maxHeartbeats 4000000 in
set_option maxRecDepth 100000 in
theorem PlOK.more {Pl Pl' : Hp} {fs : List Rf} (h : PlOK Pl fs) (hs : ∀ x ∈ Pl, x ∈ Pl') : PlOK Pl' fs := fun f hf => (h f hf).more hs
set_option maxHeartbeats 4000000 in
set_option maxRecDepth 100000 in
theorem put_sorted {l1 l2 : List Rf} {f f' : Rf} (h : (l1 ++ f :: l2).Pairwise fun f g => ltN f.nm g.nm) (hn : f'.nm = f.nm) : (l1 ++ f' :: l2).Pairwise fun f g => ltN f.nm g.nm := by
  rw [← List.pairwise_map (f := Rf.nm) (R := ltN)] at h ⊢
  rw [List.map_append, List.map_cons] at h ⊢
  rw [hn]
  exact h
set_option maxHeartbeats 4000000 in
set_option maxRecDepth 100000 in
theorem sorted_names {fs : List Rf} (h : fs.Pairwise fun f g => ltN f.nm g.nm) : ((fs.map Rf.ab).map Prod.fst).Nodup := by
  rw [List.map_map]
  exact List.Pairwise.map _ (fun a b hab he => ltN_irrefl a.nm (by have : a.nm = b.nm := he; rw [← this] at hab; exact hab)) h
attribute [local irreducible] wpC wpO wpD Ex Rd callsK RetP Drop valK
set_option maxHeartbeats 4000000 in
set_option maxRecDepth 100000 in
theorem rput_spec (e : World) {d : Nat} {room fuse : Int} {v vb : Value} {k : Nat} {down : Bool} {fs : List Rf} {n : ByteArray} {bs : List UInt8} {B Pl Fn F : Hp} {K : Value → Hp → Prop} (hO : FsO v fs B) (hP : PlOK Pl fs) (hl : fs.length ≤ 1024) (hs : fs.Pairwise fun f g => ltN f.nm g.nm) (hb : InSl Fn 1 (bs.map byC) vb) (hcap : bs.length + totA (fs.map Rf.ab) ≤ 140737488355328)
    (hK : ∀ v' B' Pl' fs', FsO v' fs' B' → PlOK Pl' fs' → (fs'.Pairwise fun f g => ltN f.nm g.nm) → (fs'.map Rf.ab).Perm (appd (fs.map Rf.ab) n bs) → K (.tuple #[]) (((rblk d room v' fuse k down ++ (B' ++ Pl')) ++ Fn) ++ F)) :
    callsK Tryz.prog e 58 #[pv d, .string n, vb] (((rblk d room v fuse k down ++ (B ++ Pl)) ++ Fn) ++ F) K := by
  have hnil5 := SlO.nil 5 1
  have hnil96 := SlO.nil 62 3
  have hin := fsIn hO
  refine calls_body (N := 58) (args := [pv d, .string n, vb]) Tryz.func58 rfl rfl rfl (by simp) ?_
  repeat' ((fail_if_success (show wpC _ (.cond (.tmp 16) _ _) _ _ _ _)); first | (show wpO _ _ _ _ _ _ _; first | refine wpO_nil ?_ | (show wpO _ _ _ (⟨_, .indexAddr _ _ _, _, _, _, _⟩ :: _) _ _ _; first | refine s_rdp ?_ | refine s_idx (fun _ _ _ _ _ _ _ => ?_)) | (show wpO _ _ _ (⟨_, .slice _ _ _ _ _, _, _, _, _⟩ :: _) _ _ _; first | refine s_rdp ?_ | refine s_sliceHiT (fun _ _ => ?_) | refine s_clipO (fun _ _ => ?_) | refine s_sliceHi (fun _ _ => ?_) | refine s_sliceLo (fun _ _ => ?_)) | refine s_rdp ?_ | refine s_rdm ?_ | refine s_exq ?_ | refine s_exm ?_) | (show Ex _ _ _ _ _; first | (show Ex _ ⟨_, .call ⟨.value (.func _), _, _⟩, _, _, _, _⟩ _ _ _; refine e_call ?_; first | (apply p_pcs; apply find_spec _ hO hl hs; (try case hS => assumption); (case hpcs => (repeat (first | exact Pcs.blk (by infer_instance) | exact Pcs.nil | (apply Pcs.cons; infer_instance) | apply Pcs.app))))) | (show Ex _ ⟨_, .store _ _ _, _, _, _, _⟩ _ _ _; first | refine e_store1 ?_ | refine e_storeA ?_ | (refine e_storeO ?_; intro _ _)) | (show Ex _ ⟨_, .buildSlice _ _ _, _, _, _, _⟩ _ _ _; first | (refine e_buildSlice ?_; intro _) | (refine e_buildNil ?_; intro _ _ _)) | (show Ex _ ⟨_, .call ⟨.builtin .append, _, _⟩, _, _, _, _⟩ _ _ _; (first | refine e_append ?_ | refine e_appendIn ?_); intro _ _ _)) | (show wpC _ _ _ _ _ _; first | refine wpC_seq ?_ | refine wpC_region ?_ | refine c_true ?_ | refine c_false ?_ | (refine c_b (fun _ => ?_) (fun _ => ?_) <;> (first | (exfalso; omega) | contradiction | skip)) | refine wpC_ret ?_ | refine wpC_skip ?_ | refine wpC_label ?_ | (apply wpC_drawX (id := 5) ([]) [0, 1, 2, 3, 4, 5, 6, 7, 8, 9, 10, 11, 12, 14, 13, 15, 16, 17, 18] rfl (by kernel_rfl); (case hpk => (repeat (first | exact Pcs.blk (by infer_instance) | exact Pcs.nil | (apply Pcs.cons; infer_instance) | apply Pcs.app))))) | (show Then _ _ _ _ _ _ _; first | refine then_normal ?_ | refine then_ret ?_) | (show wpD _ _ _ _ _ _ _ _; first | refine wpD_nil ?_ | refine d_rdp ?_ | refine d_rdm ?_ | refine d_idx (fun _ _ _ _ _ _ _ => ?_) | refine d_sliceHiT (fun _ _ => ?_) | refine d_clipO (fun _ _ => ?_) | refine d_sliceHi (fun _ _ => ?_) | refine d_sliceLo (fun _ _ => ?_) | refine d_exs ?_ | refine d_exn ?_) | (show (_ ∨ Subs _ _) ∧ _; first | refine d_sub ?_ | refine d_cov ?_) | (show RetP _ _ _ _ _ _ _ _; first | refine r_0 ?_) | assumption | intro _)
  · rename_i l1 f l2 hfs hnm
    subst hfs
    have hle : f.bs.length ≤ totA ((l1 ++ f :: l2).map Rf.ab) := totA_mem (a := f.ab) (List.mem_map.2 ⟨f, by simp, rfl⟩)
    obtain ⟨g, cap, cur, rfl, rfl, hra⟩ := fsAt hO
    have hri := fsRow (l1 := l1) (l2 := l2) (f := f)
    have hlr := rows3 (fs := l1 ++ f :: l2)
    have hbf := hP f (by simp)
    have hll : l1.length < (l1 ++ f :: l2).length := by simp
    clear hnil96 hin
    repeat' (first | (show wpO _ _ _ _ _ _ _; first | refine wpO_nil ?_ | (show wpO _ _ _ (⟨_, .indexAddr _ _ _, _, _, _, _⟩ :: _) _ _ _; first | refine s_rdp ?_ | refine s_idx (fun _ _ _ _ _ _ _ => ?_)) | (show wpO _ _ _ (⟨_, .slice _ _ _ _ _, _, _, _, _⟩ :: _) _ _ _; first | refine s_rdp ?_ | refine s_sliceHiT (fun _ _ => ?_) | refine s_clipO (fun _ _ => ?_) | refine s_sliceHi (fun _ _ => ?_) | refine s_sliceLo (fun _ _ => ?_)) | refine s_rdp ?_ | refine s_rdm ?_ | refine s_exq ?_ | refine s_exm ?_) | (show Ex _ _ _ _ _; first | (refine e_storeF ?_; intro _ _ _ _ _) | (show Ex _ ⟨_, .store _ _ _, _, _, _, _⟩ _ _ _; first | refine e_store1 ?_ | refine e_storeA ?_ | (refine e_storeO ?_; intro _ _)) | (show Ex _ ⟨_, .buildSlice _ _ _, _, _, _, _⟩ _ _ _; first | (refine e_buildSlice ?_; intro _) | (refine e_buildNil ?_; intro _ _ _)) | (show Ex _ ⟨_, .call ⟨.builtin .append, _, _⟩, _, _, _, _⟩ _ _ _; (first | refine e_append ?_ | refine e_appendIn ?_); intro _ _ _)) | (show wpC _ _ _ _ _ _; first | refine wpC_seq ?_ | refine wpC_region ?_ | refine c_true ?_ | refine c_false ?_ | (refine c_b (fun _ => ?_) (fun _ => ?_) <;> (first | (exfalso; omega) | contradiction | skip)) | refine wpC_ret ?_ | refine wpC_skip ?_ | refine wpC_label ?_ | (apply wpC_drawX (id := 5) ([]) [0, 1, 2, 3, 4, 5, 6, 7, 8, 9, 10, 11, 12, 14, 13, 15, 16, 17, 18] rfl (by kernel_rfl); (case hpk => (repeat (first | exact Pcs.blk (by infer_instance) | exact Pcs.nil | (apply Pcs.cons; infer_instance) | apply Pcs.app))))) | (show Then _ _ _ _ _ _ _; first | refine then_normal ?_ | refine then_ret ?_) | (show wpD _ _ _ _ _ _ _ _; first | refine wpD_nil ?_ | refine d_rdp ?_ | refine d_rdm ?_ | refine d_idx (fun _ _ _ _ _ _ _ => ?_) | refine d_sliceHiT (fun _ _ => ?_) | refine d_clipO (fun _ _ => ?_) | refine d_sliceHi (fun _ _ => ?_) | refine d_sliceLo (fun _ _ => ?_) | refine d_exs ?_ | refine d_exn ?_) | (show (_ ∨ Subs _ _) ∧ _; first | refine d_sub ?_ | refine d_cov ?_) | (show RetP _ _ _ _ _ _ _ _; first | refine r_0 ?_) | assumption | intro _)
    rename_i v1 B1 hv1 v2 B2 hv2 cur' hS' hra' hl' hri'
    have hB2 := BytO.app hv2
    obtain ⟨a, c, rfl⟩ := SlO.val hB2
    have hc : f.cells.set 1 (.slice a (f.bs ++ bs).length c) = (⟨f.nm, a, c, f.bs ++ bs, f.syn⟩ : Rf).cells := rfl
    rw [hc, fsSet] at hS'
    refine q_drop (hK _ [(g, .cells cur' 62 (0, 0))] (B2 ++ Pl) (l1 ++ ⟨f.nm, a, c, f.bs ++ bs, f.syn⟩ :: l2) (hS'.cast (by simp) rfl) (fun x hx => ?_) (put_sorted hs rfl) ?_)
    · rcases List.mem_append.1 hx with hx | hx
      · exact (hP x (List.mem_append_left _ hx)).more fun y hy => List.mem_append_right _ hy
      · rcases List.mem_cons.1 hx with rfl | hx
        · exact (byIn hB2).more fun y hy => List.mem_append_left _ hy
        · exact (hP x (List.mem_append_right _ (List.mem_cons_of_mem _ hx))).more fun y hy => List.mem_append_right _ hy
    · subst hnm
      refine .of_eq ?_
      rw [appd_in (L1 := l1.map Rf.ab) (L2 := l2.map Rf.ab) (a := f.ab) (sorted_names hs) (by simp)]
      simp
  · rename_i l1 l2 hfs hlt hgt
    subst hfs
    have hll : l1.length ≤ (l1 ++ l2).length := by simp
    repeat' ((fail_if_success (show wpC _ (.region 5 _ _) _ _ _ _)); first | (refine s_sliceHi (fun _ _ => ?_)) | (refine s_sliceLo (fun _ _ => ?_)) | (show wpO _ _ _ _ _ _ _; first | refine wpO_nil ?_ | (show wpO _ _ _ (⟨_, .indexAddr _ _ _, _, _, _, _⟩ :: _) _ _ _; first | refine s_rdp ?_ | refine s_idx (fun _ _ _ _ _ _ _ => ?_)) | (show wpO _ _ _ (⟨_, .slice _ _ _ _ _, _, _, _, _⟩ :: _) _ _ _; first | refine s_rdp ?_ | refine s_sliceHiT (fun _ _ => ?_) | refine s_clipO (fun _ _ => ?_) | refine s_sliceHi (fun _ _ => ?_) | refine s_sliceLo (fun _ _ => ?_)) | refine s_rdp ?_ | refine s_rdm ?_ | refine s_exq ?_ | refine s_exm ?_) | (show Ex _ _ _ _ _; first | (show Ex _ ⟨_, .store _ _ _, _, _, _, _⟩ _ _ _; first | refine e_store1 ?_ | refine e_storeA ?_ | (refine e_storeO ?_; intro _ _)) | (show Ex _ ⟨_, .buildSlice _ _ _, _, _, _, _⟩ _ _ _; first | (refine e_buildSlice ?_; intro _) | (refine e_buildNil ?_; intro _ _ _)) | (show Ex _ ⟨_, .call ⟨.builtin .append, _, _⟩, _, _, _, _⟩ _ _ _; (first | refine e_append ?_ | refine e_appendIn ?_); intro _ _ _)) | (show wpC _ _ _ _ _ _; first | refine wpC_seq ?_ | refine wpC_region ?_ | refine c_true ?_ | refine c_false ?_ | (refine c_b (fun _ => ?_) (fun _ => ?_) <;> (first | (exfalso; omega) | contradiction | skip)) | refine wpC_ret ?_ | refine wpC_skip ?_ | refine wpC_label ?_ | (apply wpC_drawX (id := 5) ([]) [0, 1, 2, 3, 4, 5, 6, 7, 8, 9, 10, 11, 12, 14, 13, 15, 16, 17, 18] rfl (by kernel_rfl); (case hpk => (repeat (first | exact Pcs.blk (by infer_instance) | exact Pcs.nil | (apply Pcs.cons; infer_instance) | apply Pcs.app))))) | (show Then _ _ _ _ _ _ _; first | refine then_normal ?_ | refine then_ret ?_) | (show wpD _ _ _ _ _ _ _ _; first | refine wpD_nil ?_ | refine d_rdp ?_ | refine d_rdm ?_ | refine d_idx (fun _ _ _ _ _ _ _ => ?_) | refine d_sliceHiT (fun _ _ => ?_) | refine d_clipO (fun _ _ => ?_) | refine d_sliceHi (fun _ _ => ?_) | refine d_sliceLo (fun _ _ => ?_) | refine d_exs ?_ | refine d_exn ?_) | (show (_ ∨ Subs _ _) ∧ _; first | refine d_sub ?_ | refine d_cov ?_) | (show RetP _ _ _ _ _ _ _ _; first | refine r_0 ?_))
    rename_i vt hvt va Ba ha bb vb2 Bb hb2 vd hvd vc Bc hc
    have hO2 : FsO vc (l1 ++ (⟨n, none, 0, [], 0⟩ : Rf) :: l2) Bc := by
      refine hc.cast ?_ ?_
      · simp
        omega
      · simp
    have hP2 : PlOK Pl (l1 ++ (⟨n, none, 0, [], 0⟩ : Rf) :: l2) := fun x hx => by
      rcases List.mem_append.1 hx with hx | hx
      · exact hP x (List.mem_append_left _ hx)
      · rcases List.mem_cons.1 hx with rfl | hx
        · exact InSl.nil
        · exact hP x (List.mem_append_right _ hx)
    have hs2 : (l1 ++ (⟨n, none, 0, [], 0⟩ : Rf) :: l2).Pairwise fun f g => ltN f.nm g.nm := by
      rw [List.pairwise_append] at hs ⊢
      refine ⟨hs.1, List.pairwise_cons.2 ⟨hgt, hs.2.1⟩, fun a ha b hb => ?_⟩
      rcases List.mem_cons.1 hb with rfl | hb
      · exact hlt a ha
      · exact hs.2.2 a ha b hb
    have hbf : InSl Pl 1 (([] : List UInt8).map byC) (.slice none 0 0) := InSl.nil
    have hbl : ([] : List UInt8).length = 0 := rfl
    clear hc hvd hb2 ha hvt hin hO hnil96
    obtain ⟨g, cap, cur, rfl, rfl, hra⟩ := fsAt hO2
    have hri := fsRow (l1 := l1) (l2 := l2) (f := (⟨n, none, 0, [], 0⟩ : Rf))
    have hlr := rows3 (fs := l1 ++ (⟨n, none, 0, [], 0⟩ : Rf) :: l2)
    have hll : l1.length < (l1 ++ (⟨n, none, 0, [], 0⟩ : Rf) :: l2).length := by simp
    repeat' (first | (show wpO _ _ _ _ _ _ _; first | refine wpO_nil ?_ | (show wpO _ _ _ (⟨_, .indexAddr _ _ _, _, _, _, _⟩ :: _) _ _ _; first | refine s_rdp ?_ | refine s_idx (fun _ _ _ _ _ _ _ => ?_)) | (show wpO _ _ _ (⟨_, .slice _ _ _ _ _, _, _, _, _⟩ :: _) _ _ _; first | refine s_rdp ?_ | refine s_sliceHiT (fun _ _ => ?_) | refine s_clipO (fun _ _ => ?_) | refine s_sliceHi (fun _ _ => ?_) | refine s_sliceLo (fun _ _ => ?_)) | refine s_rdp ?_ | refine s_rdm ?_ | refine s_exq ?_ | refine s_exm ?_) | (show Ex _ _ _ _ _; first | (refine e_storeF ?_; intro _ _ _ _ _) | (show Ex _ ⟨_, .store _ _ _, _, _, _, _⟩ _ _ _; first | refine e_store1 ?_ | refine e_storeA ?_ | (refine e_storeO ?_; intro _ _)) | (show Ex _ ⟨_, .buildSlice _ _ _, _, _, _, _⟩ _ _ _; first | (refine e_buildSlice ?_; intro _) | (refine e_buildNil ?_; intro _ _ _)) | (show Ex _ ⟨_, .call ⟨.builtin .append, _, _⟩, _, _, _, _⟩ _ _ _; (first | refine e_append ?_ | refine e_appendIn ?_); intro _ _ _)) | (show wpC _ _ _ _ _ _; first | refine wpC_seq ?_ | refine wpC_region ?_ | refine c_true ?_ | refine c_false ?_ | (refine c_b (fun _ => ?_) (fun _ => ?_) <;> (first | (exfalso; omega) | contradiction | skip)) | refine wpC_ret ?_ | refine wpC_skip ?_ | refine wpC_label ?_ | (apply wpC_drawX (id := 5) ([]) [0, 1, 2, 3, 4, 5, 6, 7, 8, 9, 10, 11, 12, 14, 13, 15, 16, 17, 18] rfl (by kernel_rfl); (case hpk => (repeat (first | exact Pcs.blk (by infer_instance) | exact Pcs.nil | (apply Pcs.cons; infer_instance) | apply Pcs.app))))) | (show Then _ _ _ _ _ _ _; first | refine then_normal ?_ | refine then_ret ?_) | (show wpD _ _ _ _ _ _ _ _; first | refine wpD_nil ?_ | refine d_rdp ?_ | refine d_rdm ?_ | refine d_idx (fun _ _ _ _ _ _ _ => ?_) | refine d_sliceHiT (fun _ _ => ?_) | refine d_clipO (fun _ _ => ?_) | refine d_sliceHi (fun _ _ => ?_) | refine d_sliceLo (fun _ _ => ?_) | refine d_exs ?_ | refine d_exn ?_) | (show (_ ∨ Subs _ _) ∧ _; first | refine d_sub ?_ | refine d_cov ?_) | (show RetP _ _ _ _ _ _ _ _; first | refine r_0 ?_) | assumption | intro _)
    rename_i v1 B1 hv1 v2 B2 hv2 cur' hS' hra' hl' hri'
    have hB2 : BytO v2 ([] ++ bs) B2 := BytO.app (xs := []) hv2
    obtain ⟨a, c, rfl⟩ := SlO.val hB2
    have hc : (⟨n, none, 0, [], 0⟩ : Rf).cells.set 1 (.slice a ([] ++ bs).length c) = (⟨n, a, c, [] ++ bs, 0⟩ : Rf).cells := rfl
    rw [hc, fsSet] at hS'
    refine q_drop (hK _ [(g, .cells cur' 62 (0, 0))] (B2 ++ Pl) (l1 ++ ⟨n, a, c, [] ++ bs, 0⟩ :: l2) (hS'.cast (by simp) rfl) (fun x hx => ?_) (put_sorted hs2 rfl) ?_)
    · rcases List.mem_append.1 hx with hx | hx
      · exact (hP x (List.mem_append_left _ hx)).more fun y hy => List.mem_append_right _ hy
      · rcases List.mem_cons.1 hx with rfl | hx
        · exact (byIn hB2).more fun y hy => List.mem_append_left _ hy
        · exact (hP x (List.mem_append_right _ hx)).more fun y hy => List.mem_append_right _ hy
    · rw [appd_out (fun a ha => ?_)]
      · simp only [List.map_append, List.map_cons, List.nil_append, List.append_assoc]
        exact (List.perm_append_comm (l₁ := [_]) (l₂ := l2.map Rf.ab)).append_left _
      · obtain ⟨x, hx, rfl⟩ := List.mem_map.1 ha
        intro he
        rcases List.mem_append.1 hx with hx | hx
        · exact ltN_irrefl n (by have := hlt x hx; rwa [show x.nm = n from he] at this)
        · exact ltN_irrefl n (by have := hgt x hx; rwa [show x.nm = n from he] at this)
end Go.Vl

namespace Go.Vl
open Go.Proofs
set_option maxHeartbeats 4000000 in
set_option maxRecDepth 100000 in
theorem filter_mid {l1 l2 : List Rf} {f : Rf} (hs : (l1 ++ f :: l2).Pairwise fun f g => ltN f.nm g.nm) : (l1 ++ f :: l2).filter (fun x => decide (x.nm ≠ f.nm)) = l1 ++ l2 := by
  rw [List.pairwise_append, List.pairwise_cons] at hs
  obtain ⟨_, ⟨h2, _⟩, h3⟩ := hs
  rw [List.filter_append, List.filter_cons_of_neg (by simp), List.filter_eq_self.2, List.filter_eq_self.2]
  · intro a ha
    have : a.nm ≠ f.nm := fun he => ltN_irrefl _ (by have := h2 a ha; rwa [he] at this)
    simpa using this
  · intro a ha
    have : a.nm ≠ f.nm := fun he => ltN_irrefl _ (by have := h3 a ha f (by simp); rwa [he] at this)
    simpa using this
set_option maxHeartbeats 4000000 in
set_option maxRecDepth 100000 in
theorem filter_none {l1 l2 : List Rf} {n : ByteArray} (h1 : ∀ g ∈ l1, ltN g.nm n) (h2 : ∀ g ∈ l2, ltN n g.nm) : (l1 ++ l2).filter (fun x => decide (x.nm ≠ n)) = l1 ++ l2 :=
  List.filter_eq_self.2 fun a ha => by
    have : a.nm ≠ n := fun he => by
      rcases List.mem_append.1 ha with ha | ha
      · exact ltN_irrefl _ (by have := h1 a ha; rwa [he] at this)
      · exact ltN_irrefl _ (by have := h2 a ha; rwa [he] at this)
    simpa using this
structure CrS where
  i : Nat
  fs : List Rf
  cur : Array Value
set_option maxHeartbeats 4000000 in
set_option maxRecDepth 100000 in
theorem fsAll {v : Value} {fs : List Rf} {B : Hp} (h : FsO v fs B) : fs = [] ∨ ∃ g cap cur, v = .slice (some ⟨g, 0, none⟩) fs.length cap ∧ B = [(g, .cells cur 62 (0, 0))] := by
  cases fs with
  | nil => exact .inl rfl
  | cons f l =>
    obtain ⟨g, cap, cur, h1, h2, _⟩ := fsAt (l1 := []) h
    exact .inr ⟨g, cap, cur, h1, h2⟩
set_option maxHeartbeats 4000000 in
set_option maxRecDepth 100000 in
theorem fsRowAt {g cap i : Nat} {cur : Array Value} {fs : List Rf} {f : Rf} (h : FsO (.slice (some ⟨g, 0, none⟩) fs.length cap) fs [(g, .cells cur 62 (0, 0))]) (hi : fs[i]? = some f) : RowAt cur (0 + i * 3) 3 f.cells := by
  obtain ⟨g2, cap2, cur2, h1, h2, h3⟩ := SlO.at (rows := fs.map Rf.cells) (by rw [List.length_map]; exact h) rows3 (i := i) (r := f.cells) (by simp [hi])
  simp only [List.cons.injEq, Prod.mk.injEq, Obj.cells.injEq, and_true, true_and] at h2
  rw [h2.2]
  exact h3
set_option maxHeartbeats 4000000 in
set_option maxRecDepth 100000 in
theorem fsSetI {fs : List Rf} {i : Nat} {f' : Rf} : ((fs.map Rf.cells).set i f'.cells) = (fs.set i f').map Rf.cells := by rw [List.map_set]
def fallA (k : Nat) (l : List Ab) (i : Nat) : List Ab := (l.take i).map (fell k) ++ l.drop i
set_option maxHeartbeats 4000000 in
set_option maxRecDepth 100000 in
theorem fallA_step {k i : Nat} {l : List Ab} {m : List Ab} {a : Ab} (h : m = fallA k l i) (hi : l[i]? = some a) : m.set i (fell k a) = fallA k l (i + 1) ∧ m[i]? = some a := by
  have hlt := (List.getElem?_eq_some_iff.1 hi).1
  have hlen : ((l.take i).map (fell k)).length = i := by rw [List.length_map, List.length_take]; omega
  have hd : l.drop i = a :: l.drop (i + 1) := by rw [List.drop_eq_getElem_cons hlt, (List.getElem?_eq_some_iff.1 hi).2]
  have h1 : m = (l.take i).map (fell k) ++ a :: l.drop (i + 1) := by rw [h, fallA, hd]
  constructor
  · rw [h1, List.set_append_right _ _ (by rw [hlen]; exact Nat.le_refl _), hlen, Nat.sub_self, List.set_cons_zero, fallA, List.take_add_one, hi, List.map_append, List.append_assoc]
    rfl
  · rw [h1, List.getElem?_append_right (by rw [hlen]; exact Nat.le_refl _), hlen, Nat.sub_self]
    rfl
set_option maxHeartbeats 4000000 in
set_option maxRecDepth 100000 in
theorem set_same {α : Type} {l : List α} {i : Nat} {a : α} (h : l[i]? = some a) : l.set i a = l := by
  apply List.ext_getElem?
  intro j
  rw [List.getElem?_set]
  split
  · rename_i hij
    subst hij
    rw [if_pos (List.getElem?_eq_some_iff.1 h).1, h]
  · rfl
set_option maxHeartbeats 4000000 in
set_option maxRecDepth 100000 in
theorem set_nm {gs : List Rf} {i : Nat} {f f' : Rf} (h : gs[i]? = some f) (hn : f'.nm = f.nm) : (gs.set i f').map Rf.nm = gs.map Rf.nm := by
  rw [List.map_set, hn]
  exact set_same (by simp [h])
attribute [local irreducible] wpC wpO wpD Ex Rd callsK RetP Drop valK
set_option maxHeartbeats 4000000 in
set_option maxRecDepth 100000 in
theorem drop_spec (e : World) {d : Nat} {room fuse : Int} {v : Value} {k : Nat} {down : Bool} {fs : List Rf} {n : ByteArray} {B F : Hp} {K : Value → Hp → Prop} (hO : FsO v fs B) (hl : fs.length ≤ 1024) (hs : fs.Pairwise fun f g => ltN f.nm g.nm)
    (hK : ∀ v' B', FsO v' (fs.filter fun x => decide (x.nm ≠ n)) B' → K (.tuple #[]) ((rblk d room v' fuse k down ++ B') ++ F)) :
    callsK Tryz.prog e 83 #[pv d, .string n] ((rblk d room v fuse k down ++ B) ++ F) K := by
  have hnil96 := SlO.nil 62 3
  have hin := fsIn hO
  refine calls_body (N := 33) (args := [pv d, .string n]) Tryz.func83 rfl rfl rfl (by simp) ?_
  repeat' ((fail_if_success (show wpC _ (.cond (.tmp 13) _ _) _ _ _ _)); first | (show wpO _ _ _ _ _ _ _; first | refine wpO_nil ?_ | (show wpO _ _ _ (⟨_, .binOp _ _ _ _ _, _, _, _, _⟩ :: _) _ _ _; first | refine s_tt ?_ | refine s_ff ?_ | refine s_rdp ?_ | (refine s_cmp (fun _ => ?_) (fun _ => ?_) <;> (first | (exfalso; omega) | contradiction | skip)) | (refine s_cb (fun _ => ?_) (fun _ => ?_) <;> (first | (exfalso; omega) | contradiction | skip))) | (show wpO _ _ _ (⟨_, .slice _ _ _ _ _, _, _, _, _⟩ :: _) _ _ _; first | refine s_rdp ?_ | refine s_sliceHiT (fun _ _ => ?_) | refine s_clipO (fun _ _ => ?_) | refine s_sliceHi (fun _ _ => ?_) | refine s_sliceLo (fun _ _ => ?_)) | refine s_rdp ?_ | refine s_rdm ?_ | refine s_exq ?_ | refine s_exm ?_) | (show Ex _ _ _ _ _; first | (show Ex _ ⟨_, .call ⟨.value (.func _), _, _⟩, _, _, _, _⟩ _ _ _; refine e_call ?_; first | (apply p_pcs; apply find_spec _ hO hl hs; (try case hS => assumption); (case hpcs => (repeat (first | exact Pcs.blk (by infer_instance) | exact Pcs.nil | (apply Pcs.cons; infer_instance) | apply Pcs.app))))) | (show Ex _ ⟨_, .store _ _ _, _, _, _, _⟩ _ _ _; first | refine e_store1 ?_ | refine e_storeA ?_ | (refine e_storeO ?_; intro _ _)) | (show Ex _ ⟨_, .call ⟨.builtin .append, _, _⟩, _, _, _, _⟩ _ _ _; (first | refine e_append ?_ | refine e_appendIn ?_); intro _ _ _)) | (show wpC _ _ _ _ _ _; first | refine wpC_seq ?_ | refine wpC_region ?_ | refine c_true ?_ | refine c_false ?_ | (refine c_b (fun _ => ?_) (fun _ => ?_) <;> (first | (exfalso; omega) | contradiction | skip)) | refine wpC_ret ?_ | refine wpC_skip ?_ | refine wpC_label ?_) | (show Then _ _ _ _ _ _ _; first | refine then_normal ?_ | refine then_ret ?_) | (show RetP _ _ _ _ _ _ _ _; first | refine r_0 ?_) | assumption | intro _)
  · rename_i l1 f l2 hfs hnm
    subst hfs
    subst hnm
    have hll : l1.length + 1 ≤ (l1 ++ f :: l2).length := by simp
    repeat' (first | (refine s_sliceHi (fun _ _ => ?_)) | (refine s_sliceLo (fun _ _ => ?_)) | (show wpO _ _ _ _ _ _ _; first | refine wpO_nil ?_ | (show wpO _ _ _ (⟨_, .binOp _ _ _ _ _, _, _, _, _⟩ :: _) _ _ _; first | refine s_tt ?_ | refine s_ff ?_ | refine s_rdp ?_ | (refine s_cmp (fun _ => ?_) (fun _ => ?_) <;> (first | (exfalso; omega) | contradiction | skip)) | (refine s_cb (fun _ => ?_) (fun _ => ?_) <;> (first | (exfalso; omega) | contradiction | skip))) | (show wpO _ _ _ (⟨_, .slice _ _ _ _ _, _, _, _, _⟩ :: _) _ _ _; first | refine s_rdp ?_ | refine s_sliceHiT (fun _ _ => ?_) | refine s_clipO (fun _ _ => ?_) | refine s_sliceHi (fun _ _ => ?_) | refine s_sliceLo (fun _ _ => ?_)) | refine s_rdp ?_ | refine s_rdm ?_ | refine s_exq ?_ | refine s_exm ?_) | (show Ex _ _ _ _ _; first | (show Ex _ ⟨_, .store _ _ _, _, _, _, _⟩ _ _ _; first | refine e_store1 ?_ | refine e_storeA ?_ | (refine e_storeO ?_; intro _ _)) | (show Ex _ ⟨_, .call ⟨.builtin .append, _, _⟩, _, _, _, _⟩ _ _ _; (first | refine e_append ?_ | refine e_appendIn ?_); intro _ _ _)) | (show wpC _ _ _ _ _ _; first | refine wpC_seq ?_ | refine wpC_region ?_ | refine c_true ?_ | refine c_false ?_ | (refine c_b (fun _ => ?_) (fun _ => ?_) <;> (first | (exfalso; omega) | contradiction | skip)) | refine wpC_ret ?_ | refine wpC_skip ?_ | refine wpC_label ?_) | (show Then _ _ _ _ _ _ _; first | refine then_normal ?_ | refine then_ret ?_) | (show RetP _ _ _ _ _ _ _ _; first | refine r_0 ?_))
    rename_i vt hvt va Ba ha vd hvd vc Bc hc
    refine q_drop (hK vc Bc ?_)
    rw [filter_mid hs]
    have e1 : (l1 ++ f :: l2).take l1.length = l1 := by simp
    have e2 : (l1 ++ f :: l2).drop (l1.length + 1) = l2 := by rw [← List.drop_drop]; simp
    rw [e1, e2] at hc
    exact hc.cast (by simp) (by simp)
  · rename_i l1 l2 hfs hlt hgt
    subst hfs
    repeat' (first | (show wpO _ _ _ _ _ _ _; first | refine wpO_nil ?_ | (show wpO _ _ _ (⟨_, .binOp _ _ _ _ _, _, _, _, _⟩ :: _) _ _ _; first | refine s_tt ?_ | refine s_ff ?_ | refine s_rdp ?_ | (refine s_cmp (fun _ => ?_) (fun _ => ?_) <;> (first | (exfalso; omega) | contradiction | skip)) | (refine s_cb (fun _ => ?_) (fun _ => ?_) <;> (first | (exfalso; omega) | contradiction | skip))) | (show wpO _ _ _ (⟨_, .slice _ _ _ _ _, _, _, _, _⟩ :: _) _ _ _; first | refine s_rdp ?_ | refine s_sliceHiT (fun _ _ => ?_) | refine s_clipO (fun _ _ => ?_) | refine s_sliceHi (fun _ _ => ?_) | refine s_sliceLo (fun _ _ => ?_)) | refine s_rdp ?_ | refine s_rdm ?_ | refine s_exq ?_ | refine s_exm ?_) | (show Ex _ _ _ _ _; first | (show Ex _ ⟨_, .store _ _ _, _, _, _, _⟩ _ _ _; first | refine e_store1 ?_ | refine e_storeA ?_ | (refine e_storeO ?_; intro _ _)) | (show Ex _ ⟨_, .call ⟨.builtin .append, _, _⟩, _, _, _, _⟩ _ _ _; (first | refine e_append ?_ | refine e_appendIn ?_); intro _ _ _)) | (show wpC _ _ _ _ _ _; first | refine wpC_seq ?_ | refine wpC_region ?_ | refine c_true ?_ | refine c_false ?_ | (refine c_b (fun _ => ?_) (fun _ => ?_) <;> (first | (exfalso; omega) | contradiction | skip)) | refine wpC_ret ?_ | refine wpC_skip ?_ | refine wpC_label ?_) | (show Then _ _ _ _ _ _ _; first | refine then_normal ?_ | refine then_ret ?_) | (show RetP _ _ _ _ _ _ _ _; first | refine r_0 ?_))
    refine q_drop (hK v B ?_)
    rw [filter_none hlt hgt]
    exact hO
set_option maxHeartbeats 4000000 in
set_option maxRecDepth 100000 in
theorem rcrash_spec (e : World) {d : Nat} {room fuse a : Int} {v : Value} {k : Nat} {down : Bool} {fs : List Rf} {B Pl F : Hp} {K : Value → Hp → Prop} (hO : FsO v fs B) (hP : PlOK Pl fs) (hl : fs.length ≤ 1024) (hy : ∀ f ∈ fs, f.syn ≤ f.bs.length) (ht : totA (fs.map Rf.ab) ≤ 140737488355328) (ha : a ≤ 9223372036854775807)
    (h1 : a < 0 → K (.int .i64 1) ((rblk d room v fuse k down ++ (B ++ Pl)) ++ F)) (h7 : 0 ≤ a → down = true → K (.int .i64 7) ((rblk d room v fuse k down ++ (B ++ Pl)) ++ F))
    (h0 : ∀ n : Nat, a = n → down = false → ∀ v' B' fs', FsO v' fs' B' → PlOK Pl fs' → fs'.map Rf.nm = fs.map Rf.nm → fs'.map Rf.ab = (fs.map Rf.ab).map (fell n) → K (.int .i64 0) ((rblk d room v' 0 k true ++ (B' ++ Pl)) ++ F)) :
    callsK Tryz.prog e 22 #[pv d, .int .i64 a] ((rblk d room v fuse k down ++ (B ++ Pl)) ++ F) K := by
  by_cases ha0 : a < 0
  · refine calls_body (N := 68) (args := [pv d, .int .i64 a]) Tryz.func22 rfl rfl rfl (by simp) ?_
    repeat' (first | (show wpO _ _ _ _ _ _ _; first | refine wpO_nil ?_ | (show wpO _ _ _ (⟨_, .binOp _ _ _ _ _, _, _, _, _⟩ :: _) _ _ _; first | refine s_tt ?_ | refine s_ff ?_ | refine s_rdp ?_ | (refine s_cmp (fun _ => ?_) (fun _ => ?_) <;> (first | (exfalso; omega) | contradiction | skip)) | (refine s_cb (fun _ => ?_) (fun _ => ?_) <;> (first | (exfalso; omega) | contradiction | skip))) | (show wpO _ _ _ (⟨_, .indexAddr _ _ _, _, _, _, _⟩ :: _) _ _ _; first | refine s_rdp ?_ | refine s_idx (fun _ _ _ _ _ _ _ => ?_)) | (show wpO _ _ _ (⟨_, .slice _ _ _ _ _, _, _, _, _⟩ :: _) _ _ _; first | refine s_rdp ?_ | refine s_sliceHiT (fun _ _ => ?_) | refine s_clipO (fun _ _ => ?_) | refine s_sliceHi (fun _ _ => ?_) | refine s_sliceLo (fun _ _ => ?_)) | refine s_rdp ?_ | refine s_rdm ?_ | refine s_exq ?_ | refine s_exm ?_) | (show Ex _ _ _ _ _; first | (show Ex _ ⟨_, .store _ _ _, _, _, _, _⟩ _ _ _; first | refine e_store1 ?_ | refine e_storeA ?_ | (refine e_storeO ?_; intro _ _))) | (show wpC _ _ _ _ _ _; first | refine wpC_seq ?_ | refine wpC_region ?_ | refine c_true ?_ | refine c_false ?_ | (refine c_b (fun _ => ?_) (fun _ => ?_) <;> (first | (exfalso; omega) | contradiction | skip)) | refine wpC_block ?_ | refine wpC_ret ?_ | refine wpC_skip ?_ | refine wpC_exit ?_ | refine wpC_label ?_ | (apply wpC_drawX (id := 9) ([]) [0, 1, 2, 3, 4, 5, 6, 7, 8, 9, 10, 11] rfl (by kernel_rfl); (case hpk => (repeat (first | exact Pcs.blk (by infer_instance) | exact Pcs.nil | (apply Pcs.cons; infer_instance) | apply Pcs.app)))) | (apply wpC_drawX (id := 10) ([]) [0, 1, 2, 3, 4, 5, 6, 7, 8, 9, 10, 11, 12, 13, 14] rfl (by kernel_rfl); (case hpk => (repeat (first | exact Pcs.blk (by infer_instance) | exact Pcs.nil | (apply Pcs.cons; infer_instance) | apply Pcs.app))))) | (show Then _ _ _ _ _ _ _; first | refine then_normal ?_ | refine then_ret ?_ | refine then_exit ?_) | (show InBlock _ _ _ _ _ _; first | refine inBlock_normal ?_ | refine inBlock_ret ?_ | refine inBlock_same ?_ | refine b_other ?_) | (show LoopPost _ _ _ _ _ _; first | refine loop_ret ?_ | refine loop_exit ?_) | (show wpD _ _ _ _ _ _ _ _; first | refine wpD_nil ?_ | refine d_rdp ?_ | refine d_rdm ?_ | refine d_tt ?_ | refine d_ff ?_ | (refine d_cmp (fun _ => ?_) (fun _ => ?_) <;> (first | (exfalso; omega) | contradiction | skip)) | (refine d_cb (fun _ => ?_) (fun _ => ?_) <;> (first | (exfalso; omega) | contradiction | skip)) | refine d_idx (fun _ _ _ _ _ _ _ => ?_) | refine d_sliceHiT (fun _ _ => ?_) | refine d_clipO (fun _ _ => ?_) | refine d_sliceHi (fun _ _ => ?_) | refine d_sliceLo (fun _ _ => ?_) | refine d_exs ?_ | refine d_exn ?_) | (show (_ ∨ Subs _ _) ∧ _; first | refine d_sub ?_ | refine d_cov ?_) | (show RetP _ _ _ _ _ _ _ _; first | refine r_1 ?_))
    exact q_drop (h1 ha0)
  obtain ⟨n, rfl⟩ := Int.eq_ofNat_of_zero_le (by omega : 0 ≤ a)
  cases down with
  | true =>
    refine calls_body (N := 68) (args := [pv d, .int .i64 (n : Int)]) Tryz.func22 rfl rfl rfl (by simp) ?_
    repeat' (first | (show wpO _ _ _ _ _ _ _; first | refine wpO_nil ?_ | (show wpO _ _ _ (⟨_, .binOp _ _ _ _ _, _, _, _, _⟩ :: _) _ _ _; first | refine s_tt ?_ | refine s_ff ?_ | refine s_rdp ?_ | (refine s_cmp (fun _ => ?_) (fun _ => ?_) <;> (first | (exfalso; omega) | contradiction | skip)) | (refine s_cb (fun _ => ?_) (fun _ => ?_) <;> (first | (exfalso; omega) | contradiction | skip))) | (show wpO _ _ _ (⟨_, .indexAddr _ _ _, _, _, _, _⟩ :: _) _ _ _; first | refine s_rdp ?_ | refine s_idx (fun _ _ _ _ _ _ _ => ?_)) | (show wpO _ _ _ (⟨_, .slice _ _ _ _ _, _, _, _, _⟩ :: _) _ _ _; first | refine s_rdp ?_ | refine s_sliceHiT (fun _ _ => ?_) | refine s_clipO (fun _ _ => ?_) | refine s_sliceHi (fun _ _ => ?_) | refine s_sliceLo (fun _ _ => ?_)) | refine s_rdp ?_ | refine s_rdm ?_ | refine s_exq ?_ | refine s_exm ?_) | (show Ex _ _ _ _ _; first | (show Ex _ ⟨_, .store _ _ _, _, _, _, _⟩ _ _ _; first | refine e_store1 ?_ | refine e_storeA ?_ | (refine e_storeO ?_; intro _ _))) | (show wpC _ _ _ _ _ _; first | refine wpC_seq ?_ | refine wpC_region ?_ | refine c_true ?_ | refine c_false ?_ | (refine c_b (fun _ => ?_) (fun _ => ?_) <;> (first | (exfalso; omega) | contradiction | skip)) | refine wpC_block ?_ | refine wpC_ret ?_ | refine wpC_skip ?_ | refine wpC_exit ?_ | refine wpC_label ?_ | (apply wpC_drawX (id := 9) ([]) [0, 1, 2, 3, 4, 5, 6, 7, 8, 9, 10, 11] rfl (by kernel_rfl); (case hpk => (repeat (first | exact Pcs.blk (by infer_instance) | exact Pcs.nil | (apply Pcs.cons; infer_instance) | apply Pcs.app)))) | (apply wpC_drawX (id := 10) ([]) [0, 1, 2, 3, 4, 5, 6, 7, 8, 9, 10, 11, 12, 13, 14] rfl (by kernel_rfl); (case hpk => (repeat (first | exact Pcs.blk (by infer_instance) | exact Pcs.nil | (apply Pcs.cons; infer_instance) | apply Pcs.app))))) | (show Then _ _ _ _ _ _ _; first | refine then_normal ?_ | refine then_ret ?_ | refine then_exit ?_) | (show InBlock _ _ _ _ _ _; first | refine inBlock_normal ?_ | refine inBlock_ret ?_ | refine inBlock_same ?_ | refine b_other ?_) | (show LoopPost _ _ _ _ _ _; first | refine loop_ret ?_ | refine loop_exit ?_) | (show wpD _ _ _ _ _ _ _ _; first | refine wpD_nil ?_ | refine d_rdp ?_ | refine d_rdm ?_ | refine d_tt ?_ | refine d_ff ?_ | (refine d_cmp (fun _ => ?_) (fun _ => ?_) <;> (first | (exfalso; omega) | contradiction | skip)) | (refine d_cb (fun _ => ?_) (fun _ => ?_) <;> (first | (exfalso; omega) | contradiction | skip)) | refine d_idx (fun _ _ _ _ _ _ _ => ?_) | refine d_sliceHiT (fun _ _ => ?_) | refine d_clipO (fun _ _ => ?_) | refine d_sliceHi (fun _ _ => ?_) | refine d_sliceLo (fun _ _ => ?_) | refine d_exs ?_ | refine d_exn ?_) | (show (_ ∨ Subs _ _) ∧ _; first | refine d_sub ?_ | refine d_cov ?_) | (show RetP _ _ _ _ _ _ _ _; first | refine r_1 ?_))
    exact q_drop (h7 (by omega) rfl)
  | false =>
    have hfin := h0 n rfl rfl
    clear h0 h1 h7
    rcases fsAll hO with rfl | ⟨g, cap, cur, rfl, rfl⟩
    · obtain ⟨va, vc, hva⟩ := SlO.val hO
      subst hva
      refine calls_body (N := 68) (args := [pv d, .int .i64 (n : Int)]) Tryz.func22 rfl rfl rfl (by simp) ?_
      repeat' (first | (show wpO _ _ _ _ _ _ _; first | refine wpO_nil ?_ | (show wpO _ _ _ (⟨_, .binOp _ _ _ _ _, _, _, _, _⟩ :: _) _ _ _; first | refine s_tt ?_ | refine s_ff ?_ | refine s_rdp ?_ | (refine s_cmp (fun _ => ?_) (fun _ => ?_) <;> (first | (exfalso; omega) | contradiction | skip)) | (refine s_cb (fun _ => ?_) (fun _ => ?_) <;> (first | (exfalso; omega) | contradiction | skip))) | (show wpO _ _ _ (⟨_, .indexAddr _ _ _, _, _, _, _⟩ :: _) _ _ _; first | refine s_rdp ?_ | refine s_idx (fun _ _ _ _ _ _ _ => ?_)) | (show wpO _ _ _ (⟨_, .slice _ _ _ _ _, _, _, _, _⟩ :: _) _ _ _; first | refine s_rdp ?_ | refine s_sliceHiT (fun _ _ => ?_) | refine s_clipO (fun _ _ => ?_) | refine s_sliceHi (fun _ _ => ?_) | refine s_sliceLo (fun _ _ => ?_)) | refine s_rdp ?_ | refine s_rdm ?_ | refine s_exq ?_ | refine s_exm ?_) | (show Ex _ _ _ _ _; first | (show Ex _ ⟨_, .store _ _ _, _, _, _, _⟩ _ _ _; first | refine e_store1 ?_ | refine e_storeA ?_ | (refine e_storeO ?_; intro _ _))) | (show wpC _ _ _ _ _ _; first | refine wpC_seq ?_ | refine wpC_region ?_ | refine c_true ?_ | refine c_false ?_ | (refine c_b (fun _ => ?_) (fun _ => ?_) <;> (first | (exfalso; omega) | contradiction | skip)) | refine wpC_block ?_ | refine wpC_ret ?_ | refine wpC_skip ?_ | refine wpC_exit ?_ | refine wpC_label ?_ | (apply wpC_drawX (id := 9) ([]) [0, 1, 2, 3, 4, 5, 6, 7, 8, 9, 10, 11] rfl (by kernel_rfl); (case hpk => (repeat (first | exact Pcs.blk (by infer_instance) | exact Pcs.nil | (apply Pcs.cons; infer_instance) | apply Pcs.app)))) | (apply wpC_drawX (id := 10) ([]) [0, 1, 2, 3, 4, 5, 6, 7, 8, 9, 10, 11, 12, 13, 14] rfl (by kernel_rfl); (case hpk => (repeat (first | exact Pcs.blk (by infer_instance) | exact Pcs.nil | (apply Pcs.cons; infer_instance) | apply Pcs.app))))) | (show Then _ _ _ _ _ _ _; first | refine then_normal ?_ | refine then_ret ?_ | refine then_exit ?_) | (show InBlock _ _ _ _ _ _; first | refine inBlock_normal ?_ | refine inBlock_ret ?_ | refine inBlock_same ?_ | refine b_other ?_) | (show LoopPost _ _ _ _ _ _; first | refine loop_ret ?_ | refine loop_exit ?_) | (show wpD _ _ _ _ _ _ _ _; first | refine wpD_nil ?_ | refine d_rdp ?_ | refine d_rdm ?_ | refine d_tt ?_ | refine d_ff ?_ | (refine d_cmp (fun _ => ?_) (fun _ => ?_) <;> (first | (exfalso; omega) | contradiction | skip)) | (refine d_cb (fun _ => ?_) (fun _ => ?_) <;> (first | (exfalso; omega) | contradiction | skip)) | refine d_idx (fun _ _ _ _ _ _ _ => ?_) | refine d_sliceHiT (fun _ _ => ?_) | refine d_clipO (fun _ _ => ?_) | refine d_sliceHi (fun _ _ => ?_) | refine d_sliceLo (fun _ _ => ?_) | refine d_exs ?_ | refine d_exn ?_) | (show (_ ∨ Subs _ _) ∧ _; first | refine d_sub ?_ | refine d_cov ?_) | (show RetP _ _ _ _ _ _ _ _; first | refine r_1 ?_))
      refine wpC_loopA (κ := Unit) [5, 6, 13, 14, 15, 16, 17, 18, 19, 20, 21, 22, 23, 24, 25, 26, 27, 28, 29, 30, 31, 32, 33, 34, 35, 36, 37, 38, 39, 40, 41, 42, 43, 44, 45, 46, 47, 48, 49, 50, 51, 52, 53, 54, 55, 56, 57, 58, 59, 60, 61] (fun _ => [(5, .int .i64 0)]) (fun _ => (rblk d room (.slice va ([] : List Rf).length vc) fuse k false ++ (B ++ Pl)) ++ F) (fun _ => True) (fun _ => 0) () trivial ⟨rfl, trivial⟩ q_drp ?_
      rintro _ ρx _
      repeat' (first | (show wpO _ _ _ _ _ _ _; first | refine wpO_nil ?_ | (show wpO _ _ _ (⟨_, .binOp _ _ _ _ _, _, _, _, _⟩ :: _) _ _ _; first | refine s_tt ?_ | refine s_ff ?_ | refine s_rdp ?_ | (refine s_cmp (fun _ => ?_) (fun _ => ?_) <;> (first | (exfalso; omega) | contradiction | skip)) | (refine s_cb (fun _ => ?_) (fun _ => ?_) <;> (first | (exfalso; omega) | contradiction | skip))) | (show wpO _ _ _ (⟨_, .indexAddr _ _ _, _, _, _, _⟩ :: _) _ _ _; first | refine s_rdp ?_ | refine s_idx (fun _ _ _ _ _ _ _ => ?_)) | (show wpO _ _ _ (⟨_, .slice _ _ _ _ _, _, _, _, _⟩ :: _) _ _ _; first | refine s_rdp ?_ | refine s_sliceHiT (fun _ _ => ?_) | refine s_clipO (fun _ _ => ?_) | refine s_sliceHi (fun _ _ => ?_) | refine s_sliceLo (fun _ _ => ?_)) | refine s_rdp ?_ | refine s_rdm ?_ | refine s_exq ?_ | refine s_exm ?_) | (show Ex _ _ _ _ _; first | (show Ex _ ⟨_, .store _ _ _, _, _, _, _⟩ _ _ _; first | refine e_store1 ?_ | refine e_storeA ?_ | (refine e_storeO ?_; intro _ _))) | (show wpC _ _ _ _ _ _; first | refine wpC_seq ?_ | refine wpC_region ?_ | refine c_true ?_ | refine c_false ?_ | (refine c_b (fun _ => ?_) (fun _ => ?_) <;> (first | (exfalso; omega) | contradiction | skip)) | refine wpC_block ?_ | refine wpC_ret ?_ | refine wpC_skip ?_ | refine wpC_exit ?_ | refine wpC_label ?_ | (apply wpC_drawX (id := 9) ([]) [0, 1, 2, 3, 4, 5, 6, 7, 8, 9, 10, 11] rfl (by kernel_rfl); (case hpk => (repeat (first | exact Pcs.blk (by infer_instance) | exact Pcs.nil | (apply Pcs.cons; infer_instance) | apply Pcs.app)))) | (apply wpC_drawX (id := 10) ([]) [0, 1, 2, 3, 4, 5, 6, 7, 8, 9, 10, 11, 12, 13, 14] rfl (by kernel_rfl); (case hpk => (repeat (first | exact Pcs.blk (by infer_instance) | exact Pcs.nil | (apply Pcs.cons; infer_instance) | apply Pcs.app))))) | (show Then _ _ _ _ _ _ _; first | refine then_normal ?_ | refine then_ret ?_ | refine then_exit ?_) | (show InBlock _ _ _ _ _ _; first | refine inBlock_normal ?_ | refine inBlock_ret ?_ | refine inBlock_same ?_ | refine b_other ?_) | (show LoopPost _ _ _ _ _ _; first | refine loop_ret ?_ | refine loop_exit ?_) | (show wpD _ _ _ _ _ _ _ _; first | refine wpD_nil ?_ | refine d_rdp ?_ | refine d_rdm ?_ | refine d_tt ?_ | refine d_ff ?_ | (refine d_cmp (fun _ => ?_) (fun _ => ?_) <;> (first | (exfalso; omega) | contradiction | skip)) | (refine d_cb (fun _ => ?_) (fun _ => ?_) <;> (first | (exfalso; omega) | contradiction | skip)) | refine d_idx (fun _ _ _ _ _ _ _ => ?_) | refine d_sliceHiT (fun _ _ => ?_) | refine d_clipO (fun _ _ => ?_) | refine d_sliceHi (fun _ _ => ?_) | refine d_sliceLo (fun _ _ => ?_) | refine d_exs ?_ | refine d_exn ?_) | (show (_ ∨ Subs _ _) ∧ _; first | refine d_sub ?_ | refine d_cov ?_) | (show RetP _ _ _ _ _ _ _ _; first | refine r_1 ?_))
      exact q_drop (hfin _ B [] hO hP rfl rfl)
    · refine calls_body (N := 68) (args := [pv d, .int .i64 (n : Int)]) Tryz.func22 rfl rfl rfl (by simp) ?_
      repeat' (first | (show wpO _ _ _ _ _ _ _; first | refine wpO_nil ?_ | (show wpO _ _ _ (⟨_, .binOp _ _ _ _ _, _, _, _, _⟩ :: _) _ _ _; first | refine s_tt ?_ | refine s_ff ?_ | refine s_rdp ?_ | (refine s_cmp (fun _ => ?_) (fun _ => ?_) <;> (first | (exfalso; omega) | contradiction | skip)) | (refine s_cb (fun _ => ?_) (fun _ => ?_) <;> (first | (exfalso; omega) | contradiction | skip))) | (show wpO _ _ _ (⟨_, .indexAddr _ _ _, _, _, _, _⟩ :: _) _ _ _; first | refine s_rdp ?_ | refine s_idx (fun _ _ _ _ _ _ _ => ?_)) | (show wpO _ _ _ (⟨_, .slice _ _ _ _ _, _, _, _, _⟩ :: _) _ _ _; first | refine s_rdp ?_ | refine s_sliceHiT (fun _ _ => ?_) | refine s_clipO (fun _ _ => ?_) | refine s_sliceHi (fun _ _ => ?_) | refine s_sliceLo (fun _ _ => ?_)) | refine s_rdp ?_ | refine s_rdm ?_ | refine s_exq ?_ | refine s_exm ?_) | (show Ex _ _ _ _ _; first | (show Ex _ ⟨_, .store _ _ _, _, _, _, _⟩ _ _ _; first | refine e_store1 ?_ | refine e_storeA ?_ | (refine e_storeO ?_; intro _ _))) | (show wpC _ _ _ _ _ _; first | refine wpC_seq ?_ | refine wpC_region ?_ | refine c_true ?_ | refine c_false ?_ | (refine c_b (fun _ => ?_) (fun _ => ?_) <;> (first | (exfalso; omega) | contradiction | skip)) | refine wpC_block ?_ | refine wpC_ret ?_ | refine wpC_skip ?_ | refine wpC_exit ?_ | refine wpC_label ?_ | (apply wpC_drawX (id := 9) ([]) [0, 1, 2, 3, 4, 5, 6, 7, 8, 9, 10, 11] rfl (by kernel_rfl); (case hpk => (repeat (first | exact Pcs.blk (by infer_instance) | exact Pcs.nil | (apply Pcs.cons; infer_instance) | apply Pcs.app)))) | (apply wpC_drawX (id := 10) ([]) [0, 1, 2, 3, 4, 5, 6, 7, 8, 9, 10, 11, 12, 13, 14] rfl (by kernel_rfl); (case hpk => (repeat (first | exact Pcs.blk (by infer_instance) | exact Pcs.nil | (apply Pcs.cons; infer_instance) | apply Pcs.app))))) | (show Then _ _ _ _ _ _ _; first | refine then_normal ?_ | refine then_ret ?_ | refine then_exit ?_) | (show InBlock _ _ _ _ _ _; first | refine inBlock_normal ?_ | refine inBlock_ret ?_ | refine inBlock_same ?_ | refine b_other ?_) | (show LoopPost _ _ _ _ _ _; first | refine loop_ret ?_ | refine loop_exit ?_) | (show wpD _ _ _ _ _ _ _ _; first | refine wpD_nil ?_ | refine d_rdp ?_ | refine d_rdm ?_ | refine d_tt ?_ | refine d_ff ?_ | (refine d_cmp (fun _ => ?_) (fun _ => ?_) <;> (first | (exfalso; omega) | contradiction | skip)) | (refine d_cb (fun _ => ?_) (fun _ => ?_) <;> (first | (exfalso; omega) | contradiction | skip)) | refine d_idx (fun _ _ _ _ _ _ _ => ?_) | refine d_sliceHiT (fun _ _ => ?_) | refine d_clipO (fun _ _ => ?_) | refine d_sliceHi (fun _ _ => ?_) | refine d_sliceLo (fun _ _ => ?_) | refine d_exs ?_ | refine d_exn ?_) | (show (_ ∨ Subs _ _) ∧ _; first | refine d_sub ?_ | refine d_cov ?_) | (show RetP _ _ _ _ _ _ _ _; first | refine r_1 ?_))
      refine wpC_loopA (κ := CrS) [5, 6, 13, 14, 15, 16, 17, 18, 19, 20, 21, 22, 23, 24, 25, 26, 27, 28, 29, 30, 31, 32, 33, 34, 35, 36, 37, 38, 39, 40, 41, 42, 43, 44, 45, 46, 47, 48, 49, 50, 51, 52, 53, 54, 55, 56, 57, 58, 59, 60, 61] (fun s => [(5, .int .i64 (s.i : Int))]) (fun s => (rblk d room (.slice (some ⟨g, 0, none⟩) fs.length cap) fuse k false ++ ([(g, .cells s.cur 62 (0, 0))] ++ Pl)) ++ F)
        (fun s => s.i ≤ fs.length ∧ s.fs.length = fs.length ∧ FsO (.slice (some ⟨g, 0, none⟩) fs.length cap) s.fs [(g, .cells s.cur 62 (0, 0))] ∧ PlOK Pl s.fs ∧ s.fs.map Rf.nm = fs.map Rf.nm ∧ s.fs.map Rf.ab = fallA n (fs.map Rf.ab) s.i) (fun s => fs.length - s.i) ⟨0, fs, cur⟩ ⟨Nat.zero_le _, rfl, hO, hP, rfl, by simp [fallA]⟩ ⟨rfl, trivial⟩ q_drp ?_
      clear hO hP
      rintro ⟨i, gs, cur⟩ ρx ⟨hi, hgl, hO, hP, hnm, hab⟩
      simp only at hi hgl hO hP hnm hab ⊢
      cases hr : fs[i]? with
      | none =>
        have hge : fs.length ≤ i := List.getElem?_eq_none_iff.1 hr
        repeat' (first | (show wpO _ _ _ _ _ _ _; first | refine wpO_nil ?_ | (show wpO _ _ _ (⟨_, .binOp _ _ _ _ _, _, _, _, _⟩ :: _) _ _ _; first | refine s_tt ?_ | refine s_ff ?_ | refine s_rdp ?_ | (refine s_cmp (fun _ => ?_) (fun _ => ?_) <;> (first | (exfalso; omega) | contradiction | skip)) | (refine s_cb (fun _ => ?_) (fun _ => ?_) <;> (first | (exfalso; omega) | contradiction | skip))) | (show wpO _ _ _ (⟨_, .indexAddr _ _ _, _, _, _, _⟩ :: _) _ _ _; first | refine s_rdp ?_ | refine s_idx (fun _ _ _ _ _ _ _ => ?_)) | (show wpO _ _ _ (⟨_, .slice _ _ _ _ _, _, _, _, _⟩ :: _) _ _ _; first | refine s_rdp ?_ | refine s_sliceHiT (fun _ _ => ?_) | refine s_clipO (fun _ _ => ?_) | refine s_sliceHi (fun _ _ => ?_) | refine s_sliceLo (fun _ _ => ?_)) | refine s_rdp ?_ | refine s_rdm ?_ | refine s_exq ?_ | refine s_exm ?_) | (show Ex _ _ _ _ _; first | (show Ex _ ⟨_, .store _ _ _, _, _, _, _⟩ _ _ _; first | refine e_store1 ?_ | refine e_storeA ?_ | (refine e_storeO ?_; intro _ _))) | (show wpC _ _ _ _ _ _; first | refine wpC_seq ?_ | refine wpC_region ?_ | refine c_true ?_ | refine c_false ?_ | (refine c_b (fun _ => ?_) (fun _ => ?_) <;> (first | (exfalso; omega) | contradiction | skip)) | refine wpC_block ?_ | refine wpC_ret ?_ | refine wpC_skip ?_ | refine wpC_exit ?_ | refine wpC_label ?_ | (apply wpC_drawX (id := 9) ([]) [0, 1, 2, 3, 4, 5, 6, 7, 8, 9, 10, 11] rfl (by kernel_rfl); (case hpk => (repeat (first | exact Pcs.blk (by infer_instance) | exact Pcs.nil | (apply Pcs.cons; infer_instance) | apply Pcs.app)))) | (apply wpC_drawX (id := 10) ([]) [0, 1, 2, 3, 4, 5, 6, 7, 8, 9, 10, 11, 12, 13, 14] rfl (by kernel_rfl); (case hpk => (repeat (first | exact Pcs.blk (by infer_instance) | exact Pcs.nil | (apply Pcs.cons; infer_instance) | apply Pcs.app))))) | (show Then _ _ _ _ _ _ _; first | refine then_normal ?_ | refine then_ret ?_ | refine then_exit ?_) | (show InBlock _ _ _ _ _ _; first | refine inBlock_normal ?_ | refine inBlock_ret ?_ | refine inBlock_same ?_ | refine b_other ?_) | (show LoopPost _ _ _ _ _ _; first | refine loop_ret ?_ | refine loop_exit ?_) | (show wpD _ _ _ _ _ _ _ _; first | refine wpD_nil ?_ | refine d_rdp ?_ | refine d_rdm ?_ | refine d_tt ?_ | refine d_ff ?_ | (refine d_cmp (fun _ => ?_) (fun _ => ?_) <;> (first | (exfalso; omega) | contradiction | skip)) | (refine d_cb (fun _ => ?_) (fun _ => ?_) <;> (first | (exfalso; omega) | contradiction | skip)) | refine d_idx (fun _ _ _ _ _ _ _ => ?_) | refine d_sliceHiT (fun _ _ => ?_) | refine d_clipO (fun _ _ => ?_) | refine d_sliceHi (fun _ _ => ?_) | refine d_sliceLo (fun _ _ => ?_) | refine d_exs ?_ | refine d_exn ?_) | (show (_ ∨ Subs _ _) ∧ _; first | refine d_sub ?_ | refine d_cov ?_) | (show RetP _ _ _ _ _ _ _ _; first | refine r_1 ?_))
        refine q_drop (hfin _ _ gs hO hP hnm ?_)
        rw [hab, fallA, List.take_of_length_le (by simpa using hge), List.drop_of_length_le (by simpa using hge), List.append_nil]
      | some f0 =>
        have hlt := (List.getElem?_eq_some_iff.1 hr).1
        obtain ⟨hset, hgi⟩ := fallA_step hab (a := f0.ab) (by simp [hr])
        obtain ⟨f, hf, hfab⟩ : ∃ f, gs[i]? = some f ∧ f.ab = f0.ab := by
          rw [List.getElem?_map, Option.map_eq_some_iff] at hgi
          exact hgi
        have hfb : f.bs = f0.bs := congrArg (fun a => a.2.1) hfab
        have hfs : f.syn = f0.syn := congrArg (fun a => a.2.2) hfab
        have hsy : f.syn ≤ f.bs.length := by rw [hfb, hfs]; exact hy f0 (List.mem_of_getElem? hr)
        have hbl : f.bs.length ≤ 140737488355328 := by
          rw [hfb]
          exact Nat.le_trans (totA_mem (a := f0.ab) (List.mem_map.2 ⟨f0, List.mem_of_getElem? hr, rfl⟩)) ht
        rw [← hgl] at hO hlt hl ⊢
        have hra := fsRowAt hO hf
        have hri : (gs.map Rf.cells)[i]? = some f.cells := by simp [hf]
        have hlr := rows3 (fs := gs)
        have hbf := hP f (List.mem_of_getElem? hf)
        have hkn : f.syn + n ≤ f.bs.length ∨ f.bs.length < f.syn + n := by omega
        repeat' (first | (refine d_sliceHi (fun _ _ => ?_)) | (show wpO _ _ _ _ _ _ _; first | refine wpO_nil ?_ | (show wpO _ _ _ (⟨_, .binOp _ _ _ _ _, _, _, _, _⟩ :: _) _ _ _; first | refine s_tt ?_ | refine s_ff ?_ | refine s_rdp ?_ | (refine s_cmp (fun _ => ?_) (fun _ => ?_) <;> (first | (exfalso; omega) | contradiction | skip)) | (refine s_cb (fun _ => ?_) (fun _ => ?_) <;> (first | (exfalso; omega) | contradiction | skip))) | (show wpO _ _ _ (⟨_, .indexAddr _ _ _, _, _, _, _⟩ :: _) _ _ _; first | refine s_rdp ?_ | refine s_idx (fun _ _ _ _ _ _ _ => ?_)) | (show wpO _ _ _ (⟨_, .slice _ _ _ _ _, _, _, _, _⟩ :: _) _ _ _; first | refine s_rdp ?_ | refine s_sliceHiT (fun _ _ => ?_) | refine s_clipO (fun _ _ => ?_) | refine s_sliceHi (fun _ _ => ?_) | refine s_sliceLo (fun _ _ => ?_)) | refine s_rdp ?_ | refine s_rdm ?_ | refine s_exq ?_ | refine s_exm ?_) | (show Ex _ _ _ _ _; first | (refine e_storeF ?_; intro _ _ _ _ _) | (show Ex _ ⟨_, .store _ _ _, _, _, _, _⟩ _ _ _; first | refine e_store1 ?_ | refine e_storeA ?_ | (refine e_storeO ?_; intro _ _))) | (show wpC _ _ _ _ _ _; first | refine wpC_seq ?_ | refine wpC_region ?_ | refine c_true ?_ | refine c_false ?_ | (refine c_b (fun _ => ?_) (fun _ => ?_) <;> (first | (exfalso; omega) | contradiction | skip)) | refine wpC_block ?_ | refine wpC_ret ?_ | refine wpC_skip ?_ | refine wpC_exit ?_ | refine wpC_label ?_ | (apply wpC_drawX (id := 9) ([]) [0, 1, 2, 3, 4, 5, 6, 7, 8, 9, 10, 11] rfl (by kernel_rfl); (case hpk => (repeat (first | exact Pcs.blk (by infer_instance) | exact Pcs.nil | (apply Pcs.cons; infer_instance) | apply Pcs.app)))) | (apply wpC_drawX (id := 10) ([]) [0, 1, 2, 3, 4, 5, 6, 7, 8, 9, 10, 11, 12, 13, 14] rfl (by kernel_rfl); (case hpk => (repeat (first | exact Pcs.blk (by infer_instance) | exact Pcs.nil | (apply Pcs.cons; infer_instance) | apply Pcs.app))))) | (show Then _ _ _ _ _ _ _; first | refine then_normal ?_ | refine then_ret ?_ | refine then_exit ?_) | (show InBlock _ _ _ _ _ _; first | refine inBlock_normal ?_ | refine inBlock_ret ?_ | refine inBlock_same ?_ | refine b_other ?_) | (show LoopPost _ _ _ _ _ _; first | refine loop_ret ?_ | refine loop_exit ?_) | (show wpD _ _ _ _ _ _ _ _; first | refine wpD_nil ?_ | refine d_rdp ?_ | refine d_rdm ?_ | refine d_tt ?_ | refine d_ff ?_ | (refine d_cmp (fun _ => ?_) (fun _ => ?_) <;> (first | (exfalso; omega) | contradiction | skip)) | (refine d_cb (fun _ => ?_) (fun _ => ?_) <;> (first | (exfalso; omega) | contradiction | skip)) | refine d_idx (fun _ _ _ _ _ _ _ => ?_) | refine d_sliceHiT (fun _ _ => ?_) | refine d_clipO (fun _ _ => ?_) | refine d_sliceHi (fun _ _ => ?_) | refine d_sliceLo (fun _ _ => ?_) | refine d_exs ?_ | refine d_exn ?_) | (show (_ ∨ Subs _ _) ∧ _; first | refine d_sub ?_ | refine d_cov ?_) | (show RetP _ _ _ _ _ _ _ _; first | refine r_1 ?_) | assumption | intro _)
        · rename_i hc1 hc2 v2 hv2 cur1 hS1 hra1 hl1 hri1 cur2 hS2 hra2 hl2 hri2
          have hk : f.syn + min n (f.bs.length - f.syn) = f.syn + n := by omega
          have htl : (f.bs.take (f.syn + n)).length = f.syn + n := by rw [List.length_take]; omega
          obtain ⟨va, vc, hva, _⟩ := id hv2
          rw [List.length_map] at hva
          subst hva
          rw [List.set_set] at hS2
          have hcell : (f.cells.set 1 (.slice va (f.bs.take (f.syn + n)).length vc)).set 2 (.int .i64 ((f.bs.take (f.syn + n)).length : Int)) = (⟨f.nm, va, vc, f.bs.take (f.syn + n), (f.bs.take (f.syn + n)).length⟩ : Rf).cells := rfl
          rw [hcell, fsSetI] at hS2
          refine lp_end ⟨i + 1, gs.set i ⟨f.nm, va, vc, f.bs.take (f.syn + n), (f.bs.take (f.syn + n)).length⟩, cur2⟩ (by simp only; omega) ⟨hlt, by simp [hgl], hS2.cast (by simp) rfl, fun x hx => ?_, ?_, ?_⟩
          · rcases List.mem_or_eq_of_mem_set hx with hx | rfl
            · exact hP x hx
            · exact hv2
          · exact (set_nm (f' := ⟨f.nm, va, vc, f.bs.take (f.syn + n), (f.bs.take (f.syn + n)).length⟩) hf rfl).trans hnm
          · show List.map Rf.ab _ = _
            rw [List.map_set, ← hset, ← hfab]
            congr 1
            show (f.nm, _, _) = (f.nm, _, _)
            rw [hk, htl]
        · rename_i hc1 hc2 cur1 hS1 hra1 hl1 hri1
          have hnl : f.syn + min n (f.bs.length - f.syn) = f.bs.length := by omega
          have hcell : f.cells.set 2 (.int .i64 (f.bs.length : Int)) = (⟨f.nm, f.a, f.c, f.bs, f.bs.length⟩ : Rf).cells := rfl
          rw [hcell, fsSetI] at hS1
          refine lp_end ⟨i + 1, gs.set i ⟨f.nm, f.a, f.c, f.bs, f.bs.length⟩, cur1⟩ (by simp only; omega) ⟨hlt, by simp [hgl], hS1.cast (by simp) rfl, fun x hx => ?_, ?_, ?_⟩
          · rcases List.mem_or_eq_of_mem_set hx with hx | rfl
            · exact hP x hx
            · exact hbf
          · exact (set_nm (f' := ⟨f.nm, f.a, f.c, f.bs, f.bs.length⟩) hf rfl).trans hnm
          · show List.map Rf.ab _ = _
            rw [List.map_set, ← hset, ← hfab]
            congr 1
            show (f.nm, _, _) = (f.nm, _, _)
            rw [hnl, List.take_of_length_le (Nat.le_refl _)]
end Go.Vl

namespace Go.Vl
open Go.Proofs
structure Rk where
  fs : List Rf
  v : Value
  B : Hp
  Pl : Hp
  fuse : Int
  keep : Nat
  down : Bool
abbrev Rk.hp (r : Rk) (d : Nat) (room : Int) : Hp := rblk d room r.v r.fuse r.keep r.down ++ (r.B ++ r.Pl)
abbrev Rk.ds (r : Rk) : DS := ⟨r.fs.map Rf.ab, r.fuse, r.keep, r.down⟩
structure Rk.ok (r : Rk) (room : Int) : Prop where
  o : FsO r.v r.fs r.B
  p : PlOK r.Pl r.fs
  srt : r.fs.Pairwise fun f g => ltN f.nm g.nm
  s : r.ds.ok room
  kb : (r.keep : Int) ≤ 9223372036854775807
set_option maxHeartbeats 4000000 in
set_option maxRecDepth 100000 in
theorem Rk.ok.len {r : Rk} {room : Int} (h : r.ok room) : r.fs.length ≤ 1024 := by have := h.s.len; simpa using this
set_option maxHeartbeats 4000000 in
set_option maxRecDepth 100000 in
theorem Rk.ok.syn {r : Rk} {room : Int} (h : r.ok room) : ∀ f ∈ r.fs, f.syn ≤ f.bs.length := fun f hf => h.s.syn f.ab (List.mem_map.2 ⟨f, hf, rfl⟩)
set_option maxHeartbeats 4000000 in
set_option maxRecDepth 100000 in
theorem Rk.fin {d : Nat} {room : Int} {R : Int × DS} {K : Value → Hp → Prop} (Z : Hp → Hp) (hK : ∀ r' : Rk, r'.ok room → r'.ds.F R.2 → K (.int .i64 R.1) (Z (r'.hp d room))) (hR : R.2.ok room) {fs : List Rf} {v : Value} {B Pl : Hp} {fuse : Int} {keep : Nat} {down : Bool} (hO : FsO v fs B) (hP : PlOK Pl fs) (hs : fs.Pairwise fun f g => ltN f.nm g.nm) (hkb : (keep : Int) ≤ 9223372036854775807) {q : Int} {s' : DS} (he : R = (q, s')) (hE : DS.F ⟨fs.map Rf.ab, fuse, keep, down⟩ s') :
    K (.int .i64 q) (Z (rblk d room v fuse keep down ++ (B ++ Pl))) := by
  subst he
  exact hK ⟨fs, v, B, Pl, fuse, keep, down⟩ ⟨hO, hP, hs, hR.F hE.symm, hkb⟩ hE
set_option maxHeartbeats 4000000 in
set_option maxRecDepth 100000 in
theorem hasR {fs : List Rf} {n : ByteArray} : hasA (fs.map Rf.ab) n ↔ ∃ f ∈ fs, f.nm = n := by
  unfold hasA
  constructor
  · rintro ⟨a, ha, he⟩
    obtain ⟨f, hf, rfl⟩ := List.mem_map.1 ha
    exact ⟨f, hf, he⟩
  · rintro ⟨f, hf, he⟩
    exact ⟨f.ab, List.mem_map.2 ⟨f, hf, rfl⟩, he⟩
set_option maxHeartbeats 4000000 in
set_option maxRecDepth 100000 in
theorem hasR_mid {l1 l2 : List Rf} {f : Rf} {n : ByteArray} (h : f.nm = n) : hasA ((l1 ++ f :: l2).map Rf.ab) n := hasR.2 ⟨f, by simp, h⟩
set_option maxHeartbeats 4000000 in
set_option maxRecDepth 100000 in
theorem hasR_none {l1 l2 : List Rf} {n : ByteArray} (h1 : ∀ g ∈ l1, ltN g.nm n) (h2 : ∀ g ∈ l2, ltN n g.nm) : ¬ hasA ((l1 ++ l2).map Rf.ab) n := fun h => by
  obtain ⟨f, hf, he⟩ := hasR.1 h
  rcases List.mem_append.1 hf with hf | hf
  · exact ltN_irrefl n (by have := h1 f hf; rwa [he] at this)
  · exact ltN_irrefl n (by have := h2 f hf; rwa [he] at this)
set_option maxHeartbeats 4000000 in
set_option maxRecDepth 100000 in
theorem nm_sorted {fs gs : List Rf} (h : fs.Pairwise fun f g => ltN f.nm g.nm) (hn : gs.map Rf.nm = fs.map Rf.nm) : gs.Pairwise fun f g => ltN f.nm g.nm := by
  rw [← List.pairwise_map (f := Rf.nm) (R := ltN)] at h ⊢
  rw [hn]
  exact h
set_option maxHeartbeats 4000000 in
set_option maxRecDepth 100000 in
theorem append_down {room : Int} {s : DS} {n : ByteArray} {bs : List UInt8} (h : s.down = true) : s.append room n bs = (7, s) := if_pos h
set_option maxHeartbeats 4000000 in
set_option maxRecDepth 100000 in
theorem append_name {room : Int} {s : DS} {n : ByteArray} {bs : List UInt8} (h : s.down = false) (h2 : ¬ okN n) : s.append room n bs = (20, s) := by
  unfold DS.append
  rw [if_neg (by simp [h]), if_pos h2]
set_option maxHeartbeats 4000000 in
set_option maxRecDepth 100000 in
theorem append_many {room : Int} {s : DS} {n : ByteArray} {bs : List UInt8} (h : s.down = false) (h2 : okN n) (h3 : ¬ hasA s.L n) (h4 : 1024 ≤ s.L.length) : s.append room n bs = (3, s) := by
  unfold DS.append
  rw [if_neg (by simp [h]), if_neg (by simpa using h2), if_pos ⟨h3, h4⟩]
set_option maxHeartbeats 4000000 in
set_option maxRecDepth 100000 in
theorem append_big {room : Int} {s : DS} {n : ByteArray} {bs : List UInt8} (h : s.down = false) (h2 : okN n) (h3 : hasA s.L n ∨ s.L.length < 1024) (h4 : room < (bs.length : Int) + totA s.L) : s.append room n bs = (6, s) := by
  unfold DS.append
  rw [if_neg (by simp [h]), if_neg (by simpa using h2), if_neg (fun h5 => h3.elim h5.1 (fun h6 => by have := h5.2; omega)), if_pos h4]
set_option maxHeartbeats 4000000 in
set_option maxRecDepth 100000 in
theorem append_good {room : Int} {s : DS} {n : ByteArray} {bs : List UInt8} (h : s.down = false) (h2 : okN n) (h3 : hasA s.L n ∨ s.L.length < 1024) (h4 : (bs.length : Int) + totA s.L ≤ room) : s.append room n bs = (⟨appd s.L n bs, s.left, s.keep, s.down⟩ : DS).chg (appd s.L n bs) := by
  unfold DS.append
  rw [if_neg (by simp [h]), if_neg (by simpa using h2), if_neg (fun h5 => h3.elim h5.1 (fun h6 => by have := h5.2; omega)), if_neg (by omega)]
set_option maxHeartbeats 4000000 in
set_option maxRecDepth 100000 in
theorem chg_boom {s : DS} {L : List Ab} (h : s.left = 1) : s.chg L = (7, s.boom s.keep) := if_pos h
set_option maxHeartbeats 4000000 in
set_option maxRecDepth 100000 in
theorem chg_0 {s : DS} {L : List Ab} (h : s.left = 0) : s.chg L = (0, ⟨L, 0, s.keep, s.down⟩) := by unfold DS.chg; rw [if_neg (by omega), if_pos h]
set_option maxHeartbeats 4000000 in
set_option maxRecDepth 100000 in
theorem chg_2 {s : DS} {L : List Ab} (h : s.left ≠ 0) (h1 : s.left ≠ 1) : s.chg L = (0, ⟨L, s.left - 1, s.keep, s.down⟩) := by unfold DS.chg; rw [if_neg h1, if_neg h]
attribute [local irreducible] wpC wpO wpD Ex Rd callsK RetP Drop valK
set_option maxHeartbeats 4000000 in
set_option maxRecDepth 100000 in
theorem looks1 (e : World) {d b : Nat} {room fuse : Int} {v : Value} {k : Nat} {down : Bool} {s : ByteArray} {F : Hp} {K : Value → Hp → Prop}
    (h7 : down = true → K (.int .i64 7) ((rblk d room v fuse k down ++ [(b, cellsO [.string s] 9)]) ++ F)) (h20 : down = false → ¬ okN s → K (.int .i64 20) ((rblk d room v fuse k down ++ [(b, cellsO [.string s] 9)]) ++ F))
    (h0 : down = false → okN s → K (.int .i64 0) ((rblk d room v fuse k down ++ [(b, cellsO [.string s] 9)]) ++ F)) :
    callsK Tryz.prog e 55 #[pv d, .slice (some ⟨b, 0, none⟩) 1 1] ((rblk d room v fuse k down ++ [(b, cellsO [.string s] 9)]) ++ F) K :=
  looks_spec e (inSl_strs b [s] 9) (by simp) h7 (fun h h' => h20 h (by simpa using h')) (fun h h' => h0 h (by simpa using h'))
set_option maxHeartbeats 4000000 in
set_option maxRecDepth 100000 in
theorem rappend_D (e : World) {s : ByteArray} {bs : List UInt8} {vb : Value} {Fn F : Hp} {d : Nat} {x : Rk} {room : Int} {K : Value → Hp → Prop} (hx : x.ok room) (hr : room ≤ 9223372036854775807) (hr0 : 0 ≤ room) (hS : InSl Fn 1 (bs.map byC) vb) (hcap : (bs.length : Int) + totA (x.fs.map Rf.ab) ≤ room → bs.length + totA (x.fs.map Rf.ab) ≤ 140737488355328)
    (hK : ∀ r' : Rk, r'.ok room → r'.ds.F (x.ds.append room s bs).2 → K (.int .i64 (x.ds.append room s bs).1) ((r'.hp d room ++ Fn) ++ F)) :
    callsK Tryz.prog e 26 #[pv d, .string s, vb] ((x.hp d room ++ Fn) ++ F) K := by
  have hR := hx.s.append s bs
  obtain ⟨hO, hP, hs, hds, hk⟩ := hx
  obtain ⟨fs, v, B, Pl, fuse, k, down⟩ := x
  simp only at hO hP hs hcap hk hK hR ⊢
  have hl : fs.length ≤ 1024 := by have := hds.len; simpa using this
  have ht := hds.tot
  have hf0 := hds.l0
  have hf1 := hds.l1
  have hsy : ∀ f ∈ fs, f.syn ≤ f.bs.length := fun f hf => hds.syn f.ab (List.mem_map.2 ⟨f, hf, rfl⟩)
  simp only at ht hf0 hf1
  have ht2 : totA (fs.map Rf.ab) ≤ 9223372036854775807 := by omega
  refine calls_body (N := 57) (args := [pv d, .string s, vb]) Tryz.func26 rfl rfl rfl (by simp) ?_
  repeat' ((fail_if_success (show wpO _ _ _ (⟨_, .call ⟨.value (.func 58), _, _⟩, _, _, _, _⟩ :: _) _ _ _)); first | (show wpO _ _ _ _ _ _ _; first | refine wpO_nil ?_ | (show wpO _ _ _ (⟨_, .binOp _ _ _ _ _, _, _, _, _⟩ :: _) _ _ _; first | refine s_tt ?_ | refine s_ff ?_ | refine s_rdp ?_ | (refine s_cmp (fun _ => ?_) (fun _ => ?_) <;> (first | (exfalso; omega) | contradiction | skip)) | (refine s_cb (fun _ => ?_) (fun _ => ?_) <;> (first | (exfalso; omega) | contradiction | skip)) | refine s_sks ?_ | (refine s_g (fun _ => ?_) (fun _ => ?_) <;> (first | (exfalso; omega) | contradiction | skip))) | (show wpO _ _ _ (⟨_, .pick _ _ _, _, _, _, _⟩ :: _) _ _ _; first | refine s_rdp ?_ | (refine s_p (fun _ => ?_) (fun _ => ?_) <;> (first | (exfalso; omega) | contradiction | skip)) | refine s_sks ?_ | (refine s_g (fun _ => ?_) (fun _ => ?_) <;> (first | (exfalso; omega) | contradiction | skip))) | refine s_rdp ?_ | refine s_rdm ?_ | refine s_exq ?_ | refine s_exm ?_ | refine s_sks ?_ | refine s_skn ?_ | (refine s_g (fun _ => ?_) (fun _ => ?_) <;> (first | (exfalso; omega) | contradiction | skip))) | (show Ex _ _ _ _ _; first | (show Ex _ ⟨_, .call ⟨.value (.func _), _, _⟩, _, _, _, _⟩ _ _ _; refine e_call ?_; first | (apply p_pcs; apply looks1 _; (try case hS => assumption); (case hpcs => (repeat (first | exact Pcs.blk (by infer_instance) | exact Pcs.nil | (apply Pcs.cons; infer_instance) | apply Pcs.app)))) | (apply p_pcs; apply find_spec _ hO hl hs; (try case hS => assumption); (case hpcs => (repeat (first | exact Pcs.blk (by infer_instance) | exact Pcs.nil | (apply Pcs.cons; infer_instance) | apply Pcs.app)))) | (apply p_pcs; apply rused_spec _ hO ht2 hl; (try case hS => assumption); (case hpcs => (repeat (first | exact Pcs.blk (by infer_instance) | exact Pcs.nil | (apply Pcs.cons; infer_instance) | apply Pcs.app)))) | (apply p_pcs; apply blows_spec _ hf0 hf1; (try case hS => assumption); (case hpcs => (repeat (first | exact Pcs.blk (by infer_instance) | exact Pcs.nil | (apply Pcs.cons; infer_instance) | apply Pcs.app))))) | (show Ex _ ⟨_, .buildSlice _ _ _, _, _, _, _⟩ _ _ _; first | (refine e_buildSlice ?_; intro _) | (refine e_buildNil ?_; intro _ _ _))) | (show wpC _ _ _ _ _ _; first | refine wpC_seq ?_ | refine wpC_region ?_ | refine c_true ?_ | refine c_false ?_ | (refine c_b (fun _ => ?_) (fun _ => ?_) <;> (first | (exfalso; omega) | contradiction | skip)) | refine wpC_ret ?_ | refine wpC_skip ?_ | refine wpC_label ?_ | (apply wpC_drawX (id := 7) ([]) [0, 1, 2, 3, 4, 5, 6, 7, 8, 9] rfl (by kernel_rfl); (case hpk => (repeat (first | exact Pcs.blk (by infer_instance) | exact Pcs.nil | (apply Pcs.cons; infer_instance) | apply Pcs.app))))) | (show Then _ _ _ _ _ _ _; first | refine then_normal ?_ | refine then_ret ?_) | (show wpD _ _ _ _ _ _ _ _; first | refine wpD_nil ?_ | refine d_rdp ?_ | refine d_rdm ?_ | refine d_sks ?_ | refine d_tt ?_ | refine d_ff ?_ | (refine d_cmp (fun _ => ?_) (fun _ => ?_) <;> (first | (exfalso; omega) | contradiction | skip)) | (refine d_cb (fun _ => ?_) (fun _ => ?_) <;> (first | (exfalso; omega) | contradiction | skip)) | refine d_exs ?_ | refine d_exn ?_ | (refine d_p (fun _ => ?_) (fun _ => ?_) <;> (first | (exfalso; omega) | contradiction | skip)) | (refine d_g (fun _ => ?_) (fun _ => ?_) <;> (first | (exfalso; omega) | contradiction | skip))) | (show (_ ∨ Subs _ _) ∧ _; first | refine d_sub ?_ | refine d_cov ?_) | (show RetP _ _ _ _ _ _ _ _; first | refine r_1 ?_) | assumption | intro _)
  · exact q_drop (Rk.fin (fun H => (H ++ Fn) ++ F) hK hR hO hP hs hk (append_down ‹_›) (.rfl _))
  · exact q_drop (Rk.fin (fun H => (H ++ Fn) ++ F) hK hR hO hP hs hk (append_name ‹_› ‹_›) (.rfl _))
  · rename_i hd hn l1 f l2 hfs hnm hc
    exact q_drop (Rk.fin (fun H => (H ++ Fn) ++ F) hK hR hO hP hs hk (append_big hd hn (.inl (by rw [hfs]; exact hasR_mid hnm)) (by show room < (bs.length : Int) + totA (fs.map Rf.ab); omega)) (.rfl _))
  · rename_i hd hn l1 f l2 hfs hnm hc hf
    have hhas : hasA (fs.map Rf.ab) s ∨ (fs.map Rf.ab).length < 1024 := .inl (by rw [hfs]; exact hasR_mid hnm)
    have hfit : (bs.length : Int) + totA (fs.map Rf.ab) ≤ room := by omega
    have hcp := hcap hfit
    repeat' (first | (show wpO _ _ _ _ _ _ _; first | refine wpO_nil ?_ | (show wpO _ _ _ (⟨_, .binOp _ _ _ _ _, _, _, _, _⟩ :: _) _ _ _; first | refine s_tt ?_ | refine s_ff ?_ | refine s_rdp ?_ | (refine s_cmp (fun _ => ?_) (fun _ => ?_) <;> (first | (exfalso; omega) | contradiction | skip)) | (refine s_cb (fun _ => ?_) (fun _ => ?_) <;> (first | (exfalso; omega) | contradiction | skip)) | refine s_sks ?_ | (refine s_g (fun _ => ?_) (fun _ => ?_) <;> (first | (exfalso; omega) | contradiction | skip))) | (show wpO _ _ _ (⟨_, .pick _ _ _, _, _, _, _⟩ :: _) _ _ _; first | refine s_rdp ?_ | (refine s_p (fun _ => ?_) (fun _ => ?_) <;> (first | (exfalso; omega) | contradiction | skip)) | refine s_sks ?_ | (refine s_g (fun _ => ?_) (fun _ => ?_) <;> (first | (exfalso; omega) | contradiction | skip))) | refine s_rdp ?_ | refine s_rdm ?_ | refine s_exq ?_ | refine s_exm ?_ | refine s_sks ?_ | refine s_skn ?_ | (refine s_g (fun _ => ?_) (fun _ => ?_) <;> (first | (exfalso; omega) | contradiction | skip))) | (show Ex _ _ _ _ _; first | (show Ex _ ⟨_, .call ⟨.value (.func _), _, _⟩, _, _, _, _⟩ _ _ _; refine e_call ?_; first | (apply p_pcs; apply rput_spec _ hO hP hl hs hS hcp; (try case hS => assumption); (case hpcs => (repeat (first | exact Pcs.blk (by infer_instance) | exact Pcs.nil | (apply Pcs.cons; infer_instance) | apply Pcs.app))))) | (show Ex _ ⟨_, .buildSlice _ _ _, _, _, _, _⟩ _ _ _; first | (refine e_buildSlice ?_; intro _) | (refine e_buildNil ?_; intro _ _ _))) | (show wpC _ _ _ _ _ _; first | refine wpC_seq ?_ | refine wpC_region ?_ | refine c_true ?_ | refine c_false ?_ | (refine c_b (fun _ => ?_) (fun _ => ?_) <;> (first | (exfalso; omega) | contradiction | skip)) | refine wpC_ret ?_ | refine wpC_skip ?_ | refine wpC_label ?_ | (apply wpC_drawX (id := 7) ([]) [0, 1, 2, 3, 4, 5, 6, 7, 8, 9] rfl (by kernel_rfl); (case hpk => (repeat (first | exact Pcs.blk (by infer_instance) | exact Pcs.nil | (apply Pcs.cons; infer_instance) | apply Pcs.app))))) | (show Then _ _ _ _ _ _ _; first | refine then_normal ?_ | refine then_ret ?_) | (show wpD _ _ _ _ _ _ _ _; first | refine wpD_nil ?_ | refine d_rdp ?_ | refine d_rdm ?_ | refine d_sks ?_ | refine d_tt ?_ | refine d_ff ?_ | (refine d_cmp (fun _ => ?_) (fun _ => ?_) <;> (first | (exfalso; omega) | contradiction | skip)) | (refine d_cb (fun _ => ?_) (fun _ => ?_) <;> (first | (exfalso; omega) | contradiction | skip)) | refine d_exs ?_ | refine d_exn ?_ | (refine d_p (fun _ => ?_) (fun _ => ?_) <;> (first | (exfalso; omega) | contradiction | skip)) | (refine d_g (fun _ => ?_) (fun _ => ?_) <;> (first | (exfalso; omega) | contradiction | skip))) | (show (_ ∨ Subs _ _) ∧ _; first | refine d_sub ?_ | refine d_cov ?_) | (show RetP _ _ _ _ _ _ _ _; first | refine r_1 ?_) | assumption | intro _)
    rename_i v' B' Pl' fs' hO' hP' hs' hab
    exact q_drop (Rk.fin (fun H => (H ++ Fn) ++ F) hK hR hO' hP' hs' hk (s' := ⟨appd (fs.map Rf.ab) s bs, 0, k, down⟩) (by rw [append_good hd hn hhas hfit, chg_0 hf]) ⟨hab, hf, .inr rfl, rfl⟩)
  · rename_i hd hn l1 f l2 hfs hnm hc hf
    have hhas : hasA (fs.map Rf.ab) s ∨ (fs.map Rf.ab).length < 1024 := .inl (by rw [hfs]; exact hasR_mid hnm)
    have hfit : (bs.length : Int) + totA (fs.map Rf.ab) ≤ room := by omega
    have hcp := hcap hfit
    have hsyA : ∀ fs' : List Rf, (fs'.map Rf.ab).Perm (appd (fs.map Rf.ab) s bs) → (∀ f ∈ fs', f.syn ≤ f.bs.length) ∧ totA (fs'.map Rf.ab) ≤ 140737488355328 ∧ fs'.length ≤ 1024 := fun fs' hp => by
      refine ⟨fun f hf => appd_syn (n := s) (bs := bs) hds.syn f.ab (hp.mem_iff.1 (List.mem_map.2 ⟨f, hf, rfl⟩)), ?_, ?_⟩
      · rw [totA_perm hp, totA_appd]
        omega
      · have h1 := hp.length_eq
        rw [appd_len, List.length_map, List.length_map] at h1
        rw [h1]
        split
        · exact hl
        · rename_i hno
          have := hhas.resolve_left hno
          simp only [List.length_map] at this
          omega
    repeat' ((fail_if_success (show wpO _ _ _ (⟨_, .call ⟨.value (.func 22), _, _⟩, _, _, _, _⟩ :: _) _ _ _)); first | (show wpO _ _ _ _ _ _ _; first | refine wpO_nil ?_ | (show wpO _ _ _ (⟨_, .binOp _ _ _ _ _, _, _, _, _⟩ :: _) _ _ _; first | refine s_tt ?_ | refine s_ff ?_ | refine s_rdp ?_ | (refine s_cmp (fun _ => ?_) (fun _ => ?_) <;> (first | (exfalso; omega) | contradiction | skip)) | (refine s_cb (fun _ => ?_) (fun _ => ?_) <;> (first | (exfalso; omega) | contradiction | skip)) | refine s_sks ?_ | (refine s_g (fun _ => ?_) (fun _ => ?_) <;> (first | (exfalso; omega) | contradiction | skip))) | (show wpO _ _ _ (⟨_, .pick _ _ _, _, _, _, _⟩ :: _) _ _ _; first | refine s_rdp ?_ | (refine s_p (fun _ => ?_) (fun _ => ?_) <;> (first | (exfalso; omega) | contradiction | skip)) | refine s_sks ?_ | (refine s_g (fun _ => ?_) (fun _ => ?_) <;> (first | (exfalso; omega) | contradiction | skip))) | refine s_rdp ?_ | refine s_rdm ?_ | refine s_exq ?_ | refine s_exm ?_ | refine s_sks ?_ | refine s_skn ?_ | (refine s_g (fun _ => ?_) (fun _ => ?_) <;> (first | (exfalso; omega) | contradiction | skip))) | (show Ex _ _ _ _ _; first | (show Ex _ ⟨_, .call ⟨.value (.func _), _, _⟩, _, _, _, _⟩ _ _ _; refine e_call ?_; first | (apply p_pcs; apply rput_spec _ hO hP hl hs hS hcp; (try case hS => assumption); (case hpcs => (repeat (first | exact Pcs.blk (by infer_instance) | exact Pcs.nil | (apply Pcs.cons; infer_instance) | apply Pcs.app))))) | (show Ex _ ⟨_, .buildSlice _ _ _, _, _, _, _⟩ _ _ _; first | (refine e_buildSlice ?_; intro _) | (refine e_buildNil ?_; intro _ _ _))) | (show wpC _ _ _ _ _ _; first | refine wpC_seq ?_ | refine wpC_region ?_ | refine c_true ?_ | refine c_false ?_ | (refine c_b (fun _ => ?_) (fun _ => ?_) <;> (first | (exfalso; omega) | contradiction | skip)) | refine wpC_ret ?_ | refine wpC_skip ?_ | refine wpC_label ?_ | (apply wpC_drawX (id := 7) ([]) [0, 1, 2, 3, 4, 5, 6, 7, 8, 9] rfl (by kernel_rfl); (case hpk => (repeat (first | exact Pcs.blk (by infer_instance) | exact Pcs.nil | (apply Pcs.cons; infer_instance) | apply Pcs.app))))) | (show Then _ _ _ _ _ _ _; first | refine then_normal ?_ | refine then_ret ?_) | (show wpD _ _ _ _ _ _ _ _; first | refine wpD_nil ?_ | refine d_rdp ?_ | refine d_rdm ?_ | refine d_sks ?_ | refine d_tt ?_ | refine d_ff ?_ | (refine d_cmp (fun _ => ?_) (fun _ => ?_) <;> (first | (exfalso; omega) | contradiction | skip)) | (refine d_cb (fun _ => ?_) (fun _ => ?_) <;> (first | (exfalso; omega) | contradiction | skip)) | refine d_exs ?_ | refine d_exn ?_ | (refine d_p (fun _ => ?_) (fun _ => ?_) <;> (first | (exfalso; omega) | contradiction | skip)) | (refine d_g (fun _ => ?_) (fun _ => ?_) <;> (first | (exfalso; omega) | contradiction | skip))) | (show (_ ∨ Subs _ _) ∧ _; first | refine d_sub ?_ | refine d_cov ?_) | (show RetP _ _ _ _ _ _ _ _; first | refine r_1 ?_) | assumption | intro _)
    rename_i v' B' Pl' fs' hO' hP' hs' hab
    obtain ⟨g1, g2, g3⟩ := hsyA fs' hab
    repeat' (first | (show wpO _ _ _ _ _ _ _; first | refine wpO_nil ?_ | (show wpO _ _ _ (⟨_, .binOp _ _ _ _ _, _, _, _, _⟩ :: _) _ _ _; first | refine s_tt ?_ | refine s_ff ?_ | refine s_rdp ?_ | (refine s_cmp (fun _ => ?_) (fun _ => ?_) <;> (first | (exfalso; omega) | contradiction | skip)) | (refine s_cb (fun _ => ?_) (fun _ => ?_) <;> (first | (exfalso; omega) | contradiction | skip)) | refine s_sks ?_ | (refine s_g (fun _ => ?_) (fun _ => ?_) <;> (first | (exfalso; omega) | contradiction | skip))) | (show wpO _ _ _ (⟨_, .pick _ _ _, _, _, _, _⟩ :: _) _ _ _; first | refine s_rdp ?_ | (refine s_p (fun _ => ?_) (fun _ => ?_) <;> (first | (exfalso; omega) | contradiction | skip)) | refine s_sks ?_ | (refine s_g (fun _ => ?_) (fun _ => ?_) <;> (first | (exfalso; omega) | contradiction | skip))) | refine s_rdp ?_ | refine s_rdm ?_ | refine s_exq ?_ | refine s_exm ?_ | refine s_sks ?_ | refine s_skn ?_ | (refine s_g (fun _ => ?_) (fun _ => ?_) <;> (first | (exfalso; omega) | contradiction | skip))) | (show Ex _ _ _ _ _; first | (show Ex _ ⟨_, .call ⟨.value (.func _), _, _⟩, _, _, _, _⟩ _ _ _; refine e_call ?_; first | (apply p_pcs; apply rcrash_spec _ hO' hP' g3 g1 g2 hk; (try case hS => assumption); (case hpcs => (repeat (first | exact Pcs.blk (by infer_instance) | exact Pcs.nil | (apply Pcs.cons; infer_instance) | apply Pcs.app))))) | (show Ex _ ⟨_, .buildSlice _ _ _, _, _, _, _⟩ _ _ _; first | (refine e_buildSlice ?_; intro _) | (refine e_buildNil ?_; intro _ _ _))) | (show wpC _ _ _ _ _ _; first | refine wpC_seq ?_ | refine wpC_region ?_ | refine c_true ?_ | refine c_false ?_ | (refine c_b (fun _ => ?_) (fun _ => ?_) <;> (first | (exfalso; omega) | contradiction | skip)) | refine wpC_ret ?_ | refine wpC_skip ?_ | refine wpC_label ?_ | (apply wpC_drawX (id := 7) ([]) [0, 1, 2, 3, 4, 5, 6, 7, 8, 9] rfl (by kernel_rfl); (case hpk => (repeat (first | exact Pcs.blk (by infer_instance) | exact Pcs.nil | (apply Pcs.cons; infer_instance) | apply Pcs.app))))) | (show Then _ _ _ _ _ _ _; first | refine then_normal ?_ | refine then_ret ?_) | (show wpD _ _ _ _ _ _ _ _; first | refine wpD_nil ?_ | refine d_rdp ?_ | refine d_rdm ?_ | refine d_sks ?_ | refine d_tt ?_ | refine d_ff ?_ | (refine d_cmp (fun _ => ?_) (fun _ => ?_) <;> (first | (exfalso; omega) | contradiction | skip)) | (refine d_cb (fun _ => ?_) (fun _ => ?_) <;> (first | (exfalso; omega) | contradiction | skip)) | refine d_exs ?_ | refine d_exn ?_ | (refine d_p (fun _ => ?_) (fun _ => ?_) <;> (first | (exfalso; omega) | contradiction | skip)) | (refine d_g (fun _ => ?_) (fun _ => ?_) <;> (first | (exfalso; omega) | contradiction | skip))) | (show (_ ∨ Subs _ _) ∧ _; first | refine d_sub ?_ | refine d_cov ?_) | (show RetP _ _ _ _ _ _ _ _; first | refine r_1 ?_) | assumption | intro _)
    · omega
    · exact absurd (hd ▸ ‹_ = true› : false = true) (by simp)
    · rename_i n hnn _ v2 B2 fs2 hO2 hP2 hnm2 hab2
      obtain rfl : k = n := by omega
      exact q_drop (Rk.fin (fun H => (H ++ Fn) ++ F) hK hR hO2 hP2 (nm_sorted hs' hnm2) hk (s' := ⟨(appd (fs.map Rf.ab) s bs).map (fell k), 0, 0, true⟩) (by rw [append_good hd hn hhas hfit, chg_boom hf]; rfl) ⟨by rw [hab2]; exact hab.map _, rfl, .inl rfl, rfl⟩)
  · rename_i hd hn l1 f l2 hfs hnm hc hf hf2
    have hhas : hasA (fs.map Rf.ab) s ∨ (fs.map Rf.ab).length < 1024 := .inl (by rw [hfs]; exact hasR_mid hnm)
    have hfit : (bs.length : Int) + totA (fs.map Rf.ab) ≤ room := by omega
    have hcp := hcap hfit
    repeat' (first | (show wpO _ _ _ _ _ _ _; first | refine wpO_nil ?_ | (show wpO _ _ _ (⟨_, .binOp _ _ _ _ _, _, _, _, _⟩ :: _) _ _ _; first | refine s_tt ?_ | refine s_ff ?_ | refine s_rdp ?_ | (refine s_cmp (fun _ => ?_) (fun _ => ?_) <;> (first | (exfalso; omega) | contradiction | skip)) | (refine s_cb (fun _ => ?_) (fun _ => ?_) <;> (first | (exfalso; omega) | contradiction | skip)) | refine s_sks ?_ | (refine s_g (fun _ => ?_) (fun _ => ?_) <;> (first | (exfalso; omega) | contradiction | skip))) | (show wpO _ _ _ (⟨_, .pick _ _ _, _, _, _, _⟩ :: _) _ _ _; first | refine s_rdp ?_ | (refine s_p (fun _ => ?_) (fun _ => ?_) <;> (first | (exfalso; omega) | contradiction | skip)) | refine s_sks ?_ | (refine s_g (fun _ => ?_) (fun _ => ?_) <;> (first | (exfalso; omega) | contradiction | skip))) | refine s_rdp ?_ | refine s_rdm ?_ | refine s_exq ?_ | refine s_exm ?_ | refine s_sks ?_ | refine s_skn ?_ | (refine s_g (fun _ => ?_) (fun _ => ?_) <;> (first | (exfalso; omega) | contradiction | skip))) | (show Ex _ _ _ _ _; first | (show Ex _ ⟨_, .call ⟨.value (.func _), _, _⟩, _, _, _, _⟩ _ _ _; refine e_call ?_; first | (apply p_pcs; apply rput_spec _ hO hP hl hs hS hcp; (try case hS => assumption); (case hpcs => (repeat (first | exact Pcs.blk (by infer_instance) | exact Pcs.nil | (apply Pcs.cons; infer_instance) | apply Pcs.app))))) | (show Ex _ ⟨_, .buildSlice _ _ _, _, _, _, _⟩ _ _ _; first | (refine e_buildSlice ?_; intro _) | (refine e_buildNil ?_; intro _ _ _))) | (show wpC _ _ _ _ _ _; first | refine wpC_seq ?_ | refine wpC_region ?_ | refine c_true ?_ | refine c_false ?_ | (refine c_b (fun _ => ?_) (fun _ => ?_) <;> (first | (exfalso; omega) | contradiction | skip)) | refine wpC_ret ?_ | refine wpC_skip ?_ | refine wpC_label ?_ | (apply wpC_drawX (id := 7) ([]) [0, 1, 2, 3, 4, 5, 6, 7, 8, 9] rfl (by kernel_rfl); (case hpk => (repeat (first | exact Pcs.blk (by infer_instance) | exact Pcs.nil | (apply Pcs.cons; infer_instance) | apply Pcs.app))))) | (show Then _ _ _ _ _ _ _; first | refine then_normal ?_ | refine then_ret ?_) | (show wpD _ _ _ _ _ _ _ _; first | refine wpD_nil ?_ | refine d_rdp ?_ | refine d_rdm ?_ | refine d_sks ?_ | refine d_tt ?_ | refine d_ff ?_ | (refine d_cmp (fun _ => ?_) (fun _ => ?_) <;> (first | (exfalso; omega) | contradiction | skip)) | (refine d_cb (fun _ => ?_) (fun _ => ?_) <;> (first | (exfalso; omega) | contradiction | skip)) | refine d_exs ?_ | refine d_exn ?_ | (refine d_p (fun _ => ?_) (fun _ => ?_) <;> (first | (exfalso; omega) | contradiction | skip)) | (refine d_g (fun _ => ?_) (fun _ => ?_) <;> (first | (exfalso; omega) | contradiction | skip))) | (show (_ ∨ Subs _ _) ∧ _; first | refine d_sub ?_ | refine d_cov ?_) | (show RetP _ _ _ _ _ _ _ _; first | refine r_1 ?_) | assumption | intro _)
    rename_i v' B' Pl' fs' hO' hP' hs' hab
    exact q_drop (Rk.fin (fun H => (H ++ Fn) ++ F) hK hR hO' hP' hs' hk (s' := ⟨appd (fs.map Rf.ab) s bs, fuse - 1, k, down⟩) (by rw [append_good hd hn hhas hfit, chg_2 hf hf2]) ⟨hab, rfl, .inr rfl, rfl⟩)
  · rename_i hd hn l1 l2 hfs hlt hgt hmany
    exact q_drop (Rk.fin (fun H => (H ++ Fn) ++ F) hK hR hO hP hs hk (append_many hd hn (by rw [hfs]; exact hasR_none hlt hgt) (by simp only [List.length_map]; omega)) (.rfl _))
  · rename_i hd hn l1 l2 hfs hlt hgt hmany hc
    exact q_drop (Rk.fin (fun H => (H ++ Fn) ++ F) hK hR hO hP hs hk (append_big hd hn (.inr (by simp only [List.length_map]; omega)) (by show room < (bs.length : Int) + totA (fs.map Rf.ab); omega)) (.rfl _))
  · rename_i hd hn l1 l2 hfs hlt hgt hmany hc hf
    have hhas : hasA (fs.map Rf.ab) s ∨ (fs.map Rf.ab).length < 1024 := .inr (by simp only [List.length_map]; omega)
    have hfit : (bs.length : Int) + totA (fs.map Rf.ab) ≤ room := by omega
    have hcp := hcap hfit
    repeat' (first | (show wpO _ _ _ _ _ _ _; first | refine wpO_nil ?_ | (show wpO _ _ _ (⟨_, .binOp _ _ _ _ _, _, _, _, _⟩ :: _) _ _ _; first | refine s_tt ?_ | refine s_ff ?_ | refine s_rdp ?_ | (refine s_cmp (fun _ => ?_) (fun _ => ?_) <;> (first | (exfalso; omega) | contradiction | skip)) | (refine s_cb (fun _ => ?_) (fun _ => ?_) <;> (first | (exfalso; omega) | contradiction | skip)) | refine s_sks ?_ | (refine s_g (fun _ => ?_) (fun _ => ?_) <;> (first | (exfalso; omega) | contradiction | skip))) | (show wpO _ _ _ (⟨_, .pick _ _ _, _, _, _, _⟩ :: _) _ _ _; first | refine s_rdp ?_ | (refine s_p (fun _ => ?_) (fun _ => ?_) <;> (first | (exfalso; omega) | contradiction | skip)) | refine s_sks ?_ | (refine s_g (fun _ => ?_) (fun _ => ?_) <;> (first | (exfalso; omega) | contradiction | skip))) | refine s_rdp ?_ | refine s_rdm ?_ | refine s_exq ?_ | refine s_exm ?_ | refine s_sks ?_ | refine s_skn ?_ | (refine s_g (fun _ => ?_) (fun _ => ?_) <;> (first | (exfalso; omega) | contradiction | skip))) | (show Ex _ _ _ _ _; first | (show Ex _ ⟨_, .call ⟨.value (.func _), _, _⟩, _, _, _, _⟩ _ _ _; refine e_call ?_; first | (apply p_pcs; apply rput_spec _ hO hP hl hs hS hcp; (try case hS => assumption); (case hpcs => (repeat (first | exact Pcs.blk (by infer_instance) | exact Pcs.nil | (apply Pcs.cons; infer_instance) | apply Pcs.app))))) | (show Ex _ ⟨_, .buildSlice _ _ _, _, _, _, _⟩ _ _ _; first | (refine e_buildSlice ?_; intro _) | (refine e_buildNil ?_; intro _ _ _))) | (show wpC _ _ _ _ _ _; first | refine wpC_seq ?_ | refine wpC_region ?_ | refine c_true ?_ | refine c_false ?_ | (refine c_b (fun _ => ?_) (fun _ => ?_) <;> (first | (exfalso; omega) | contradiction | skip)) | refine wpC_ret ?_ | refine wpC_skip ?_ | refine wpC_label ?_ | (apply wpC_drawX (id := 7) ([]) [0, 1, 2, 3, 4, 5, 6, 7, 8, 9] rfl (by kernel_rfl); (case hpk => (repeat (first | exact Pcs.blk (by infer_instance) | exact Pcs.nil | (apply Pcs.cons; infer_instance) | apply Pcs.app))))) | (show Then _ _ _ _ _ _ _; first | refine then_normal ?_ | refine then_ret ?_) | (show wpD _ _ _ _ _ _ _ _; first | refine wpD_nil ?_ | refine d_rdp ?_ | refine d_rdm ?_ | refine d_sks ?_ | refine d_tt ?_ | refine d_ff ?_ | (refine d_cmp (fun _ => ?_) (fun _ => ?_) <;> (first | (exfalso; omega) | contradiction | skip)) | (refine d_cb (fun _ => ?_) (fun _ => ?_) <;> (first | (exfalso; omega) | contradiction | skip)) | refine d_exs ?_ | refine d_exn ?_ | (refine d_p (fun _ => ?_) (fun _ => ?_) <;> (first | (exfalso; omega) | contradiction | skip)) | (refine d_g (fun _ => ?_) (fun _ => ?_) <;> (first | (exfalso; omega) | contradiction | skip))) | (show (_ ∨ Subs _ _) ∧ _; first | refine d_sub ?_ | refine d_cov ?_) | (show RetP _ _ _ _ _ _ _ _; first | refine r_1 ?_) | assumption | intro _)
    rename_i v' B' Pl' fs' hO' hP' hs' hab
    exact q_drop (Rk.fin (fun H => (H ++ Fn) ++ F) hK hR hO' hP' hs' hk (s' := ⟨appd (fs.map Rf.ab) s bs, 0, k, down⟩) (by rw [append_good hd hn hhas hfit, chg_0 hf]) ⟨hab, hf, .inr rfl, rfl⟩)
  · rename_i hd hn l1 l2 hfs hlt hgt hmany hc hf
    have hhas : hasA (fs.map Rf.ab) s ∨ (fs.map Rf.ab).length < 1024 := .inr (by simp only [List.length_map]; omega)
    have hfit : (bs.length : Int) + totA (fs.map Rf.ab) ≤ room := by omega
    have hcp := hcap hfit
    have hsyA : ∀ fs' : List Rf, (fs'.map Rf.ab).Perm (appd (fs.map Rf.ab) s bs) → (∀ f ∈ fs', f.syn ≤ f.bs.length) ∧ totA (fs'.map Rf.ab) ≤ 140737488355328 ∧ fs'.length ≤ 1024 := fun fs' hp => by
      refine ⟨fun f hf => appd_syn (n := s) (bs := bs) hds.syn f.ab (hp.mem_iff.1 (List.mem_map.2 ⟨f, hf, rfl⟩)), ?_, ?_⟩
      · rw [totA_perm hp, totA_appd]
        omega
      · have h1 := hp.length_eq
        rw [appd_len, List.length_map, List.length_map] at h1
        rw [h1]
        split
        · exact hl
        · rename_i hno
          have := hhas.resolve_left hno
          simp only [List.length_map] at this
          omega
    repeat' ((fail_if_success (show wpO _ _ _ (⟨_, .call ⟨.value (.func 22), _, _⟩, _, _, _, _⟩ :: _) _ _ _)); first | (show wpO _ _ _ _ _ _ _; first | refine wpO_nil ?_ | (show wpO _ _ _ (⟨_, .binOp _ _ _ _ _, _, _, _, _⟩ :: _) _ _ _; first | refine s_tt ?_ | refine s_ff ?_ | refine s_rdp ?_ | (refine s_cmp (fun _ => ?_) (fun _ => ?_) <;> (first | (exfalso; omega) | contradiction | skip)) | (refine s_cb (fun _ => ?_) (fun _ => ?_) <;> (first | (exfalso; omega) | contradiction | skip)) | refine s_sks ?_ | (refine s_g (fun _ => ?_) (fun _ => ?_) <;> (first | (exfalso; omega) | contradiction | skip))) | (show wpO _ _ _ (⟨_, .pick _ _ _, _, _, _, _⟩ :: _) _ _ _; first | refine s_rdp ?_ | (refine s_p (fun _ => ?_) (fun _ => ?_) <;> (first | (exfalso; omega) | contradiction | skip)) | refine s_sks ?_ | (refine s_g (fun _ => ?_) (fun _ => ?_) <;> (first | (exfalso; omega) | contradiction | skip))) | refine s_rdp ?_ | refine s_rdm ?_ | refine s_exq ?_ | refine s_exm ?_ | refine s_sks ?_ | refine s_skn ?_ | (refine s_g (fun _ => ?_) (fun _ => ?_) <;> (first | (exfalso; omega) | contradiction | skip))) | (show Ex _ _ _ _ _; first | (show Ex _ ⟨_, .call ⟨.value (.func _), _, _⟩, _, _, _, _⟩ _ _ _; refine e_call ?_; first | (apply p_pcs; apply rput_spec _ hO hP hl hs hS hcp; (try case hS => assumption); (case hpcs => (repeat (first | exact Pcs.blk (by infer_instance) | exact Pcs.nil | (apply Pcs.cons; infer_instance) | apply Pcs.app))))) | (show Ex _ ⟨_, .buildSlice _ _ _, _, _, _, _⟩ _ _ _; first | (refine e_buildSlice ?_; intro _) | (refine e_buildNil ?_; intro _ _ _))) | (show wpC _ _ _ _ _ _; first | refine wpC_seq ?_ | refine wpC_region ?_ | refine c_true ?_ | refine c_false ?_ | (refine c_b (fun _ => ?_) (fun _ => ?_) <;> (first | (exfalso; omega) | contradiction | skip)) | refine wpC_ret ?_ | refine wpC_skip ?_ | refine wpC_label ?_ | (apply wpC_drawX (id := 7) ([]) [0, 1, 2, 3, 4, 5, 6, 7, 8, 9] rfl (by kernel_rfl); (case hpk => (repeat (first | exact Pcs.blk (by infer_instance) | exact Pcs.nil | (apply Pcs.cons; infer_instance) | apply Pcs.app))))) | (show Then _ _ _ _ _ _ _; first | refine then_normal ?_ | refine then_ret ?_) | (show wpD _ _ _ _ _ _ _ _; first | refine wpD_nil ?_ | refine d_rdp ?_ | refine d_rdm ?_ | refine d_sks ?_ | refine d_tt ?_ | refine d_ff ?_ | (refine d_cmp (fun _ => ?_) (fun _ => ?_) <;> (first | (exfalso; omega) | contradiction | skip)) | (refine d_cb (fun _ => ?_) (fun _ => ?_) <;> (first | (exfalso; omega) | contradiction | skip)) | refine d_exs ?_ | refine d_exn ?_ | (refine d_p (fun _ => ?_) (fun _ => ?_) <;> (first | (exfalso; omega) | contradiction | skip)) | (refine d_g (fun _ => ?_) (fun _ => ?_) <;> (first | (exfalso; omega) | contradiction | skip))) | (show (_ ∨ Subs _ _) ∧ _; first | refine d_sub ?_ | refine d_cov ?_) | (show RetP _ _ _ _ _ _ _ _; first | refine r_1 ?_) | assumption | intro _)
    rename_i v' B' Pl' fs' hO' hP' hs' hab
    obtain ⟨g1, g2, g3⟩ := hsyA fs' hab
    repeat' (first | (show wpO _ _ _ _ _ _ _; first | refine wpO_nil ?_ | (show wpO _ _ _ (⟨_, .binOp _ _ _ _ _, _, _, _, _⟩ :: _) _ _ _; first | refine s_tt ?_ | refine s_ff ?_ | refine s_rdp ?_ | (refine s_cmp (fun _ => ?_) (fun _ => ?_) <;> (first | (exfalso; omega) | contradiction | skip)) | (refine s_cb (fun _ => ?_) (fun _ => ?_) <;> (first | (exfalso; omega) | contradiction | skip)) | refine s_sks ?_ | (refine s_g (fun _ => ?_) (fun _ => ?_) <;> (first | (exfalso; omega) | contradiction | skip))) | (show wpO _ _ _ (⟨_, .pick _ _ _, _, _, _, _⟩ :: _) _ _ _; first | refine s_rdp ?_ | (refine s_p (fun _ => ?_) (fun _ => ?_) <;> (first | (exfalso; omega) | contradiction | skip)) | refine s_sks ?_ | (refine s_g (fun _ => ?_) (fun _ => ?_) <;> (first | (exfalso; omega) | contradiction | skip))) | refine s_rdp ?_ | refine s_rdm ?_ | refine s_exq ?_ | refine s_exm ?_ | refine s_sks ?_ | refine s_skn ?_ | (refine s_g (fun _ => ?_) (fun _ => ?_) <;> (first | (exfalso; omega) | contradiction | skip))) | (show Ex _ _ _ _ _; first | (show Ex _ ⟨_, .call ⟨.value (.func _), _, _⟩, _, _, _, _⟩ _ _ _; refine e_call ?_; first | (apply p_pcs; apply rcrash_spec _ hO' hP' g3 g1 g2 hk; (try case hS => assumption); (case hpcs => (repeat (first | exact Pcs.blk (by infer_instance) | exact Pcs.nil | (apply Pcs.cons; infer_instance) | apply Pcs.app))))) | (show Ex _ ⟨_, .buildSlice _ _ _, _, _, _, _⟩ _ _ _; first | (refine e_buildSlice ?_; intro _) | (refine e_buildNil ?_; intro _ _ _))) | (show wpC _ _ _ _ _ _; first | refine wpC_seq ?_ | refine wpC_region ?_ | refine c_true ?_ | refine c_false ?_ | (refine c_b (fun _ => ?_) (fun _ => ?_) <;> (first | (exfalso; omega) | contradiction | skip)) | refine wpC_ret ?_ | refine wpC_skip ?_ | refine wpC_label ?_ | (apply wpC_drawX (id := 7) ([]) [0, 1, 2, 3, 4, 5, 6, 7, 8, 9] rfl (by kernel_rfl); (case hpk => (repeat (first | exact Pcs.blk (by infer_instance) | exact Pcs.nil | (apply Pcs.cons; infer_instance) | apply Pcs.app))))) | (show Then _ _ _ _ _ _ _; first | refine then_normal ?_ | refine then_ret ?_) | (show wpD _ _ _ _ _ _ _ _; first | refine wpD_nil ?_ | refine d_rdp ?_ | refine d_rdm ?_ | refine d_sks ?_ | refine d_tt ?_ | refine d_ff ?_ | (refine d_cmp (fun _ => ?_) (fun _ => ?_) <;> (first | (exfalso; omega) | contradiction | skip)) | (refine d_cb (fun _ => ?_) (fun _ => ?_) <;> (first | (exfalso; omega) | contradiction | skip)) | refine d_exs ?_ | refine d_exn ?_ | (refine d_p (fun _ => ?_) (fun _ => ?_) <;> (first | (exfalso; omega) | contradiction | skip)) | (refine d_g (fun _ => ?_) (fun _ => ?_) <;> (first | (exfalso; omega) | contradiction | skip))) | (show (_ ∨ Subs _ _) ∧ _; first | refine d_sub ?_ | refine d_cov ?_) | (show RetP _ _ _ _ _ _ _ _; first | refine r_1 ?_) | assumption | intro _)
    · omega
    · exact absurd (hd ▸ ‹_ = true› : false = true) (by simp)
    · rename_i n hnn _ v2 B2 fs2 hO2 hP2 hnm2 hab2
      obtain rfl : k = n := by omega
      exact q_drop (Rk.fin (fun H => (H ++ Fn) ++ F) hK hR hO2 hP2 (nm_sorted hs' hnm2) hk (s' := ⟨(appd (fs.map Rf.ab) s bs).map (fell k), 0, 0, true⟩) (by rw [append_good hd hn hhas hfit, chg_boom hf]; rfl) ⟨by rw [hab2]; exact hab.map _, rfl, .inl rfl, rfl⟩)
  · rename_i hd hn l1 l2 hfs hlt hgt hmany hc hf hf2
    have hhas : hasA (fs.map Rf.ab) s ∨ (fs.map Rf.ab).length < 1024 := .inr (by simp only [List.length_map]; omega)
    have hfit : (bs.length : Int) + totA (fs.map Rf.ab) ≤ room := by omega
    have hcp := hcap hfit
    repeat' (first | (show wpO _ _ _ _ _ _ _; first | refine wpO_nil ?_ | (show wpO _ _ _ (⟨_, .binOp _ _ _ _ _, _, _, _, _⟩ :: _) _ _ _; first | refine s_tt ?_ | refine s_ff ?_ | refine s_rdp ?_ | (refine s_cmp (fun _ => ?_) (fun _ => ?_) <;> (first | (exfalso; omega) | contradiction | skip)) | (refine s_cb (fun _ => ?_) (fun _ => ?_) <;> (first | (exfalso; omega) | contradiction | skip)) | refine s_sks ?_ | (refine s_g (fun _ => ?_) (fun _ => ?_) <;> (first | (exfalso; omega) | contradiction | skip))) | (show wpO _ _ _ (⟨_, .pick _ _ _, _, _, _, _⟩ :: _) _ _ _; first | refine s_rdp ?_ | (refine s_p (fun _ => ?_) (fun _ => ?_) <;> (first | (exfalso; omega) | contradiction | skip)) | refine s_sks ?_ | (refine s_g (fun _ => ?_) (fun _ => ?_) <;> (first | (exfalso; omega) | contradiction | skip))) | refine s_rdp ?_ | refine s_rdm ?_ | refine s_exq ?_ | refine s_exm ?_ | refine s_sks ?_ | refine s_skn ?_ | (refine s_g (fun _ => ?_) (fun _ => ?_) <;> (first | (exfalso; omega) | contradiction | skip))) | (show Ex _ _ _ _ _; first | (show Ex _ ⟨_, .call ⟨.value (.func _), _, _⟩, _, _, _, _⟩ _ _ _; refine e_call ?_; first | (apply p_pcs; apply rput_spec _ hO hP hl hs hS hcp; (try case hS => assumption); (case hpcs => (repeat (first | exact Pcs.blk (by infer_instance) | exact Pcs.nil | (apply Pcs.cons; infer_instance) | apply Pcs.app))))) | (show Ex _ ⟨_, .buildSlice _ _ _, _, _, _, _⟩ _ _ _; first | (refine e_buildSlice ?_; intro _) | (refine e_buildNil ?_; intro _ _ _))) | (show wpC _ _ _ _ _ _; first | refine wpC_seq ?_ | refine wpC_region ?_ | refine c_true ?_ | refine c_false ?_ | (refine c_b (fun _ => ?_) (fun _ => ?_) <;> (first | (exfalso; omega) | contradiction | skip)) | refine wpC_ret ?_ | refine wpC_skip ?_ | refine wpC_label ?_ | (apply wpC_drawX (id := 7) ([]) [0, 1, 2, 3, 4, 5, 6, 7, 8, 9] rfl (by kernel_rfl); (case hpk => (repeat (first | exact Pcs.blk (by infer_instance) | exact Pcs.nil | (apply Pcs.cons; infer_instance) | apply Pcs.app))))) | (show Then _ _ _ _ _ _ _; first | refine then_normal ?_ | refine then_ret ?_) | (show wpD _ _ _ _ _ _ _ _; first | refine wpD_nil ?_ | refine d_rdp ?_ | refine d_rdm ?_ | refine d_sks ?_ | refine d_tt ?_ | refine d_ff ?_ | (refine d_cmp (fun _ => ?_) (fun _ => ?_) <;> (first | (exfalso; omega) | contradiction | skip)) | (refine d_cb (fun _ => ?_) (fun _ => ?_) <;> (first | (exfalso; omega) | contradiction | skip)) | refine d_exs ?_ | refine d_exn ?_ | (refine d_p (fun _ => ?_) (fun _ => ?_) <;> (first | (exfalso; omega) | contradiction | skip)) | (refine d_g (fun _ => ?_) (fun _ => ?_) <;> (first | (exfalso; omega) | contradiction | skip))) | (show (_ ∨ Subs _ _) ∧ _; first | refine d_sub ?_ | refine d_cov ?_) | (show RetP _ _ _ _ _ _ _ _; first | refine r_1 ?_) | assumption | intro _)
    rename_i v' B' Pl' fs' hO' hP' hs' hab
    exact q_drop (Rk.fin (fun H => (H ++ Fn) ++ F) hK hR hO' hP' hs' hk (s' := ⟨appd (fs.map Rf.ab) s bs, fuse - 1, k, down⟩) (by rw [append_good hd hn hhas hfit, chg_2 hf hf2]) ⟨hab, rfl, .inr rfl, rfl⟩)
end Go.Vl

namespace Go.Vl
open Go.Proofs
attribute [local irreducible] wpC wpO wpD Ex Rd callsK RetP Drop valK
set_option maxHeartbeats 4000000 in
set_option maxRecDepth 100000 in
theorem rthere1 (e : World) {d b : Nat} {room fuse : Int} {v : Value} {k : Nat} {down : Bool} {fs : List Rf} {s : ByteArray} {B F : Hp} {K : Value → Hp → Prop} (hO : FsO v fs B) (hl : fs.length ≤ 1024) (hs : fs.Pairwise fun f g => ltN f.nm g.nm)
    (h7 : down = true → K (.tuple #[.int .i64 0, .int .i64 7]) (((rblk d room v fuse k down ++ B) ++ [(b, cellsO [.string s] 9)]) ++ F)) (h20 : down = false → ¬ okN s → K (.tuple #[.int .i64 0, .int .i64 20]) (((rblk d room v fuse k down ++ B) ++ [(b, cellsO [.string s] 9)]) ++ F))
    (h4 : down = false → okN s → (∀ f ∈ fs, f.nm ≠ s) → K (.tuple #[.int .i64 0, .int .i64 4]) (((rblk d room v fuse k down ++ B) ++ [(b, cellsO [.string s] 9)]) ++ F))
    (h0 : ∀ l1 f l2, down = false → okN s → fs = l1 ++ f :: l2 → f.nm = s → K (.tuple #[.int .i64 (l1.length : Int), .int .i64 0]) (((rblk d room v fuse k down ++ B) ++ [(b, cellsO [.string s] 9)]) ++ F)) :
    callsK Tryz.prog e 82 #[pv d, .slice (some ⟨b, 0, none⟩) 1 1] (((rblk d room v fuse k down ++ B) ++ [(b, cellsO [.string s] 9)]) ++ F) K :=
  rthere_spec (ss := []) e hO hl hs (by simp) h7 (fun h h' => h20 h (by simpa using h')) (fun h h' => h4 h (by simpa using h')) (fun l1 f l2 h h' => h0 l1 f l2 h (by simpa using h'))
set_option maxHeartbeats 4000000 in
set_option maxRecDepth 100000 in
theorem rthere2 (e : World) {d b : Nat} {room fuse : Int} {v : Value} {k : Nat} {down : Bool} {fs : List Rf} {s r : ByteArray} {B F : Hp} {K : Value → Hp → Prop} (hO : FsO v fs B) (hl : fs.length ≤ 1024) (hs : fs.Pairwise fun f g => ltN f.nm g.nm)
    (h7 : down = true → K (.tuple #[.int .i64 0, .int .i64 7]) (((rblk d room v fuse k down ++ B) ++ [(b, cellsO [.string s, .string r] 9)]) ++ F)) (h20 : down = false → ¬ (okN s ∧ okN r) → K (.tuple #[.int .i64 0, .int .i64 20]) (((rblk d room v fuse k down ++ B) ++ [(b, cellsO [.string s, .string r] 9)]) ++ F))
    (h4 : down = false → (okN s ∧ okN r) → (∀ f ∈ fs, f.nm ≠ s) → K (.tuple #[.int .i64 0, .int .i64 4]) (((rblk d room v fuse k down ++ B) ++ [(b, cellsO [.string s, .string r] 9)]) ++ F))
    (h0 : ∀ l1 f l2, down = false → (okN s ∧ okN r) → fs = l1 ++ f :: l2 → f.nm = s → K (.tuple #[.int .i64 (l1.length : Int), .int .i64 0]) (((rblk d room v fuse k down ++ B) ++ [(b, cellsO [.string s, .string r] 9)]) ++ F)) :
    callsK Tryz.prog e 82 #[pv d, .slice (some ⟨b, 0, none⟩) 2 2] (((rblk d room v fuse k down ++ B) ++ [(b, cellsO [.string s, .string r] 9)]) ++ F) K := by
  have hand : (∀ x ∈ [s, r], okN x) ↔ okN s ∧ okN r := by simp
  exact rthere_spec (ss := [r]) e hO hl hs (by simp) h7 (fun h h' => h20 h (fun h2 => by obtain ⟨x, hx, hn⟩ := h'; exact hn (hand.2 h2 x hx))) (fun h h' => h4 h (hand.1 h')) (fun l1 f l2 h h' => h0 l1 f l2 h (hand.1 h'))
set_option maxHeartbeats 4000000 in
set_option maxRecDepth 100000 in
theorem notR {fs : List Rf} {n : ByteArray} (h : ∀ f ∈ fs, f.nm ≠ n) : ¬ hasA (fs.map Rf.ab) n := fun h1 => by
  obtain ⟨f, hf, he⟩ := hasR.1 h1
  exact h f hf he
set_option maxHeartbeats 4000000 in
set_option maxRecDepth 100000 in
theorem there_0 {s : DS} {ok : Prop} {n : ByteArray} {L : List Ab} (h : s.down = false) (h2 : ok) (h3 : hasA s.L n) (h1 : s.left = 0) : s.there ok n L = (0, ⟨L, 0, s.keep, s.down⟩) := by
  unfold DS.there
  rw [if_neg (by simp [h]), if_neg (by simpa using h2), if_neg (by simpa using h3), chg_0 h1]
set_option maxHeartbeats 4000000 in
set_option maxRecDepth 100000 in
theorem there_2 {s : DS} {ok : Prop} {n : ByteArray} {L : List Ab} (h : s.down = false) (h2 : ok) (h3 : hasA s.L n) (h1 : s.left ≠ 0) (h4 : s.left ≠ 1) : s.there ok n L = (0, ⟨L, s.left - 1, s.keep, s.down⟩) := by
  unfold DS.there
  rw [if_neg (by simp [h]), if_neg (by simpa using h2), if_neg (by simpa using h3), chg_2 h1 h4]
set_option maxHeartbeats 4000000 in
set_option maxRecDepth 100000 in
theorem sync_ab {l1 l2 : List Rf} {f : Rf} (hs : (l1 ++ f :: l2).Pairwise fun f g => ltN f.nm g.nm) : (l1 ++ (⟨f.nm, f.a, f.c, f.bs, f.bs.length⟩ : Rf) :: l2).map Rf.ab = ((l1 ++ f :: l2).map Rf.ab).map (synA f.nm) := by
  rw [List.pairwise_append, List.pairwise_cons] at hs
  obtain ⟨_, ⟨h2, _⟩, h3⟩ := hs
  have e : ∀ l : List Rf, (∀ x ∈ l, x.nm ≠ f.nm) → l.map Rf.ab = (l.map Rf.ab).map (synA f.nm) := fun l hl => by
    rw [List.map_map]
    exact List.map_congr_left fun x hx => (if_neg (hl x hx)).symm
  rw [List.map_append, List.map_cons, List.map_append, List.map_cons, List.map_append, List.map_cons, ← e l1 (fun x hx he => ltN_irrefl _ (by have := h3 x hx f (by simp); rwa [he] at this)), ← e l2 (fun x hx he => ltN_irrefl _ (by have := h2 x hx; rwa [he] at this))]
  unfold synA
  rw [if_pos rfl]
set_option maxHeartbeats 4000000 in
set_option maxRecDepth 100000 in
theorem rem_ab {fs : List Rf} {n : ByteArray} : (fs.filter fun x => decide (x.nm ≠ n)).map Rf.ab = delA (fs.map Rf.ab) n := by
  unfold delA
  rw [List.filter_map]
  rfl
set_option maxHeartbeats 4000000 in
set_option maxRecDepth 100000 in
theorem rsync_D (e : World) {s : ByteArray} {F : Hp} {d : Nat} {x : Rk} {room : Int} {K : Value → Hp → Prop} (hx : x.ok room) (hcap : totA (x.fs.map Rf.ab) ≤ 140737488355328)
    (hK : ∀ r' : Rk, r'.ok room → r'.ds.F (x.ds.sync s).2 → K (.int .i64 (x.ds.sync s).1) (r'.hp d room ++ F)) :
    callsK Tryz.prog e 48 #[pv d, .string s] (x.hp d room ++ F) K := by
  have hR : (x.ds.sync s).2.ok room := hx.s.run ⟨1, s, s, none, 0, [], 0, 0⟩ (show (0 : Int) ≤ 9223372036854775807 by decide)
  obtain ⟨hO, hP, hs, hds, hk⟩ := hx; obtain ⟨fs, v, B, Pl, fuse, k, down⟩ := x; simp only at hO hP hs hk hK hR hcap ⊢; have hl : fs.length ≤ 1024 := (by have := hds.len; simpa using this); have hf0 := hds.l0; have hf1 := hds.l1; have hsy : ∀ f ∈ fs, f.syn ≤ f.bs.length := (fun f hf => hds.syn f.ab (List.mem_map.2 ⟨f, hf, rfl⟩)); simp only at hf0 hf1
  refine calls_body (N := 41) (args := [pv d, .string s]) Tryz.func48 rfl rfl rfl (by simp) ?_
  repeat' ((fail_if_success (show wpC _ (.region 7 _ _) _ _ _ _)); first | (show wpO _ _ _ _ _ _ _; first | refine wpO_nil ?_ | (show wpO _ _ _ (⟨_, .binOp _ _ _ _ _, _, _, _, _⟩ :: _) _ _ _; first | refine s_tt ?_ | refine s_ff ?_ | refine s_rdp ?_ | (refine s_cmp (fun _ => ?_) (fun _ => ?_) <;> (first | (exfalso; omega) | contradiction | skip)) | (refine s_cb (fun _ => ?_) (fun _ => ?_) <;> (first | (exfalso; omega) | contradiction | skip))) | (show wpO _ _ _ (⟨_, .indexAddr _ _ _, _, _, _, _⟩ :: _) _ _ _; first | refine s_rdp ?_ | refine s_idx (fun _ _ _ _ _ _ _ => ?_)) | refine s_rdp ?_ | refine s_rdm ?_ | refine s_exq ?_ | refine s_exm ?_) | (show Ex _ _ _ _ _; first | (show Ex _ ⟨_, .call ⟨.value (.func _), _, _⟩, _, _, _, _⟩ _ _ _; refine e_call ?_; first | (apply p_pcs; apply rthere1 _ hO hl hs; (try case hS => assumption); (case hpcs => (repeat (first | exact Pcs.blk (by infer_instance) | exact Pcs.nil | (apply Pcs.cons; infer_instance) | apply Pcs.app)))) | (apply p_pcs; apply blows_spec _ hf0 hf1; (try case hS => assumption); (case hpcs => (repeat (first | exact Pcs.blk (by infer_instance) | exact Pcs.nil | (apply Pcs.cons; infer_instance) | apply Pcs.app)))) | (apply p_pcs; apply rcrash_spec _ hO hP hl hsy hcap hk; (try case hS => assumption); (case hpcs => (repeat (first | exact Pcs.blk (by infer_instance) | exact Pcs.nil | (apply Pcs.cons; infer_instance) | apply Pcs.app))))) | (show Ex _ ⟨_, .store _ _ _, _, _, _, _⟩ _ _ _; first | refine e_store1 ?_ | refine e_storeA ?_ | (refine e_storeO ?_; intro _ _)) | (show Ex _ ⟨_, .buildSlice _ _ _, _, _, _, _⟩ _ _ _; first | (refine e_buildSlice ?_; intro _) | (refine e_buildNil ?_; intro _ _ _))) | (show wpC _ _ _ _ _ _; first | refine wpC_seq ?_ | refine wpC_region ?_ | refine c_true ?_ | refine c_false ?_ | (refine c_b (fun _ => ?_) (fun _ => ?_) <;> (first | (exfalso; omega) | contradiction | skip)) | refine wpC_ret ?_ | refine wpC_skip ?_ | refine wpC_label ?_ | (apply wpC_drawX (id := 7) ([]) [0, 1, 2, 3, 4, 5, 6, 7, 8, 9, 10, 11, 12, 13, 14, 15, 16] rfl (by kernel_rfl); (case hpk => (repeat (first | exact Pcs.blk (by infer_instance) | exact Pcs.nil | (apply Pcs.cons; infer_instance) | apply Pcs.app))))) | (show Then _ _ _ _ _ _ _; first | refine then_normal ?_ | refine then_ret ?_) | (show wpD _ _ _ _ _ _ _ _; first | refine wpD_nil ?_ | refine d_rdp ?_ | refine d_rdm ?_ | refine d_tt ?_ | refine d_ff ?_ | (refine d_cmp (fun _ => ?_) (fun _ => ?_) <;> (first | (exfalso; omega) | contradiction | skip)) | (refine d_cb (fun _ => ?_) (fun _ => ?_) <;> (first | (exfalso; omega) | contradiction | skip)) | refine d_idx (fun _ _ _ _ _ _ _ => ?_) | refine d_exs ?_ | refine d_exn ?_) | (show (_ ∨ Subs _ _) ∧ _; first | refine d_sub ?_ | refine d_cov ?_) | (show RetP _ _ _ _ _ _ _ _; first | refine r_1 ?_) | assumption | intro _)
  · exact q_drop (Rk.fin (fun H => H ++ F) hK hR hO hP hs hk (there_down ‹_›) (.rfl _))
  · exact q_drop (Rk.fin (fun H => H ++ F) hK hR hO hP hs hk (there_wrong ‹_› ‹_›) (.rfl _))
  · exact q_drop (Rk.fin (fun H => H ++ F) hK hR hO hP hs hk (there_none ‹_› ‹_› (notR ‹_›)) (.rfl _))
  · rename_i l1 f l2 hd hn hfs hnm hf
    subst hfs
    subst hnm
    obtain ⟨g, cap, cur, rfl, rfl, hra⟩ := fsAt hO
    have hri := fsRow (l1 := l1) (l2 := l2) (f := f)
    have hlr := rows3 (fs := l1 ++ f :: l2)
    have hbf := hP f (by simp)
    have hll : l1.length < (l1 ++ f :: l2).length := by simp
    repeat' (first | (show wpO _ _ _ _ _ _ _; first | refine wpO_nil ?_ | (show wpO _ _ _ (⟨_, .binOp _ _ _ _ _, _, _, _, _⟩ :: _) _ _ _; first | refine s_tt ?_ | refine s_ff ?_ | refine s_rdp ?_ | (refine s_cmp (fun _ => ?_) (fun _ => ?_) <;> (first | (exfalso; omega) | contradiction | skip)) | (refine s_cb (fun _ => ?_) (fun _ => ?_) <;> (first | (exfalso; omega) | contradiction | skip))) | (show wpO _ _ _ (⟨_, .indexAddr _ _ _, _, _, _, _⟩ :: _) _ _ _; first | refine s_rdp ?_ | refine s_idx (fun _ _ _ _ _ _ _ => ?_)) | refine s_rdp ?_ | refine s_rdm ?_ | refine s_exq ?_ | refine s_exm ?_) | (show Ex _ _ _ _ _; first | (refine e_storeF ?_; intro _ _ _ _ _) | (show Ex _ ⟨_, .store _ _ _, _, _, _, _⟩ _ _ _; first | refine e_store1 ?_ | refine e_storeA ?_ | (refine e_storeO ?_; intro _ _)) | (show Ex _ ⟨_, .buildSlice _ _ _, _, _, _, _⟩ _ _ _; first | (refine e_buildSlice ?_; intro _) | (refine e_buildNil ?_; intro _ _ _))) | (show wpC _ _ _ _ _ _; first | refine wpC_seq ?_ | refine wpC_region ?_ | refine c_true ?_ | refine c_false ?_ | (refine c_b (fun _ => ?_) (fun _ => ?_) <;> (first | (exfalso; omega) | contradiction | skip)) | refine wpC_ret ?_ | refine wpC_skip ?_ | refine wpC_label ?_ | (apply wpC_drawX (id := 7) ([]) [0, 1, 2, 3, 4, 5, 6, 7, 8, 9, 10, 11, 12, 13, 14, 15, 16] rfl (by kernel_rfl); (case hpk => (repeat (first | exact Pcs.blk (by infer_instance) | exact Pcs.nil | (apply Pcs.cons; infer_instance) | apply Pcs.app))))) | (show Then _ _ _ _ _ _ _; first | refine then_normal ?_ | refine then_ret ?_) | (show wpD _ _ _ _ _ _ _ _; first | refine wpD_nil ?_ | refine d_rdp ?_ | refine d_rdm ?_ | refine d_tt ?_ | refine d_ff ?_ | (refine d_cmp (fun _ => ?_) (fun _ => ?_) <;> (first | (exfalso; omega) | contradiction | skip)) | (refine d_cb (fun _ => ?_) (fun _ => ?_) <;> (first | (exfalso; omega) | contradiction | skip)) | refine d_idx (fun _ _ _ _ _ _ _ => ?_) | refine d_exs ?_ | refine d_exn ?_) | (show (_ ∨ Subs _ _) ∧ _; first | refine d_sub ?_ | refine d_cov ?_) | (show RetP _ _ _ _ _ _ _ _; first | refine r_1 ?_) | assumption | intro _)
    rename_i cur' hS' hra' hl' hri'
    have hc : f.cells.set 2 (.int .i64 (f.bs.length : Int)) = (⟨f.nm, f.a, f.c, f.bs, f.bs.length⟩ : Rf).cells := rfl
    rw [hc, fsSet] at hS'
    refine q_drop (Rk.fin (fun H => H ++ F) hK hR (Pl := Pl) (fs := l1 ++ ⟨f.nm, f.a, f.c, f.bs, f.bs.length⟩ :: l2) (hS'.cast (by simp) rfl) (fun x hx => ?_) (put_sorted hs rfl) hk (there_0 hd hn (hasR_mid rfl) hf) ⟨.of_eq ?_, hf, .inr rfl, rfl⟩)
    · rcases List.mem_append.1 hx with hx | hx
      · exact hP x (List.mem_append_left _ hx)
      · rcases List.mem_cons.1 hx with rfl | hx
        · exact hbf
        · exact hP x (List.mem_append_right _ (List.mem_cons_of_mem _ hx))
    · exact sync_ab hs
  · omega
  · exact absurd (‹down = false›.symm.trans ‹down = true›) (by simp)
  · rename_i l1 f l2 hd hn hfs hnm hf n hnn _ v2 B2 fs2 hO2 hP2 hnm2 hab2
    obtain rfl : k = n := by omega
    exact q_drop (Rk.fin (fun H => H ++ F) hK hR hO2 hP2 (nm_sorted hs hnm2) hk (s' := ⟨(fs.map Rf.ab).map (fell k), 0, 0, true⟩) (by first | exact there_crash hd hn (by rw [hfs]; exact hasR_mid hnm) hf | skip) ⟨by rw [hab2], rfl, .inl rfl, rfl⟩)
  · rename_i l1 f l2 hd hn hfs hnm hf hf2
    subst hfs
    subst hnm
    obtain ⟨g, cap, cur, rfl, rfl, hra⟩ := fsAt hO
    have hri := fsRow (l1 := l1) (l2 := l2) (f := f)
    have hlr := rows3 (fs := l1 ++ f :: l2)
    have hbf := hP f (by simp)
    have hll : l1.length < (l1 ++ f :: l2).length := by simp
    repeat' (first | (show wpO _ _ _ _ _ _ _; first | refine wpO_nil ?_ | (show wpO _ _ _ (⟨_, .binOp _ _ _ _ _, _, _, _, _⟩ :: _) _ _ _; first | refine s_tt ?_ | refine s_ff ?_ | refine s_rdp ?_ | (refine s_cmp (fun _ => ?_) (fun _ => ?_) <;> (first | (exfalso; omega) | contradiction | skip)) | (refine s_cb (fun _ => ?_) (fun _ => ?_) <;> (first | (exfalso; omega) | contradiction | skip))) | (show wpO _ _ _ (⟨_, .indexAddr _ _ _, _, _, _, _⟩ :: _) _ _ _; first | refine s_rdp ?_ | refine s_idx (fun _ _ _ _ _ _ _ => ?_)) | refine s_rdp ?_ | refine s_rdm ?_ | refine s_exq ?_ | refine s_exm ?_) | (show Ex _ _ _ _ _; first | (refine e_storeF ?_; intro _ _ _ _ _) | (show Ex _ ⟨_, .store _ _ _, _, _, _, _⟩ _ _ _; first | refine e_store1 ?_ | refine e_storeA ?_ | (refine e_storeO ?_; intro _ _)) | (show Ex _ ⟨_, .buildSlice _ _ _, _, _, _, _⟩ _ _ _; first | (refine e_buildSlice ?_; intro _) | (refine e_buildNil ?_; intro _ _ _))) | (show wpC _ _ _ _ _ _; first | refine wpC_seq ?_ | refine wpC_region ?_ | refine c_true ?_ | refine c_false ?_ | (refine c_b (fun _ => ?_) (fun _ => ?_) <;> (first | (exfalso; omega) | contradiction | skip)) | refine wpC_ret ?_ | refine wpC_skip ?_ | refine wpC_label ?_ | (apply wpC_drawX (id := 7) ([]) [0, 1, 2, 3, 4, 5, 6, 7, 8, 9, 10, 11, 12, 13, 14, 15, 16] rfl (by kernel_rfl); (case hpk => (repeat (first | exact Pcs.blk (by infer_instance) | exact Pcs.nil | (apply Pcs.cons; infer_instance) | apply Pcs.app))))) | (show Then _ _ _ _ _ _ _; first | refine then_normal ?_ | refine then_ret ?_) | (show wpD _ _ _ _ _ _ _ _; first | refine wpD_nil ?_ | refine d_rdp ?_ | refine d_rdm ?_ | refine d_tt ?_ | refine d_ff ?_ | (refine d_cmp (fun _ => ?_) (fun _ => ?_) <;> (first | (exfalso; omega) | contradiction | skip)) | (refine d_cb (fun _ => ?_) (fun _ => ?_) <;> (first | (exfalso; omega) | contradiction | skip)) | refine d_idx (fun _ _ _ _ _ _ _ => ?_) | refine d_exs ?_ | refine d_exn ?_) | (show (_ ∨ Subs _ _) ∧ _; first | refine d_sub ?_ | refine d_cov ?_) | (show RetP _ _ _ _ _ _ _ _; first | refine r_1 ?_) | assumption | intro _)
    rename_i cur' hS' hra' hl' hri'
    have hc : f.cells.set 2 (.int .i64 (f.bs.length : Int)) = (⟨f.nm, f.a, f.c, f.bs, f.bs.length⟩ : Rf).cells := rfl
    rw [hc, fsSet] at hS'
    refine q_drop (Rk.fin (fun H => H ++ F) hK hR (Pl := Pl) (fs := l1 ++ ⟨f.nm, f.a, f.c, f.bs, f.bs.length⟩ :: l2) (hS'.cast (by simp) rfl) (fun x hx => ?_) (put_sorted hs rfl) hk (there_2 hd hn (hasR_mid rfl) hf hf2) ⟨.of_eq ?_, rfl, .inr rfl, rfl⟩)
    · rcases List.mem_append.1 hx with hx | hx
      · exact hP x (List.mem_append_left _ hx)
      · rcases List.mem_cons.1 hx with rfl | hx
        · exact hbf
        · exact hP x (List.mem_append_right _ (List.mem_cons_of_mem _ hx))
    · exact sync_ab hs
set_option maxHeartbeats 4000000 in
set_option maxRecDepth 100000 in
theorem rremove_D (e : World) {s : ByteArray} {F : Hp} {d : Nat} {x : Rk} {room : Int} {K : Value → Hp → Prop} (hx : x.ok room) (hcap : totA (x.fs.map Rf.ab) ≤ 140737488355328)
    (hK : ∀ r' : Rk, r'.ok room → r'.ds.F (x.ds.remove s).2 → K (.int .i64 (x.ds.remove s).1) (r'.hp d room ++ F)) :
    callsK Tryz.prog e 81 #[pv d, .string s] (x.hp d room ++ F) K := by
  have hR : (x.ds.remove s).2.ok room := hx.s.run ⟨3, s, s, none, 0, [], 0, 0⟩ (show (0 : Int) ≤ 9223372036854775807 by decide)
  obtain ⟨hO, hP, hs, hds, hk⟩ := hx; obtain ⟨fs, v, B, Pl, fuse, k, down⟩ := x; simp only at hO hP hs hk hK hR hcap ⊢; have hl : fs.length ≤ 1024 := (by have := hds.len; simpa using this); have hf0 := hds.l0; have hf1 := hds.l1; have hsy : ∀ f ∈ fs, f.syn ≤ f.bs.length := (fun f hf => hds.syn f.ab (List.mem_map.2 ⟨f, hf, rfl⟩)); simp only at hf0 hf1
  refine calls_body (N := 28) (args := [pv d, .string s]) Tryz.func81 rfl rfl rfl (by simp) ?_
  repeat' (first | (show wpO _ _ _ _ _ _ _; first | refine wpO_nil ?_ | (show wpO _ _ _ (⟨_, .binOp _ _ _ _ _, _, _, _, _⟩ :: _) _ _ _; first | refine s_tt ?_ | refine s_ff ?_ | refine s_rdp ?_ | (refine s_cmp (fun _ => ?_) (fun _ => ?_) <;> (first | (exfalso; omega) | contradiction | skip)) | (refine s_cb (fun _ => ?_) (fun _ => ?_) <;> (first | (exfalso; omega) | contradiction | skip))) | refine s_rdp ?_ | refine s_rdm ?_ | refine s_exq ?_ | refine s_exm ?_) | (show Ex _ _ _ _ _; first | (show Ex _ ⟨_, .call ⟨.value (.func _), _, _⟩, _, _, _, _⟩ _ _ _; refine e_call ?_; first | (apply p_pcs; apply rthere1 _ hO hl hs; (try case hS => assumption); (case hpcs => (repeat (first | exact Pcs.blk (by infer_instance) | exact Pcs.nil | (apply Pcs.cons; infer_instance) | apply Pcs.app)))) | (apply p_pcs; apply blows_spec _ hf0 hf1; (try case hS => assumption); (case hpcs => (repeat (first | exact Pcs.blk (by infer_instance) | exact Pcs.nil | (apply Pcs.cons; infer_instance) | apply Pcs.app)))) | (apply p_pcs; apply rcrash_spec _ hO hP hl hsy hcap hk; (try case hS => assumption); (case hpcs => (repeat (first | exact Pcs.blk (by infer_instance) | exact Pcs.nil | (apply Pcs.cons; infer_instance) | apply Pcs.app)))) | (apply p_pcs; apply drop_spec _ hO hl hs; (try case hS => assumption); (case hpcs => (repeat (first | exact Pcs.blk (by infer_instance) | exact Pcs.nil | (apply Pcs.cons; infer_instance) | apply Pcs.app))))) | (show Ex _ ⟨_, .buildSlice _ _ _, _, _, _, _⟩ _ _ _; first | (refine e_buildSlice ?_; intro _) | (refine e_buildNil ?_; intro _ _ _))) | (show wpC _ _ _ _ _ _; first | refine wpC_seq ?_ | refine wpC_region ?_ | refine c_true ?_ | refine c_false ?_ | (refine c_b (fun _ => ?_) (fun _ => ?_) <;> (first | (exfalso; omega) | contradiction | skip)) | refine wpC_ret ?_ | refine wpC_skip ?_ | refine wpC_label ?_) | (show Then _ _ _ _ _ _ _; first | refine then_normal ?_ | refine then_ret ?_) | (show RetP _ _ _ _ _ _ _ _; first | refine r_1 ?_) | assumption | intro _)
  · exact q_drop (Rk.fin (fun H => H ++ F) hK hR hO hP hs hk (there_down ‹_›) (.rfl _))
  · exact q_drop (Rk.fin (fun H => H ++ F) hK hR hO hP hs hk (there_wrong ‹_› ‹_›) (.rfl _))
  · exact q_drop (Rk.fin (fun H => H ++ F) hK hR hO hP hs hk (there_none ‹_› ‹_› (notR ‹_›)) (.rfl _))
  · rename_i l1 f l2 hd hn hfs hnm hf v' B' hO'
    exact q_drop (Rk.fin (fun H => H ++ F) hK hR (Pl := Pl) hO' (fun x hx => hP x (List.mem_filter.1 hx).1) (hs.sublist List.filter_sublist) hk (there_0 hd hn (by rw [hfs]; exact hasR_mid hnm) hf) ⟨.of_eq rem_ab, hf, .inr rfl, rfl⟩)
  · omega
  · exact absurd (‹down = false›.symm.trans ‹down = true›) (by simp)
  · rename_i l1 f l2 hd hn hfs hnm hf n hnn _ v2 B2 fs2 hO2 hP2 hnm2 hab2
    obtain rfl : k = n := by omega
    exact q_drop (Rk.fin (fun H => H ++ F) hK hR hO2 hP2 (nm_sorted hs hnm2) hk (s' := ⟨(fs.map Rf.ab).map (fell k), 0, 0, true⟩) (by first | exact there_crash hd hn (by rw [hfs]; exact hasR_mid hnm) hf | skip) ⟨by rw [hab2], rfl, .inl rfl, rfl⟩)
  · rename_i l1 f l2 hd hn hfs hnm hf hf2 v' B' hO'
    exact q_drop (Rk.fin (fun H => H ++ F) hK hR (Pl := Pl) hO' (fun x hx => hP x (List.mem_filter.1 hx).1) (hs.sublist List.filter_sublist) hk (there_2 hd hn (by rw [hfs]; exact hasR_mid hnm) hf hf2) ⟨.of_eq rem_ab, rfl, .inr rfl, rfl⟩)
end Go.Vl

namespace Go.Vl
open Go.Proofs
set_option maxHeartbeats 4000000 in
set_option maxRecDepth 100000 in
theorem ren_ab {l1 l2 : List Rf} {f : Rf} {t : ByteArray} (hs : (l1 ++ f :: l2).Pairwise fun f g => ltN f.nm g.nm) : ((((l1 ++ f :: l2).filter fun x => decide (x.nm ≠ f.nm)).filter (fun x => decide (x.nm ≠ t))).map Rf.ab ++ [(t, f.bs, f.syn)]) = renA ((l1 ++ f :: l2).map Rf.ab) f.nm t := by
  unfold renA
  have h1 : ((l1 ++ f :: l2).map Rf.ab).filter (fun a => decide (a.1 = f.nm)) = [f.ab] := by
    have hn := sorted_names hs
    rw [List.map_append, List.map_cons] at hn ⊢
    rw [List.map_append, List.map_cons, List.nodup_append, List.nodup_cons] at hn
    obtain ⟨_, ⟨hn2, _⟩, hn3⟩ := hn
    rw [List.filter_append, List.filter_cons_of_pos (by simp), List.filter_eq_nil_iff.2, List.filter_eq_nil_iff.2]
    · rfl
    · intro a ha
      have : ¬ a.1 = f.nm := fun he => hn2 (List.mem_map.2 ⟨a, ha, he⟩)
      simpa using this
    · intro a ha
      have : ¬ a.1 = f.nm := fun he => hn3 a.1 (List.mem_map.2 ⟨a, ha, rfl⟩) f.nm (by simp) he
      simpa using this
  rw [h1, List.filter_filter, List.filter_map]
  congr 1
  congr 1
  refine List.filter_congr fun x _ => ?_
  simp only [Function.comp_apply, ← Bool.decide_and]
  refine decide_eq_decide.2 ?_
  exact ⟨fun h => ⟨h.2, h.1⟩, fun h => ⟨h.2, h.1⟩⟩
attribute [local irreducible] wpC wpO wpD Ex Rd callsK RetP Drop valK
set_option maxHeartbeats 4000000 in
set_option maxRecDepth 100000 in
theorem rrename_D (e : World) {s t : ByteArray} {F : Hp} {d : Nat} {x : Rk} {room : Int} {K : Value → Hp → Prop} (hx : x.ok room) (hcap : totA (x.fs.map Rf.ab) ≤ 140737488355328)
    (hK : ∀ r' : Rk, r'.ok room → r'.ds.F (x.ds.rename s t).2 → K (.int .i64 (x.ds.rename s t).1) (r'.hp d room ++ F)) :
    callsK Tryz.prog e 49 #[pv d, .string s, .string t] (x.hp d room ++ F) K := by
  have hR : (x.ds.rename s t).2.ok room := hx.s.run ⟨4, s, t, none, 0, [], 0, 0⟩ (show (0 : Int) ≤ 9223372036854775807 by decide)
  obtain ⟨hO, hP, hs, hds, hk⟩ := hx; obtain ⟨fs, v, B, Pl, fuse, k, down⟩ := x; simp only at hO hP hs hk hK hR hcap ⊢; have hl : fs.length ≤ 1024 := (by have := hds.len; simpa using this); have hf0 := hds.l0; have hf1 := hds.l1; have hsy : ∀ f ∈ fs, f.syn ≤ f.bs.length := (fun f hf => hds.syn f.ab (List.mem_map.2 ⟨f, hf, rfl⟩)); simp only at hf0 hf1
  refine calls_body (N := 75) (args := [pv d, .string s, .string t]) Tryz.func49 rfl rfl rfl (by simp) ?_
  repeat' ((fail_if_success (show wpC _ (.region 7 _ _) _ _ _ _)); first | (show wpO _ _ _ _ _ _ _; first | refine wpO_nil ?_ | (show wpO _ _ _ (⟨_, .binOp _ _ _ _ _, _, _, _, _⟩ :: _) _ _ _; first | refine s_tt ?_ | refine s_ff ?_ | refine s_rdp ?_ | (refine s_cmp (fun _ => ?_) (fun _ => ?_) <;> (first | (exfalso; omega) | contradiction | skip)) | (refine s_cb (fun _ => ?_) (fun _ => ?_) <;> (first | (exfalso; omega) | contradiction | skip))) | (show wpO _ _ _ (⟨_, .indexAddr _ _ _, _, _, _, _⟩ :: _) _ _ _; first | refine s_rdp ?_ | refine s_idx (fun _ _ _ _ _ _ _ => ?_)) | (show wpO _ _ _ (⟨_, .slice _ _ _ _ _, _, _, _, _⟩ :: _) _ _ _; first | refine s_rdp ?_ | refine s_sliceHiT (fun _ _ => ?_) | refine s_clipO (fun _ _ => ?_) | refine s_sliceHi (fun _ _ => ?_) | refine s_sliceLo (fun _ _ => ?_)) | refine s_rdp ?_ | refine s_rdm ?_ | refine s_exq ?_ | refine s_exm ?_) | (show Ex _ _ _ _ _; first | (show Ex _ ⟨_, .call ⟨.value (.func _), _, _⟩, _, _, _, _⟩ _ _ _; refine e_call ?_; first | (apply p_pcs; apply rthere2 _ hO hl hs; (try case hS => assumption); (case hpcs => (repeat (first | exact Pcs.blk (by infer_instance) | exact Pcs.nil | (apply Pcs.cons; infer_instance) | apply Pcs.app)))) | (apply p_pcs; apply blows_spec _ hf0 hf1; (try case hS => assumption); (case hpcs => (repeat (first | exact Pcs.blk (by infer_instance) | exact Pcs.nil | (apply Pcs.cons; infer_instance) | apply Pcs.app)))) | (apply p_pcs; apply rcrash_spec _ hO hP hl hsy hcap hk; (try case hS => assumption); (case hpcs => (repeat (first | exact Pcs.blk (by infer_instance) | exact Pcs.nil | (apply Pcs.cons; infer_instance) | apply Pcs.app))))) | (show Ex _ ⟨_, .alloc _, _, _, _, _⟩ _ _ _; first | (refine e_allocA ?_; intro _) | (refine e_alloc1 ?_; intro _)) | (show Ex _ ⟨_, .store _ _ _, _, _, _, _⟩ _ _ _; first | refine e_store1 ?_ | refine e_storeA ?_ | (refine e_storeO ?_; intro _ _)) | (show Ex _ ⟨_, .buildSlice _ _ _, _, _, _, _⟩ _ _ _; first | (refine e_buildSlice ?_; intro _) | (refine e_buildNil ?_; intro _ _ _)) | (show Ex _ ⟨_, .call ⟨.builtin .append, _, _⟩, _, _, _, _⟩ _ _ _; (first | refine e_append ?_ | refine e_appendIn ?_); intro _ _ _)) | (show wpC _ _ _ _ _ _; first | refine wpC_seq ?_ | refine wpC_region ?_ | refine c_true ?_ | refine c_false ?_ | (refine c_b (fun _ => ?_) (fun _ => ?_) <;> (first | (exfalso; omega) | contradiction | skip)) | refine wpC_ret ?_ | refine wpC_skip ?_ | refine wpC_label ?_) | (show Then _ _ _ _ _ _ _; first | refine then_normal ?_ | refine then_ret ?_) | (show RetP _ _ _ _ _ _ _ _; first | refine r_1 ?_) | assumption | intro _)
  · exact q_drop (Rk.fin (fun H => H ++ F) hK hR hO hP hs hk (there_down ‹_›) (.rfl _))
  · exact q_drop (Rk.fin (fun H => H ++ F) hK hR hO hP hs hk (there_wrong ‹_› ‹_›) (.rfl _))
  · exact q_drop (Rk.fin (fun H => H ++ F) hK hR hO hP hs hk (there_none ‹_› ‹_› (notR ‹_›)) (.rfl _))
  · rename_i l1 f l2 hd hn hfs hnm hf 
    subst hfs
    subst hnm
    have hbf := hP f (by simp)
    have hrow := fsIn hO
    have hgi : (l1 ++ f :: l2)[l1.length]? = some f := by simp
    repeat' (first | (show wpO _ _ _ _ _ _ _; first | refine wpO_nil ?_ | (show wpO _ _ _ (⟨_, .binOp _ _ _ _ _, _, _, _, _⟩ :: _) _ _ _; first | refine s_tt ?_ | refine s_ff ?_ | refine s_rdp ?_ | (refine s_cmp (fun _ => ?_) (fun _ => ?_) <;> (first | (exfalso; omega) | contradiction | skip)) | (refine s_cb (fun _ => ?_) (fun _ => ?_) <;> (first | (exfalso; omega) | contradiction | skip))) | (show wpO _ _ _ (⟨_, .indexAddr _ _ _, _, _, _, _⟩ :: _) _ _ _; first | refine s_rdp ?_ | refine s_idx (fun _ _ _ _ _ _ _ => ?_)) | (show wpO _ _ _ (⟨_, .slice _ _ _ _ _, _, _, _, _⟩ :: _) _ _ _; first | refine s_rdp ?_ | refine s_sliceHiT (fun _ _ => ?_) | refine s_clipO (fun _ _ => ?_) | refine s_sliceHi (fun _ _ => ?_) | refine s_sliceLo (fun _ _ => ?_)) | refine s_rdp ?_ | refine s_rdm ?_ | refine s_exq ?_ | refine s_exm ?_) | (show Ex _ _ _ _ _; first | (show Ex _ ⟨_, .call ⟨.value (.func _), _, _⟩, _, _, _, _⟩ _ _ _; refine e_call ?_; first | (apply p_pcs; apply drop_spec _ hO hl hs; (try case hS => assumption); (case hpcs => (repeat (first | exact Pcs.blk (by infer_instance) | exact Pcs.nil | (apply Pcs.cons; infer_instance) | apply Pcs.app))))) | (show Ex _ ⟨_, .alloc _, _, _, _, _⟩ _ _ _; first | (refine e_allocA ?_; intro _) | (refine e_alloc1 ?_; intro _)) | (show Ex _ ⟨_, .store _ _ _, _, _, _, _⟩ _ _ _; first | refine e_store1 ?_ | refine e_storeA ?_ | (refine e_storeO ?_; intro _ _)) | (show Ex _ ⟨_, .buildSlice _ _ _, _, _, _, _⟩ _ _ _; first | (refine e_buildSlice ?_; intro _) | (refine e_buildNil ?_; intro _ _ _)) | (show Ex _ ⟨_, .call ⟨.builtin .append, _, _⟩, _, _, _, _⟩ _ _ _; (first | refine e_append ?_ | refine e_appendIn ?_); intro _ _ _)) | (show wpC _ _ _ _ _ _; first | refine wpC_seq ?_ | refine wpC_region ?_ | refine c_true ?_ | refine c_false ?_ | (refine c_b (fun _ => ?_) (fun _ => ?_) <;> (first | (exfalso; omega) | contradiction | skip)) | refine wpC_ret ?_ | refine wpC_skip ?_ | refine wpC_label ?_) | (show Then _ _ _ _ _ _ _; first | refine then_normal ?_ | refine then_ret ?_) | (show RetP _ _ _ _ _ _ _ _; first | refine r_1 ?_) | assumption | intro _)
    rename_i bx v1 B1 hO1
    have hl1 : ((l1 ++ f :: l2).filter fun x => decide (x.nm ≠ f.nm)).length ≤ 1024 := Nat.le_trans (List.length_filter_le _ _) hl
    have hs1 := hs.sublist (List.filter_sublist (p := fun x : Rf => decide (x.nm ≠ f.nm)))
    repeat' (first | (show wpO _ _ _ _ _ _ _; first | refine wpO_nil ?_ | (show wpO _ _ _ (⟨_, .binOp _ _ _ _ _, _, _, _, _⟩ :: _) _ _ _; first | refine s_tt ?_ | refine s_ff ?_ | refine s_rdp ?_ | (refine s_cmp (fun _ => ?_) (fun _ => ?_) <;> (first | (exfalso; omega) | contradiction | skip)) | (refine s_cb (fun _ => ?_) (fun _ => ?_) <;> (first | (exfalso; omega) | contradiction | skip))) | (show wpO _ _ _ (⟨_, .indexAddr _ _ _, _, _, _, _⟩ :: _) _ _ _; first | refine s_rdp ?_ | refine s_idx (fun _ _ _ _ _ _ _ => ?_)) | (show wpO _ _ _ (⟨_, .slice _ _ _ _ _, _, _, _, _⟩ :: _) _ _ _; first | refine s_rdp ?_ | refine s_sliceHiT (fun _ _ => ?_) | refine s_clipO (fun _ _ => ?_) | refine s_sliceHi (fun _ _ => ?_) | refine s_sliceLo (fun _ _ => ?_)) | refine s_rdp ?_ | refine s_rdm ?_ | refine s_exq ?_ | refine s_exm ?_) | (show Ex _ _ _ _ _; first | (show Ex _ ⟨_, .call ⟨.value (.func _), _, _⟩, _, _, _, _⟩ _ _ _; refine e_call ?_; first | (apply p_pcs; apply drop_spec _ hO1 hl1 hs1; (try case hS => assumption); (case hpcs => (repeat (first | exact Pcs.blk (by infer_instance) | exact Pcs.nil | (apply Pcs.cons; infer_instance) | apply Pcs.app))))) | (show Ex _ ⟨_, .alloc _, _, _, _, _⟩ _ _ _; first | (refine e_allocA ?_; intro _) | (refine e_alloc1 ?_; intro _)) | (show Ex _ ⟨_, .store _ _ _, _, _, _, _⟩ _ _ _; first | refine e_store1 ?_ | refine e_storeA ?_ | (refine e_storeO ?_; intro _ _)) | (show Ex _ ⟨_, .buildSlice _ _ _, _, _, _, _⟩ _ _ _; first | (refine e_buildSlice ?_; intro _) | (refine e_buildNil ?_; intro _ _ _)) | (show Ex _ ⟨_, .call ⟨.builtin .append, _, _⟩, _, _, _, _⟩ _ _ _; (first | refine e_append ?_ | refine e_appendIn ?_); intro _ _ _)) | (show wpC _ _ _ _ _ _; first | refine wpC_seq ?_ | refine wpC_region ?_ | refine c_true ?_ | refine c_false ?_ | (refine c_b (fun _ => ?_) (fun _ => ?_) <;> (first | (exfalso; omega) | contradiction | skip)) | refine wpC_ret ?_ | refine wpC_skip ?_ | refine wpC_label ?_) | (show Then _ _ _ _ _ _ _; first | refine then_normal ?_ | refine then_ret ?_) | (show RetP _ _ _ _ _ _ _ _; first | refine r_1 ?_) | assumption | intro _)
    rename_i v2 B2 hO2
    have hs2 := hs1.sublist (List.filter_sublist (p := fun x : Rf => decide (x.nm ≠ t)))
    have hl2 := Nat.le_trans (List.length_filter_le (fun x : Rf => decide (x.nm ≠ t)) _) hl1
    have hno : ∀ x ∈ ((l1 ++ f :: l2).filter fun x => decide (x.nm ≠ f.nm)).filter (fun x => decide (x.nm ≠ t)), x.nm ≠ t ∧ x.nm ≠ f.nm ∧ x ∈ l1 ++ f :: l2 := fun x hx => by
      have h1 := List.mem_filter.1 hx
      have h2 := List.mem_filter.1 h1.1
      exact ⟨by simpa using h1.2, by simpa using h2.2, h2.1⟩
    have hren : ((((l1 ++ f :: l2).filter fun x => decide (x.nm ≠ f.nm)).filter (fun x => decide (x.nm ≠ t))).map Rf.ab ++ [(t, f.bs, f.syn)]) = renA ((l1 ++ f :: l2).map Rf.ab) f.nm t := ren_ab hs
    generalize ((l1 ++ f :: l2).filter fun x => decide (x.nm ≠ f.nm)).filter (fun x => decide (x.nm ≠ t)) = gs at *
    clear hO1 hl1 hs1 hrow hO
    repeat' ((fail_if_success (show wpC _ (.region 12 _ _) _ _ _ _)); first | (show wpO _ _ _ _ _ _ _; first | refine wpO_nil ?_ | (show wpO _ _ _ (⟨_, .binOp _ _ _ _ _, _, _, _, _⟩ :: _) _ _ _; first | refine s_tt ?_ | refine s_ff ?_ | refine s_rdp ?_ | (refine s_cmp (fun _ => ?_) (fun _ => ?_) <;> (first | (exfalso; omega) | contradiction | skip)) | (refine s_cb (fun _ => ?_) (fun _ => ?_) <;> (first | (exfalso; omega) | contradiction | skip))) | (show wpO _ _ _ (⟨_, .indexAddr _ _ _, _, _, _, _⟩ :: _) _ _ _; first | refine s_rdp ?_ | refine s_idx (fun _ _ _ _ _ _ _ => ?_)) | (show wpO _ _ _ (⟨_, .slice _ _ _ _ _, _, _, _, _⟩ :: _) _ _ _; first | refine s_rdp ?_ | refine s_sliceHiT (fun _ _ => ?_) | refine s_clipO (fun _ _ => ?_) | refine s_sliceHi (fun _ _ => ?_) | refine s_sliceLo (fun _ _ => ?_)) | refine s_rdp ?_ | refine s_rdm ?_ | refine s_exq ?_ | refine s_exm ?_) | (show Ex _ _ _ _ _; first | (show Ex _ ⟨_, .call ⟨.value (.func _), _, _⟩, _, _, _, _⟩ _ _ _; refine e_call ?_; first | (apply p_pcs; apply find_spec _ hO2 hl2 hs2; (try case hS => assumption); (case hpcs => (repeat (first | exact Pcs.blk (by infer_instance) | exact Pcs.nil | (apply Pcs.cons; infer_instance) | apply Pcs.app))))) | (show Ex _ ⟨_, .alloc _, _, _, _, _⟩ _ _ _; first | (refine e_allocA ?_; intro _) | (refine e_alloc1 ?_; intro _)) | (show Ex _ ⟨_, .store _ _ _, _, _, _, _⟩ _ _ _; first | refine e_store1 ?_ | refine e_storeA ?_ | (refine e_storeO ?_; intro _ _)) | (show Ex _ ⟨_, .buildSlice _ _ _, _, _, _, _⟩ _ _ _; first | (refine e_buildSlice ?_; intro _) | (refine e_buildNil ?_; intro _ _ _)) | (show Ex _ ⟨_, .call ⟨.builtin .append, _, _⟩, _, _, _, _⟩ _ _ _; (first | refine e_append ?_ | refine e_appendIn ?_); intro _ _ _)) | (show wpC _ _ _ _ _ _; first | refine wpC_seq ?_ | refine wpC_region ?_ | refine c_true ?_ | refine c_false ?_ | (refine c_b (fun _ => ?_) (fun _ => ?_) <;> (first | (exfalso; omega) | contradiction | skip)) | refine wpC_ret ?_ | refine wpC_skip ?_ | refine wpC_label ?_) | (show Then _ _ _ _ _ _ _; first | refine then_normal ?_ | refine then_ret ?_) | (show RetP _ _ _ _ _ _ _ _; first | refine r_1 ?_) | assumption | intro _)
    · rename_i m1 g m2 hgs hg
      subst hgs
      exact absurd hg (hno g (by simp)).1
    · rename_i m1 m2 hgs hlt hgt
      subst hgs
      have hin := fsIn hO2
      have hnil96 := SlO.nil 62 3
      have hll : m1.length ≤ (m1 ++ m2).length := by simp
      repeat' (first | (refine s_sliceHi (fun _ _ => ?_)) | (refine s_sliceLo (fun _ _ => ?_)) | (show wpO _ _ _ _ _ _ _; first | refine wpO_nil ?_ | (show wpO _ _ _ (⟨_, .binOp _ _ _ _ _, _, _, _, _⟩ :: _) _ _ _; first | refine s_tt ?_ | refine s_ff ?_ | refine s_rdp ?_ | (refine s_cmp (fun _ => ?_) (fun _ => ?_) <;> (first | (exfalso; omega) | contradiction | skip)) | (refine s_cb (fun _ => ?_) (fun _ => ?_) <;> (first | (exfalso; omega) | contradiction | skip))) | (show wpO _ _ _ (⟨_, .indexAddr _ _ _, _, _, _, _⟩ :: _) _ _ _; first | refine s_rdp ?_ | refine s_idx (fun _ _ _ _ _ _ _ => ?_)) | (show wpO _ _ _ (⟨_, .slice _ _ _ _ _, _, _, _, _⟩ :: _) _ _ _; first | refine s_rdp ?_ | refine s_sliceHiT (fun _ _ => ?_) | refine s_clipO (fun _ _ => ?_) | refine s_sliceHi (fun _ _ => ?_) | refine s_sliceLo (fun _ _ => ?_)) | refine s_rdp ?_ | refine s_rdm ?_ | refine s_exq ?_ | refine s_exm ?_) | (show Ex _ _ _ _ _; first | (show Ex _ ⟨_, .alloc _, _, _, _, _⟩ _ _ _; first | (refine e_allocA ?_; intro _) | (refine e_alloc1 ?_; intro _)) | (show Ex _ ⟨_, .store _ _ _, _, _, _, _⟩ _ _ _; first | refine e_store1 ?_ | refine e_storeA ?_ | (refine e_storeO ?_; intro _ _)) | (show Ex _ ⟨_, .buildSlice _ _ _, _, _, _, _⟩ _ _ _; first | (refine e_buildSlice ?_; intro _) | (refine e_buildNil ?_; intro _ _ _)) | (show Ex _ ⟨_, .call ⟨.builtin .append, _, _⟩, _, _, _, _⟩ _ _ _; (first | refine e_append ?_ | refine e_appendIn ?_); intro _ _ _)) | (show wpC _ _ _ _ _ _; first | refine wpC_seq ?_ | refine wpC_region ?_ | refine c_true ?_ | refine c_false ?_ | (refine c_b (fun _ => ?_) (fun _ => ?_) <;> (first | (exfalso; omega) | contradiction | skip)) | refine wpC_ret ?_ | refine wpC_skip ?_ | refine wpC_label ?_) | (show Then _ _ _ _ _ _ _; first | refine then_normal ?_ | refine then_ret ?_) | (show RetP _ _ _ _ _ _ _ _; first | refine r_1 ?_))
      rename_i vt hvt va Ba ha bb vb2 Bb hb2 vd hvd vc Bc hc
      have hO3 : FsO vc (m1 ++ (⟨t, f.a, f.c, f.bs, f.syn⟩ : Rf) :: m2) Bc := by
        refine hc.cast ?_ ?_
        · simp
          omega
        · simp
      refine q_drop (Rk.fin (fun H => H ++ F) hK hR (Pl := Pl) hO3 (fun x hx => ?_) ?_ hk (there_0 hd hn (hasR_mid rfl) hf) ⟨?_, hf, .inr rfl, rfl⟩)
      · rcases List.mem_append.1 hx with hx | hx
        · exact hP x (hno x (List.mem_append_left _ hx)).2.2
        · rcases List.mem_cons.1 hx with rfl | hx
          · exact hbf
          · exact hP x (hno x (List.mem_append_right _ hx)).2.2
      · rw [List.pairwise_append] at hs2 ⊢
        refine ⟨hs2.1, List.pairwise_cons.2 ⟨hgt, hs2.2.1⟩, fun a ha b hb => ?_⟩
        rcases List.mem_cons.1 hb with rfl | hb
        · exact hlt a ha
        · exact hs2.2.2 a ha b hb
      · show (List.map Rf.ab _).Perm (renA _ _ _)
        rw [← hren]
        simp only [List.map_append, List.map_cons, List.append_assoc]
        exact (List.perm_append_comm (l₁ := [_]) (l₂ := m2.map Rf.ab)).append_left _
  · omega
  · exact absurd (‹down = false›.symm.trans ‹down = true›) (by simp)
  · rename_i l1 f l2 hd hn hfs hnm hf n hnn _ v2 B2 fs2 hO2 hP2 hnm2 hab2
    obtain rfl : k = n := by omega
    exact q_drop (Rk.fin (fun H => H ++ F) hK hR hO2 hP2 (nm_sorted hs hnm2) hk (s' := ⟨(fs.map Rf.ab).map (fell k), 0, 0, true⟩) (there_crash hd hn (by rw [hfs]; exact hasR_mid hnm) hf) ⟨by rw [hab2], rfl, .inl rfl, rfl⟩)
  · rename_i l1 f l2 hd hn hfs hnm hf hf2 
    subst hfs
    subst hnm
    have hbf := hP f (by simp)
    have hrow := fsIn hO
    have hgi : (l1 ++ f :: l2)[l1.length]? = some f := by simp
    repeat' (first | (show wpO _ _ _ _ _ _ _; first | refine wpO_nil ?_ | (show wpO _ _ _ (⟨_, .binOp _ _ _ _ _, _, _, _, _⟩ :: _) _ _ _; first | refine s_tt ?_ | refine s_ff ?_ | refine s_rdp ?_ | (refine s_cmp (fun _ => ?_) (fun _ => ?_) <;> (first | (exfalso; omega) | contradiction | skip)) | (refine s_cb (fun _ => ?_) (fun _ => ?_) <;> (first | (exfalso; omega) | contradiction | skip))) | (show wpO _ _ _ (⟨_, .indexAddr _ _ _, _, _, _, _⟩ :: _) _ _ _; first | refine s_rdp ?_ | refine s_idx (fun _ _ _ _ _ _ _ => ?_)) | (show wpO _ _ _ (⟨_, .slice _ _ _ _ _, _, _, _, _⟩ :: _) _ _ _; first | refine s_rdp ?_ | refine s_sliceHiT (fun _ _ => ?_) | refine s_clipO (fun _ _ => ?_) | refine s_sliceHi (fun _ _ => ?_) | refine s_sliceLo (fun _ _ => ?_)) | refine s_rdp ?_ | refine s_rdm ?_ | refine s_exq ?_ | refine s_exm ?_) | (show Ex _ _ _ _ _; first | (show Ex _ ⟨_, .call ⟨.value (.func _), _, _⟩, _, _, _, _⟩ _ _ _; refine e_call ?_; first | (apply p_pcs; apply drop_spec _ hO hl hs; (try case hS => assumption); (case hpcs => (repeat (first | exact Pcs.blk (by infer_instance) | exact Pcs.nil | (apply Pcs.cons; infer_instance) | apply Pcs.app))))) | (show Ex _ ⟨_, .alloc _, _, _, _, _⟩ _ _ _; first | (refine e_allocA ?_; intro _) | (refine e_alloc1 ?_; intro _)) | (show Ex _ ⟨_, .store _ _ _, _, _, _, _⟩ _ _ _; first | refine e_store1 ?_ | refine e_storeA ?_ | (refine e_storeO ?_; intro _ _)) | (show Ex _ ⟨_, .buildSlice _ _ _, _, _, _, _⟩ _ _ _; first | (refine e_buildSlice ?_; intro _) | (refine e_buildNil ?_; intro _ _ _)) | (show Ex _ ⟨_, .call ⟨.builtin .append, _, _⟩, _, _, _, _⟩ _ _ _; (first | refine e_append ?_ | refine e_appendIn ?_); intro _ _ _)) | (show wpC _ _ _ _ _ _; first | refine wpC_seq ?_ | refine wpC_region ?_ | refine c_true ?_ | refine c_false ?_ | (refine c_b (fun _ => ?_) (fun _ => ?_) <;> (first | (exfalso; omega) | contradiction | skip)) | refine wpC_ret ?_ | refine wpC_skip ?_ | refine wpC_label ?_) | (show Then _ _ _ _ _ _ _; first | refine then_normal ?_ | refine then_ret ?_) | (show RetP _ _ _ _ _ _ _ _; first | refine r_1 ?_) | assumption | intro _)
    rename_i bx v1 B1 hO1
    have hl1 : ((l1 ++ f :: l2).filter fun x => decide (x.nm ≠ f.nm)).length ≤ 1024 := Nat.le_trans (List.length_filter_le _ _) hl
    have hs1 := hs.sublist (List.filter_sublist (p := fun x : Rf => decide (x.nm ≠ f.nm)))
    repeat' (first | (show wpO _ _ _ _ _ _ _; first | refine wpO_nil ?_ | (show wpO _ _ _ (⟨_, .binOp _ _ _ _ _, _, _, _, _⟩ :: _) _ _ _; first | refine s_tt ?_ | refine s_ff ?_ | refine s_rdp ?_ | (refine s_cmp (fun _ => ?_) (fun _ => ?_) <;> (first | (exfalso; omega) | contradiction | skip)) | (refine s_cb (fun _ => ?_) (fun _ => ?_) <;> (first | (exfalso; omega) | contradiction | skip))) | (show wpO _ _ _ (⟨_, .indexAddr _ _ _, _, _, _, _⟩ :: _) _ _ _; first | refine s_rdp ?_ | refine s_idx (fun _ _ _ _ _ _ _ => ?_)) | (show wpO _ _ _ (⟨_, .slice _ _ _ _ _, _, _, _, _⟩ :: _) _ _ _; first | refine s_rdp ?_ | refine s_sliceHiT (fun _ _ => ?_) | refine s_clipO (fun _ _ => ?_) | refine s_sliceHi (fun _ _ => ?_) | refine s_sliceLo (fun _ _ => ?_)) | refine s_rdp ?_ | refine s_rdm ?_ | refine s_exq ?_ | refine s_exm ?_) | (show Ex _ _ _ _ _; first | (show Ex _ ⟨_, .call ⟨.value (.func _), _, _⟩, _, _, _, _⟩ _ _ _; refine e_call ?_; first | (apply p_pcs; apply drop_spec _ hO1 hl1 hs1; (try case hS => assumption); (case hpcs => (repeat (first | exact Pcs.blk (by infer_instance) | exact Pcs.nil | (apply Pcs.cons; infer_instance) | apply Pcs.app))))) | (show Ex _ ⟨_, .alloc _, _, _, _, _⟩ _ _ _; first | (refine e_allocA ?_; intro _) | (refine e_alloc1 ?_; intro _)) | (show Ex _ ⟨_, .store _ _ _, _, _, _, _⟩ _ _ _; first | refine e_store1 ?_ | refine e_storeA ?_ | (refine e_storeO ?_; intro _ _)) | (show Ex _ ⟨_, .buildSlice _ _ _, _, _, _, _⟩ _ _ _; first | (refine e_buildSlice ?_; intro _) | (refine e_buildNil ?_; intro _ _ _)) | (show Ex _ ⟨_, .call ⟨.builtin .append, _, _⟩, _, _, _, _⟩ _ _ _; (first | refine e_append ?_ | refine e_appendIn ?_); intro _ _ _)) | (show wpC _ _ _ _ _ _; first | refine wpC_seq ?_ | refine wpC_region ?_ | refine c_true ?_ | refine c_false ?_ | (refine c_b (fun _ => ?_) (fun _ => ?_) <;> (first | (exfalso; omega) | contradiction | skip)) | refine wpC_ret ?_ | refine wpC_skip ?_ | refine wpC_label ?_) | (show Then _ _ _ _ _ _ _; first | refine then_normal ?_ | refine then_ret ?_) | (show RetP _ _ _ _ _ _ _ _; first | refine r_1 ?_) | assumption | intro _)
    rename_i v2 B2 hO2
    have hs2 := hs1.sublist (List.filter_sublist (p := fun x : Rf => decide (x.nm ≠ t)))
    have hl2 := Nat.le_trans (List.length_filter_le (fun x : Rf => decide (x.nm ≠ t)) _) hl1
    have hno : ∀ x ∈ ((l1 ++ f :: l2).filter fun x => decide (x.nm ≠ f.nm)).filter (fun x => decide (x.nm ≠ t)), x.nm ≠ t ∧ x.nm ≠ f.nm ∧ x ∈ l1 ++ f :: l2 := fun x hx => by
      have h1 := List.mem_filter.1 hx
      have h2 := List.mem_filter.1 h1.1
      exact ⟨by simpa using h1.2, by simpa using h2.2, h2.1⟩
    have hren : ((((l1 ++ f :: l2).filter fun x => decide (x.nm ≠ f.nm)).filter (fun x => decide (x.nm ≠ t))).map Rf.ab ++ [(t, f.bs, f.syn)]) = renA ((l1 ++ f :: l2).map Rf.ab) f.nm t := ren_ab hs
    generalize ((l1 ++ f :: l2).filter fun x => decide (x.nm ≠ f.nm)).filter (fun x => decide (x.nm ≠ t)) = gs at *
    clear hO1 hl1 hs1 hrow hO
    repeat' ((fail_if_success (show wpC _ (.region 12 _ _) _ _ _ _)); first | (show wpO _ _ _ _ _ _ _; first | refine wpO_nil ?_ | (show wpO _ _ _ (⟨_, .binOp _ _ _ _ _, _, _, _, _⟩ :: _) _ _ _; first | refine s_tt ?_ | refine s_ff ?_ | refine s_rdp ?_ | (refine s_cmp (fun _ => ?_) (fun _ => ?_) <;> (first | (exfalso; omega) | contradiction | skip)) | (refine s_cb (fun _ => ?_) (fun _ => ?_) <;> (first | (exfalso; omega) | contradiction | skip))) | (show wpO _ _ _ (⟨_, .indexAddr _ _ _, _, _, _, _⟩ :: _) _ _ _; first | refine s_rdp ?_ | refine s_idx (fun _ _ _ _ _ _ _ => ?_)) | (show wpO _ _ _ (⟨_, .slice _ _ _ _ _, _, _, _, _⟩ :: _) _ _ _; first | refine s_rdp ?_ | refine s_sliceHiT (fun _ _ => ?_) | refine s_clipO (fun _ _ => ?_) | refine s_sliceHi (fun _ _ => ?_) | refine s_sliceLo (fun _ _ => ?_)) | refine s_rdp ?_ | refine s_rdm ?_ | refine s_exq ?_ | refine s_exm ?_) | (show Ex _ _ _ _ _; first | (show Ex _ ⟨_, .call ⟨.value (.func _), _, _⟩, _, _, _, _⟩ _ _ _; refine e_call ?_; first | (apply p_pcs; apply find_spec _ hO2 hl2 hs2; (try case hS => assumption); (case hpcs => (repeat (first | exact Pcs.blk (by infer_instance) | exact Pcs.nil | (apply Pcs.cons; infer_instance) | apply Pcs.app))))) | (show Ex _ ⟨_, .alloc _, _, _, _, _⟩ _ _ _; first | (refine e_allocA ?_; intro _) | (refine e_alloc1 ?_; intro _)) | (show Ex _ ⟨_, .store _ _ _, _, _, _, _⟩ _ _ _; first | refine e_store1 ?_ | refine e_storeA ?_ | (refine e_storeO ?_; intro _ _)) | (show Ex _ ⟨_, .buildSlice _ _ _, _, _, _, _⟩ _ _ _; first | (refine e_buildSlice ?_; intro _) | (refine e_buildNil ?_; intro _ _ _)) | (show Ex _ ⟨_, .call ⟨.builtin .append, _, _⟩, _, _, _, _⟩ _ _ _; (first | refine e_append ?_ | refine e_appendIn ?_); intro _ _ _)) | (show wpC _ _ _ _ _ _; first | refine wpC_seq ?_ | refine wpC_region ?_ | refine c_true ?_ | refine c_false ?_ | (refine c_b (fun _ => ?_) (fun _ => ?_) <;> (first | (exfalso; omega) | contradiction | skip)) | refine wpC_ret ?_ | refine wpC_skip ?_ | refine wpC_label ?_) | (show Then _ _ _ _ _ _ _; first | refine then_normal ?_ | refine then_ret ?_) | (show RetP _ _ _ _ _ _ _ _; first | refine r_1 ?_) | assumption | intro _)
    · rename_i m1 g m2 hgs hg
      subst hgs
      exact absurd hg (hno g (by simp)).1
    · rename_i m1 m2 hgs hlt hgt
      subst hgs
      have hin := fsIn hO2
      have hnil96 := SlO.nil 62 3
      have hll : m1.length ≤ (m1 ++ m2).length := by simp
      repeat' (first | (refine s_sliceHi (fun _ _ => ?_)) | (refine s_sliceLo (fun _ _ => ?_)) | (show wpO _ _ _ _ _ _ _; first | refine wpO_nil ?_ | (show wpO _ _ _ (⟨_, .binOp _ _ _ _ _, _, _, _, _⟩ :: _) _ _ _; first | refine s_tt ?_ | refine s_ff ?_ | refine s_rdp ?_ | (refine s_cmp (fun _ => ?_) (fun _ => ?_) <;> (first | (exfalso; omega) | contradiction | skip)) | (refine s_cb (fun _ => ?_) (fun _ => ?_) <;> (first | (exfalso; omega) | contradiction | skip))) | (show wpO _ _ _ (⟨_, .indexAddr _ _ _, _, _, _, _⟩ :: _) _ _ _; first | refine s_rdp ?_ | refine s_idx (fun _ _ _ _ _ _ _ => ?_)) | (show wpO _ _ _ (⟨_, .slice _ _ _ _ _, _, _, _, _⟩ :: _) _ _ _; first | refine s_rdp ?_ | refine s_sliceHiT (fun _ _ => ?_) | refine s_clipO (fun _ _ => ?_) | refine s_sliceHi (fun _ _ => ?_) | refine s_sliceLo (fun _ _ => ?_)) | refine s_rdp ?_ | refine s_rdm ?_ | refine s_exq ?_ | refine s_exm ?_) | (show Ex _ _ _ _ _; first | (show Ex _ ⟨_, .alloc _, _, _, _, _⟩ _ _ _; first | (refine e_allocA ?_; intro _) | (refine e_alloc1 ?_; intro _)) | (show Ex _ ⟨_, .store _ _ _, _, _, _, _⟩ _ _ _; first | refine e_store1 ?_ | refine e_storeA ?_ | (refine e_storeO ?_; intro _ _)) | (show Ex _ ⟨_, .buildSlice _ _ _, _, _, _, _⟩ _ _ _; first | (refine e_buildSlice ?_; intro _) | (refine e_buildNil ?_; intro _ _ _)) | (show Ex _ ⟨_, .call ⟨.builtin .append, _, _⟩, _, _, _, _⟩ _ _ _; (first | refine e_append ?_ | refine e_appendIn ?_); intro _ _ _)) | (show wpC _ _ _ _ _ _; first | refine wpC_seq ?_ | refine wpC_region ?_ | refine c_true ?_ | refine c_false ?_ | (refine c_b (fun _ => ?_) (fun _ => ?_) <;> (first | (exfalso; omega) | contradiction | skip)) | refine wpC_ret ?_ | refine wpC_skip ?_ | refine wpC_label ?_) | (show Then _ _ _ _ _ _ _; first | refine then_normal ?_ | refine then_ret ?_) | (show RetP _ _ _ _ _ _ _ _; first | refine r_1 ?_))
      rename_i vt hvt va Ba ha bb vb2 Bb hb2 vd hvd vc Bc hc
      have hO3 : FsO vc (m1 ++ (⟨t, f.a, f.c, f.bs, f.syn⟩ : Rf) :: m2) Bc := by
        refine hc.cast ?_ ?_
        · simp
          omega
        · simp
      refine q_drop (Rk.fin (fun H => H ++ F) hK hR (Pl := Pl) hO3 (fun x hx => ?_) ?_ hk (there_2 hd hn (hasR_mid rfl) hf hf2) ⟨?_, rfl, .inr rfl, rfl⟩)
      · rcases List.mem_append.1 hx with hx | hx
        · exact hP x (hno x (List.mem_append_left _ hx)).2.2
        · rcases List.mem_cons.1 hx with rfl | hx
          · exact hbf
          · exact hP x (hno x (List.mem_append_right _ hx)).2.2
      · rw [List.pairwise_append] at hs2 ⊢
        refine ⟨hs2.1, List.pairwise_cons.2 ⟨hgt, hs2.2.1⟩, fun a ha b hb => ?_⟩
        rcases List.mem_cons.1 hb with rfl | hb
        · exact hlt a ha
        · exact hs2.2.2 a ha b hb
      · show (List.map Rf.ab _).Perm (renA _ _ _)
        rw [← hren]
        simp only [List.map_append, List.map_cons, List.append_assoc]
        exact (List.perm_append_comm (l₁ := [_]) (l₂ := m2.map Rf.ab)).append_left _
end Go.Vl

namespace Go.Vl
open Go.Proofs
set_option maxHeartbeats 4000000 in
set_option maxRecDepth 100000 in
theorem find_mid {l1 l2 : List Rf} {f : Rf} (hs : (l1 ++ f :: l2).Pairwise fun f g => ltN f.nm g.nm) : ((l1 ++ f :: l2).map Rf.ab).find? (fun a => decide (a.1 = f.nm)) = some f.ab :=
  find_ab (a := f.ab) (sorted_names hs) (List.mem_map.2 ⟨f, by simp, rfl⟩)
set_option maxHeartbeats 4000000 in
set_option maxRecDepth 100000 in
theorem find_not {fs : List Rf} {n : ByteArray} (h : ∀ f ∈ fs, f.nm ≠ n) : (fs.map Rf.ab).find? (fun a => decide (a.1 = n)) = none := by
  rw [List.find?_eq_none]
  intro a ha
  obtain ⟨f, hf, rfl⟩ := List.mem_map.1 ha
  simpa using h f hf
set_option maxHeartbeats 4000000 in
set_option maxRecDepth 100000 in
theorem readA_down {s : DS} {n : ByteArray} (h : s.down = true) : readA s n = ([], 7) := if_pos h
set_option maxHeartbeats 4000000 in
set_option maxRecDepth 100000 in
theorem readA_wrong {s : DS} {n : ByteArray} (h : s.down = false) (h2 : ¬ okN n) : readA s n = ([], 20) := by
  unfold readA
  rw [if_neg (by simp [h]), if_pos h2]
set_option maxHeartbeats 4000000 in
set_option maxRecDepth 100000 in
theorem readA_none {s : DS} {n : ByteArray} (h : s.down = false) (h2 : okN n) (h3 : s.L.find? (fun a => decide (a.1 = n)) = none) : readA s n = ([], 4) := by
  unfold readA
  rw [if_neg (by simp [h]), if_neg (by simpa using h2), h3]
set_option maxHeartbeats 4000000 in
set_option maxRecDepth 100000 in
theorem readA_some {s : DS} {n : ByteArray} {a : Ab} (h : s.down = false) (h2 : okN n) (h3 : s.L.find? (fun a => decide (a.1 = n)) = some a) : readA s n = (a.2.1, 0) := by
  unfold readA
  rw [if_neg (by simp [h]), if_neg (by simpa using h2), h3]
set_option maxHeartbeats 4000000 in
set_option maxRecDepth 100000 in
theorem sizeA_down {s : DS} {n : ByteArray} (h : s.down = true) : sizeA s n = (0, 0, 7) := if_pos h
set_option maxHeartbeats 4000000 in
set_option maxRecDepth 100000 in
theorem sizeA_wrong {s : DS} {n : ByteArray} (h : s.down = false) (h2 : ¬ okN n) : sizeA s n = (0, 0, 20) := by
  unfold sizeA
  rw [if_neg (by simp [h]), if_pos h2]
set_option maxHeartbeats 4000000 in
set_option maxRecDepth 100000 in
theorem sizeA_none {s : DS} {n : ByteArray} (h : s.down = false) (h2 : okN n) (h3 : s.L.find? (fun a => decide (a.1 = n)) = none) : sizeA s n = (0, 0, 4) := by
  unfold sizeA
  rw [if_neg (by simp [h]), if_neg (by simpa using h2), h3]
set_option maxHeartbeats 4000000 in
set_option maxRecDepth 100000 in
theorem sizeA_some {s : DS} {n : ByteArray} {a : Ab} (h : s.down = false) (h2 : okN n) (h3 : s.L.find? (fun a => decide (a.1 = n)) = some a) : sizeA s n = ((a.2.1.length : Int), (a.2.2 : Int), 0) := by
  unfold sizeA
  rw [if_neg (by simp [h]), if_neg (by simpa using h2), h3]
attribute [local irreducible] wpC wpO wpD Ex Rd callsK RetP Drop valK
set_option maxHeartbeats 4000000 in
set_option maxRecDepth 100000 in
theorem rread_D (e : World) {s : ByteArray} {F : Hp} {d : Nat} {x : Rk} {room : Int} {K : Value → Hp → Prop} {bs : List UInt8} {q : Int} (hx : x.ok room) (hcap : totA (x.fs.map Rf.ab) ≤ 140737488355328) (hr : readA x.ds s = (bs, q))
    (hK : ∀ v B, BytO v bs B → K (.tuple #[v, .int .i64 q]) (B ++ (x.hp d room ++ F))) :
    callsK Tryz.prog e 50 #[pv d, .string s] (x.hp d room ++ F) K := by
  have hnil5 := SlO.nil 5 1
  obtain ⟨hO, hP, hs, hds, hk⟩ := hx; obtain ⟨fs, v, B, Pl, fuse, k, down⟩ := x; simp only at hO hP hs hk hK hcap ⊢; have hl : fs.length ≤ 1024 := (by have := hds.len; simpa using this); have hf0 := hds.l0; have hf1 := hds.l1; have hsy : ∀ f ∈ fs, f.syn ≤ f.bs.length := (fun f hf => hds.syn f.ab (List.mem_map.2 ⟨f, hf, rfl⟩)); simp only at hf0 hf1
  refine calls_body (N := 27) (args := [pv d, .string s]) Tryz.func50 rfl rfl rfl (by simp) ?_
  repeat' ((fail_if_success (show wpC _ (.region 4 _ _) _ _ _ _)); first | (show wpO _ _ _ _ _ _ _; first | refine wpO_nil ?_ | (show wpO _ _ _ (⟨_, .binOp _ _ _ _ _, _, _, _, _⟩ :: _) _ _ _; first | refine s_tt ?_ | refine s_ff ?_ | refine s_rdp ?_ | (refine s_cmp (fun _ => ?_) (fun _ => ?_) <;> (first | (exfalso; omega) | contradiction | skip)) | (refine s_cb (fun _ => ?_) (fun _ => ?_) <;> (first | (exfalso; omega) | contradiction | skip))) | (show wpO _ _ _ (⟨_, .indexAddr _ _ _, _, _, _, _⟩ :: _) _ _ _; first | refine s_rdp ?_ | refine s_idx (fun _ _ _ _ _ _ _ => ?_)) | refine s_rdp ?_ | refine s_rdm ?_ | refine s_exq ?_ | refine s_exm ?_) | (show Ex _ _ _ _ _; first | (show Ex _ ⟨_, .call ⟨.value (.func _), _, _⟩, _, _, _, _⟩ _ _ _; refine e_call ?_; first | (apply p_pcs; apply rthere1 _ hO hl hs; (try case hS => assumption); (case hpcs => (repeat (first | exact Pcs.blk (by infer_instance) | exact Pcs.nil | (apply Pcs.cons; infer_instance) | apply Pcs.app))))) | (show Ex _ ⟨_, .buildSlice _ _ _, _, _, _, _⟩ _ _ _; first | (refine e_buildSlice ?_; intro _) | (refine e_buildNil ?_; intro _ _ _)) | (show Ex _ ⟨_, .call ⟨.builtin .append, _, _⟩, _, _, _, _⟩ _ _ _; (first | refine e_append ?_ | refine e_appendIn ?_); intro _ _ _)) | (show wpC _ _ _ _ _ _; first | refine wpC_seq ?_ | refine wpC_region ?_ | refine c_true ?_ | refine c_false ?_ | (refine c_b (fun _ => ?_) (fun _ => ?_) <;> (first | (exfalso; omega) | contradiction | skip)) | refine wpC_ret ?_ | refine wpC_skip ?_ | refine wpC_label ?_) | (show Then _ _ _ _ _ _ _; first | refine then_normal ?_ | refine then_ret ?_) | (show RetP _ _ _ _ _ _ _ _; first | refine r_2 ?_) | assumption | intro _)
  · rw [readA_down ‹_›] at hr
    cases hr
    exact q_drop (hK _ [] hnil5)
  · rw [readA_wrong ‹_› ‹_›] at hr
    cases hr
    exact q_drop (hK _ [] hnil5)
  · rw [readA_none ‹_› ‹_› (find_not ‹_›)] at hr
    cases hr
    exact q_drop (hK _ [] hnil5)
  · rename_i l1 f l2 hd hn hfs hnm
    subst hfs
    subst hnm
    have hin := fsIn hO
    have hgi : (l1 ++ f :: l2)[l1.length]? = some f := by simp
    have hbf := hP f (by simp)
    have hle : f.bs.length ≤ totA ((l1 ++ f :: l2).map Rf.ab) := totA_mem (a := f.ab) (List.mem_map.2 ⟨f, by simp, rfl⟩)
    rw [readA_some hd hn (find_mid hs)] at hr
    cases hr
    clear hO
    repeat' (first | (refine s_idx (hin := hin) (fun _ _ _ _ _ _ _ => ?_)) | (show wpO _ _ _ _ _ _ _; first | refine wpO_nil ?_ | (show wpO _ _ _ (⟨_, .binOp _ _ _ _ _, _, _, _, _⟩ :: _) _ _ _; first | refine s_tt ?_ | refine s_ff ?_ | refine s_rdp ?_ | (refine s_cmp (fun _ => ?_) (fun _ => ?_) <;> (first | (exfalso; omega) | contradiction | skip)) | (refine s_cb (fun _ => ?_) (fun _ => ?_) <;> (first | (exfalso; omega) | contradiction | skip))) | (show wpO _ _ _ (⟨_, .indexAddr _ _ _, _, _, _, _⟩ :: _) _ _ _; first | refine s_rdp ?_ | refine s_idx (fun _ _ _ _ _ _ _ => ?_)) | refine s_rdp ?_ | refine s_rdm ?_ | refine s_exq ?_ | refine s_exm ?_) | (show Ex _ _ _ _ _; first | (show Ex _ ⟨_, .buildSlice _ _ _, _, _, _, _⟩ _ _ _; first | (refine e_buildSlice ?_; intro _) | (refine e_buildNil ?_; intro _ _ _)) | (show Ex _ ⟨_, .call ⟨.builtin .append, _, _⟩, _, _, _, _⟩ _ _ _; (first | refine e_append ?_ | refine e_appendIn ?_); intro _ _ _)) | (show wpC _ _ _ _ _ _; first | refine wpC_seq ?_ | refine wpC_region ?_ | refine c_true ?_ | refine c_false ?_ | (refine c_b (fun _ => ?_) (fun _ => ?_) <;> (first | (exfalso; omega) | contradiction | skip)) | refine wpC_ret ?_ | refine wpC_skip ?_ | refine wpC_label ?_) | (show Then _ _ _ _ _ _ _; first | refine then_normal ?_ | refine then_ret ?_) | (show RetP _ _ _ _ _ _ _ _; first | refine r_2 ?_))
    rename_i v' B' hB
    have hB' : BytO v' f.bs B' := by
      rw [Nat.zero_add, List.nil_append] at hB
      exact hB
    exact q_drop (hK v' B' hB')
set_option maxHeartbeats 4000000 in
set_option maxRecDepth 100000 in
theorem rnames_D (e : World) {F : Hp} {d : Nat} {x : Rk} {room : Int} {K : Value → Hp → Prop} (hx : x.ok room)
    (hK : ∀ v B, SlO 9 1 v x.fs.length (x.fs.map fun f => Value.string f.nm) B → K v (B ++ (x.hp d room ++ F))) :
    callsK Tryz.prog e 13 #[pv d] (x.hp d room ++ F) K := by
  have hcap : True := trivial
  obtain ⟨hO, hP, hs, hds, hk⟩ := hx; obtain ⟨fs, v, B, Pl, fuse, k, down⟩ := x; simp only at hO hP hs hk hK hcap ⊢; have hl : fs.length ≤ 1024 := (by have := hds.len; simpa using this); have hf0 := hds.l0; have hf1 := hds.l1; have hsy : ∀ f ∈ fs, f.syn ≤ f.bs.length := (fun f hf => hds.syn f.ab (List.mem_map.2 ⟨f, hf, rfl⟩)); simp only at hf0 hf1
  have hin := fsIn hO
  refine calls_body (N := 26) (args := [pv d]) Tryz.func13 rfl rfl rfl (by simp) ?_
  repeat' (first | (show wpO _ _ _ _ _ _ _; first | refine wpO_nil ?_ | (show wpO _ _ _ (⟨_, .binOp _ _ _ _ _, _, _, _, _⟩ :: _) _ _ _; first | refine s_tt ?_ | refine s_ff ?_ | refine s_rdp ?_ | (refine s_cmp (fun _ => ?_) (fun _ => ?_) <;> (first | (exfalso; omega) | contradiction | skip)) | (refine s_cb (fun _ => ?_) (fun _ => ?_) <;> (first | (exfalso; omega) | contradiction | skip))) | (show wpO _ _ _ (⟨_, .indexAddr _ _ _, _, _, _, _⟩ :: _) _ _ _; first | refine s_rdp ?_ | refine s_idx (fun _ _ _ _ _ _ _ => ?_)) | refine s_rdp ?_ | refine s_rdm ?_ | refine s_exq ?_ | refine s_exm ?_) | (show Ex _ _ _ _ _; first | (show Ex _ ⟨_, .buildSlice _ _ _, _, _, _, _⟩ _ _ _; first | (refine e_buildSlice ?_; intro _) | (refine e_buildNil ?_; intro _ _ _)) | (show Ex _ ⟨_, .call ⟨.builtin .append, _, _⟩, _, _, _, _⟩ _ _ _; (first | refine e_append ?_ | refine e_appendIn ?_); intro _ _ _)) | (show wpC _ _ _ _ _ _; first | refine wpC_seq ?_ | refine wpC_region ?_ | refine c_true ?_ | refine c_false ?_ | (refine c_b (fun _ => ?_) (fun _ => ?_) <;> (first | (exfalso; omega) | contradiction | skip)) | refine wpC_block ?_ | refine wpC_ret ?_ | refine wpC_skip ?_ | refine wpC_exit ?_ | refine wpC_label ?_) | (show Then _ _ _ _ _ _ _; first | refine then_normal ?_ | refine then_ret ?_ | refine then_exit ?_) | (show InBlock _ _ _ _ _ _; first | refine inBlock_normal ?_ | refine inBlock_ret ?_ | refine inBlock_same ?_ | refine b_other ?_) | (show LoopPost _ _ _ _ _ _; first | refine loop_ret ?_ | refine loop_exit ?_) | (show RetP _ _ _ _ _ _ _ _; first | refine r_1 ?_))
  refine wpC_loopA (κ := Nat × Value × Hp) [3, 4, 5, 6, 7, 8, 9, 10, 11, 12, 13, 14, 15, 16, 17, 18, 19, 20, 21, 22, 23, 24] (fun s => [(3, s.2.1), (4, .int .i64 (s.1 : Int))]) (fun s => (rblk d room v fuse k down ++ (B ++ Pl)) ++ (s.2.2 ++ F))
    (fun s => s.1 ≤ fs.length ∧ SlO 9 1 s.2.1 s.1 ((fs.take s.1).map fun f => Value.string f.nm) s.2.2) (fun s => fs.length - s.1) (0, .slice none 0 0, []) ⟨Nat.zero_le _, by simpa using SlO.nil 9 1⟩ ⟨rfl, rfl, trivial⟩ q_drp ?_
  rintro ⟨i, w, Bw⟩ ρx ⟨hi, hw⟩
  simp only at hi hw ⊢
  clear hO
  cases hr : fs[i]? with
  | none =>
    have hge : fs.length ≤ i := List.getElem?_eq_none_iff.1 hr
    obtain rfl : i = fs.length := by omega
    repeat' (first | (show wpO _ _ _ _ _ _ _; first | refine wpO_nil ?_ | (show wpO _ _ _ (⟨_, .binOp _ _ _ _ _, _, _, _, _⟩ :: _) _ _ _; first | refine s_tt ?_ | refine s_ff ?_ | refine s_rdp ?_ | (refine s_cmp (fun _ => ?_) (fun _ => ?_) <;> (first | (exfalso; omega) | contradiction | skip)) | (refine s_cb (fun _ => ?_) (fun _ => ?_) <;> (first | (exfalso; omega) | contradiction | skip))) | (show wpO _ _ _ (⟨_, .indexAddr _ _ _, _, _, _, _⟩ :: _) _ _ _; first | refine s_rdp ?_ | refine s_idx (fun _ _ _ _ _ _ _ => ?_)) | refine s_rdp ?_ | refine s_rdm ?_ | refine s_exq ?_ | refine s_exm ?_) | (show Ex _ _ _ _ _; first | (show Ex _ ⟨_, .buildSlice _ _ _, _, _, _, _⟩ _ _ _; first | (refine e_buildSlice ?_; intro _) | (refine e_buildNil ?_; intro _ _ _)) | (show Ex _ ⟨_, .call ⟨.builtin .append, _, _⟩, _, _, _, _⟩ _ _ _; (first | refine e_append ?_ | refine e_appendIn ?_); intro _ _ _)) | (show wpC _ _ _ _ _ _; first | refine wpC_seq ?_ | refine wpC_region ?_ | refine c_true ?_ | refine c_false ?_ | (refine c_b (fun _ => ?_) (fun _ => ?_) <;> (first | (exfalso; omega) | contradiction | skip)) | refine wpC_block ?_ | refine wpC_ret ?_ | refine wpC_skip ?_ | refine wpC_exit ?_ | refine wpC_label ?_) | (show Then _ _ _ _ _ _ _; first | refine then_normal ?_ | refine then_ret ?_ | refine then_exit ?_) | (show InBlock _ _ _ _ _ _; first | refine inBlock_normal ?_ | refine inBlock_ret ?_ | refine inBlock_same ?_ | refine b_other ?_) | (show LoopPost _ _ _ _ _ _; first | refine loop_ret ?_ | refine loop_exit ?_) | (show RetP _ _ _ _ _ _ _ _; first | refine r_1 ?_))
    rw [List.take_length] at hw
    exact q_drop (hK w Bw hw)
  | some f =>
    have hlt := (List.getElem?_eq_some_iff.1 hr).1
    repeat' (first | (show wpO _ _ _ _ _ _ _; first | refine wpO_nil ?_ | (show wpO _ _ _ (⟨_, .binOp _ _ _ _ _, _, _, _, _⟩ :: _) _ _ _; first | refine s_tt ?_ | refine s_ff ?_ | refine s_rdp ?_ | (refine s_cmp (fun _ => ?_) (fun _ => ?_) <;> (first | (exfalso; omega) | contradiction | skip)) | (refine s_cb (fun _ => ?_) (fun _ => ?_) <;> (first | (exfalso; omega) | contradiction | skip))) | (show wpO _ _ _ (⟨_, .indexAddr _ _ _, _, _, _, _⟩ :: _) _ _ _; first | refine s_rdp ?_ | refine s_idx (fun _ _ _ _ _ _ _ => ?_)) | refine s_rdp ?_ | refine s_rdm ?_ | refine s_exq ?_ | refine s_exm ?_) | (show Ex _ _ _ _ _; first | (show Ex _ ⟨_, .buildSlice _ _ _, _, _, _, _⟩ _ _ _; first | (refine e_buildSlice ?_; intro _) | (refine e_buildNil ?_; intro _ _ _)) | (show Ex _ ⟨_, .call ⟨.builtin .append, _, _⟩, _, _, _, _⟩ _ _ _; (first | refine e_append ?_ | refine e_appendIn ?_); intro _ _ _)) | (show wpC _ _ _ _ _ _; first | refine wpC_seq ?_ | refine wpC_region ?_ | refine c_true ?_ | refine c_false ?_ | (refine c_b (fun _ => ?_) (fun _ => ?_) <;> (first | (exfalso; omega) | contradiction | skip)) | refine wpC_block ?_ | refine wpC_ret ?_ | refine wpC_skip ?_ | refine wpC_exit ?_ | refine wpC_label ?_) | (show Then _ _ _ _ _ _ _; first | refine then_normal ?_ | refine then_ret ?_ | refine then_exit ?_) | (show InBlock _ _ _ _ _ _; first | refine inBlock_normal ?_ | refine inBlock_ret ?_ | refine inBlock_same ?_ | refine b_other ?_) | (show LoopPost _ _ _ _ _ _; first | refine loop_ret ?_ | refine loop_exit ?_) | (show RetP _ _ _ _ _ _ _ _; first | refine r_1 ?_))
    rename_i w2 B2 hw2
    exact lp_end (i + 1, w2, B2) (by simp only; omega) ⟨hlt, hw2.cast rfl (by simp [List.take_add_one, hr])⟩
set_option maxHeartbeats 4000000 in
set_option maxRecDepth 100000 in
theorem rsetFuse_D (e : World) {a b : Int} {F : Hp} {d : Nat} {x : Rk} {room : Int} {K : Value → Hp → Prop} (hx : x.ok room) (ha : a ≤ 9223372036854775807) (hb : b ≤ 9223372036854775807)
    (hK : ∀ r' : Rk, r'.ok room → r'.ds.F (x.ds.setFuse a b).2 → K (.int .i64 (x.ds.setFuse a b).1) (r'.hp d room ++ F)) :
    callsK Tryz.prog e 20 #[pv d, .int .i64 a, .int .i64 b] (x.hp d room ++ F) K := by
  have hR : (x.ds.setFuse a b).2.ok room := hx.s.run ⟨6, sA, sA, none, 0, [], a, b⟩ ha
  obtain ⟨hO, hP, hs, hds, hk⟩ := hx; obtain ⟨fs, v, B, Pl, fuse, k, down⟩ := x; simp only at hO hP hs hk hK hR ⊢; have hl : fs.length ≤ 1024 := (by have := hds.len; simpa using this); have hf0 := hds.l0; have hf1 := hds.l1; have hsy : ∀ f ∈ fs, f.syn ≤ f.bs.length := (fun f hf => hds.syn f.ab (List.mem_map.2 ⟨f, hf, rfl⟩)); simp only at hf0 hf1
  by_cases hb0 : b < 0
  · refine calls_body (N := 25) (args := [pv d, .int .i64 a, .int .i64 b]) Tryz.func20 rfl rfl rfl (by simp) ?_
    repeat' (first | (show wpO _ _ _ _ _ _ _; first | refine wpO_nil ?_ | (show wpO _ _ _ (⟨_, .binOp _ _ _ _ _, _, _, _, _⟩ :: _) _ _ _; first | refine s_tt ?_ | refine s_ff ?_ | refine s_rdp ?_ | (refine s_cmp (fun _ => ?_) (fun _ => ?_) <;> (first | (exfalso; omega) | contradiction | skip)) | (refine s_cb (fun _ => ?_) (fun _ => ?_) <;> (first | (exfalso; omega) | contradiction | skip)) | refine s_sks ?_ | (refine s_g (fun _ => ?_) (fun _ => ?_) <;> (first | (exfalso; omega) | contradiction | skip))) | (show wpO _ _ _ (⟨_, .pick _ _ _, _, _, _, _⟩ :: _) _ _ _; first | refine s_rdp ?_ | (refine s_p (fun _ => ?_) (fun _ => ?_) <;> (first | (exfalso; omega) | contradiction | skip)) | refine s_sks ?_ | (refine s_g (fun _ => ?_) (fun _ => ?_) <;> (first | (exfalso; omega) | contradiction | skip))) | refine s_rdp ?_ | refine s_rdm ?_ | refine s_exq ?_ | refine s_exm ?_ | refine s_sks ?_ | refine s_skn ?_ | (refine s_g (fun _ => ?_) (fun _ => ?_) <;> (first | (exfalso; omega) | contradiction | skip))) | (show Ex _ _ _ _ _; first | (show Ex _ ⟨_, .store _ _ _, _, _, _, _⟩ _ _ _; first | refine e_store1 ?_ | refine e_storeA ?_ | (refine e_storeO ?_; intro _ _))) | (show wpC _ _ _ _ _ _; first | refine wpC_seq ?_ | refine wpC_region ?_ | refine c_true ?_ | refine c_false ?_ | (refine c_b (fun _ => ?_) (fun _ => ?_) <;> (first | (exfalso; omega) | contradiction | skip)) | refine wpC_ret ?_ | refine wpC_skip ?_ | refine wpC_label ?_) | (show Then _ _ _ _ _ _ _; first | refine then_normal ?_ | refine then_ret ?_) | (show RetP _ _ _ _ _ _ _ _; first | refine r_1 ?_))
    all_goals exact q_drop (Rk.fin (fun H => H ++ F) hK hR hO hP hs hk (if_pos (.inr hb0)) (.rfl _))
  obtain ⟨n, rfl⟩ := Int.eq_ofNat_of_zero_le (by omega : 0 ≤ b)
  refine calls_body (N := 25) (args := [pv d, .int .i64 a, .int .i64 (n : Int)]) Tryz.func20 rfl rfl rfl (by simp) ?_
  repeat' (first | (show wpO _ _ _ _ _ _ _; first | refine wpO_nil ?_ | (show wpO _ _ _ (⟨_, .binOp _ _ _ _ _, _, _, _, _⟩ :: _) _ _ _; first | refine s_tt ?_ | refine s_ff ?_ | refine s_rdp ?_ | (refine s_cmp (fun _ => ?_) (fun _ => ?_) <;> (first | (exfalso; omega) | contradiction | skip)) | (refine s_cb (fun _ => ?_) (fun _ => ?_) <;> (first | (exfalso; omega) | contradiction | skip)) | refine s_sks ?_ | (refine s_g (fun _ => ?_) (fun _ => ?_) <;> (first | (exfalso; omega) | contradiction | skip))) | (show wpO _ _ _ (⟨_, .pick _ _ _, _, _, _, _⟩ :: _) _ _ _; first | refine s_rdp ?_ | (refine s_p (fun _ => ?_) (fun _ => ?_) <;> (first | (exfalso; omega) | contradiction | skip)) | refine s_sks ?_ | (refine s_g (fun _ => ?_) (fun _ => ?_) <;> (first | (exfalso; omega) | contradiction | skip))) | refine s_rdp ?_ | refine s_rdm ?_ | refine s_exq ?_ | refine s_exm ?_ | refine s_sks ?_ | refine s_skn ?_ | (refine s_g (fun _ => ?_) (fun _ => ?_) <;> (first | (exfalso; omega) | contradiction | skip))) | (show Ex _ _ _ _ _; first | (show Ex _ ⟨_, .store _ _ _, _, _, _, _⟩ _ _ _; first | refine e_store1 ?_ | refine e_storeA ?_ | (refine e_storeO ?_; intro _ _))) | (show wpC _ _ _ _ _ _; first | refine wpC_seq ?_ | refine wpC_region ?_ | refine c_true ?_ | refine c_false ?_ | (refine c_b (fun _ => ?_) (fun _ => ?_) <;> (first | (exfalso; omega) | contradiction | skip)) | refine wpC_ret ?_ | refine wpC_skip ?_ | refine wpC_label ?_) | (show Then _ _ _ _ _ _ _; first | refine then_normal ?_ | refine then_ret ?_) | (show RetP _ _ _ _ _ _ _ _; first | refine r_1 ?_))
  · exact q_drop (Rk.fin (fun H => H ++ F) hK hR hO hP hs hk (if_pos (.inl ‹_›)) (.rfl _))
  · exact q_drop (Rk.fin (fun H => H ++ F) hK hR hO hP hs hk (s' := ⟨fs.map Rf.ab, fuse, k, down⟩) (by unfold DS.setFuse; rw [if_neg (by omega), if_pos ‹_›]) (.rfl _))
  · have hd : down = false := by first | exact ‹down = false› | simpa using ‹¬ down = true›
    refine q_drop (Rk.fin (fun H => H ++ F) hK hR (Pl := Pl) hO hP hs hb (s' := ⟨fs.map Rf.ab, a, n, down⟩) (by unfold DS.setFuse; rw [if_neg (by omega), if_neg (fun h => absurd (hd.symm.trans h) (by simp))]; rfl) (.rfl _))
set_option maxHeartbeats 4000000 in
set_option maxRecDepth 100000 in
theorem rcrash_D (e : World) {a : Int} {F : Hp} {d : Nat} {x : Rk} {room : Int} {K : Value → Hp → Prop} (hx : x.ok room) (hcap : totA (x.fs.map Rf.ab) ≤ 140737488355328) (ha : a ≤ 9223372036854775807)
    (hK : ∀ r' : Rk, r'.ok room → r'.ds.F (x.ds.crash a).2 → K (.int .i64 (x.ds.crash a).1) (r'.hp d room ++ F)) :
    callsK Tryz.prog e 22 #[pv d, .int .i64 a] (x.hp d room ++ F) K := by
  have hR : (x.ds.crash a).2.ok room := hx.s.run ⟨7, sA, sA, none, 0, [], 0, a⟩ (show (0 : Int) ≤ 9223372036854775807 by decide)
  obtain ⟨hO, hP, hs, hds, hk⟩ := hx; obtain ⟨fs, v, B, Pl, fuse, k, down⟩ := x; simp only at hO hP hs hk hK hR ⊢; have hl : fs.length ≤ 1024 := (by have := hds.len; simpa using this); have hf0 := hds.l0; have hf1 := hds.l1; have hsy : ∀ f ∈ fs, f.syn ≤ f.bs.length := (fun f hf => hds.syn f.ab (List.mem_map.2 ⟨f, hf, rfl⟩)); simp only at hf0 hf1
  refine rcrash_spec e hO hP hl hsy hcap ha (fun h => ?_) (fun h h2 => ?_) (fun n hn hd v' B' fs' hO' hP' hnm hab => ?_)
  · exact Rk.fin (fun H => H ++ F) hK hR hO hP hs hk (if_pos h) (.rfl _)
  · exact Rk.fin (fun H => H ++ F) hK hR hO hP hs hk (s' := ⟨fs.map Rf.ab, fuse, k, down⟩) (by unfold DS.crash; rw [if_neg (by omega), if_pos h2]) (.rfl _)
  · subst hn
    exact Rk.fin (fun H => H ++ F) hK hR hO' hP' (nm_sorted hs hnm) hk (s' := ⟨(fs.map Rf.ab).map (fell n), 0, 0, true⟩) (by unfold DS.crash; rw [if_neg (by omega), if_neg (fun h => absurd (hd.symm.trans h) (by simp))]; rfl) ⟨by rw [hab], rfl, .inl rfl, rfl⟩
set_option maxHeartbeats 4000000 in
set_option maxRecDepth 100000 in
theorem rrestart_D (e : World) {F : Hp} {d : Nat} {x : Rk} {room : Int} {K : Value → Hp → Prop} (hx : x.ok room)
    (hK : ∀ r' : Rk, r'.ok room → r'.ds.F (x.ds.restart).2 → K (.int .i64 (x.ds.restart).1) (r'.hp d room ++ F)) :
    callsK Tryz.prog e 24 #[pv d] (x.hp d room ++ F) K := by
  have hR : (x.ds.restart).2.ok room := hx.s.run ⟨8, sA, sA, none, 0, [], 0, 0⟩ (show (0 : Int) ≤ 9223372036854775807 by decide)
  obtain ⟨hO, hP, hs, hds, hk⟩ := hx; obtain ⟨fs, v, B, Pl, fuse, k, down⟩ := x; simp only at hO hP hs hk hK hR ⊢; have hl : fs.length ≤ 1024 := (by have := hds.len; simpa using this); have hf0 := hds.l0; have hf1 := hds.l1; have hsy : ∀ f ∈ fs, f.syn ≤ f.bs.length := (fun f hf => hds.syn f.ab (List.mem_map.2 ⟨f, hf, rfl⟩)); simp only at hf0 hf1
  refine calls_body (N := 11) (args := [pv d]) Tryz.func24 rfl rfl rfl (by simp) ?_
  repeat' (first | (show wpO _ _ _ _ _ _ _; first | refine wpO_nil ?_ | refine s_rdp ?_ | refine s_rdm ?_ | refine s_exq ?_ | refine s_exm ?_) | (show Ex _ _ _ _ _; first | (show Ex _ ⟨_, .store _ _ _, _, _, _, _⟩ _ _ _; first | refine e_store1 ?_ | refine e_storeA ?_ | (refine e_storeO ?_; intro _ _))) | (show wpC _ _ _ _ _ _; first | refine wpC_seq ?_ | refine wpC_region ?_ | refine c_true ?_ | refine c_false ?_ | (refine c_b (fun _ => ?_) (fun _ => ?_) <;> (first | (exfalso; omega) | contradiction | skip)) | refine wpC_ret ?_ | refine wpC_skip ?_ | refine wpC_label ?_) | (show Then _ _ _ _ _ _ _; first | refine then_normal ?_ | refine then_ret ?_) | (show RetP _ _ _ _ _ _ _ _; first | refine r_1 ?_))
  · rename_i h
    have hd : down = false := by simpa using h
    exact q_drop (Rk.fin (fun H => H ++ F) hK hR hO hP hs hk (if_neg (fun h => absurd (hd.symm.trans h) (by simp))) (.rfl _))
  · rename_i h
    have hd : down = true := by simpa using h
    exact q_drop (Rk.fin (fun H => H ++ F) hK hR (Pl := Pl) hO hP hs hk (if_pos hd) (.rfl _))
structure RcS where
  i : Nat
  w : Value
  Bw : Hp
  gs : List Rf
  Pg : Hp
end Go.Vl

namespace Go.Vl
open Go.Proofs
set_option maxHeartbeats 4000000 in
set_option maxRecDepth 100000 in
theorem names_same {ks ws : List ByteArray} (hp : ks.Perm ws) (hk : ks.Pairwise fun a b => bToL a ≤ bToL b) (hw : ws.Pairwise fun a b => ltN a b) : ks = ws := by
  refine List.Perm.eq_of_pairwise (le := fun a b => bToL a ≤ bToL b) ?_ hk (hw.imp fun h => List.le_of_lt h) hp
  intro a b _ _ h1 h2
  exact bToL_inj (List.le_antisymm h1 h2)
section
variable {C : Cx} {ops : Array Oper} {Hs : Hp} {Q : Post} {pl : List Nat} {rest : List Oper} {ρ : Fr} {ds : List Nat} {H : Hp} {i d : Nat} {ty t yt : TypeId} {pos : String} {af : Array Edge} {g : Option (Nat × Bool)} {x y : Operand} {a b : ByteArray}
set_option maxHeartbeats 4000000 in
set_option maxRecDepth 100000 in
theorem s_strEq (h : wpO C ops Q rest (upd ρ d (.bool true)) ds H) (hab : a = b) (hx : ev ρ x = .string a := by exact rfl) (hy : ev ρ y = .string b := by exact rfl) (hw : wantV C.N ops ρ ⟨some d, .binOp .eql t x y yt, ty, pos, af, g⟩ = true := by exact rfl) (hd : Nat.blt d C.N = true := by exact rfl) : wpO C ops Q (⟨some d, .binOp .eql t x y yt, ty, pos, af, g⟩ :: rest) ρ ds H := by
  refine wpO_rds hw hd (rd_binV ?_) h
  rw [hx, hy, hab]
  show some (Value.bool (decide (_ = _))) = _
  rw [decide_eq_true rfl]
set_option maxHeartbeats 4000000 in
set_option maxRecDepth 100000 in
theorem s_strNe (h : wpO C ops Q rest (upd ρ d (.bool false)) ds H) (hab : a = b) (hx : ev ρ x = .string a := by exact rfl) (hy : ev ρ y = .string b := by exact rfl) (hw : wantV C.N ops ρ ⟨some d, .binOp .neq t x y yt, ty, pos, af, g⟩ = true := by exact rfl) (hd : Nat.blt d C.N = true := by exact rfl) : wpO C ops Q (⟨some d, .binOp .neq t x y yt, ty, pos, af, g⟩ :: rest) ρ ds H := by
  refine wpO_rds hw hd (rd_binV ?_) h
  rw [hx, hy, hab]
  show some (Value.bool (decide (_ ≠ _))) = _
  rw [decide_eq_false (by simp)]
end
attribute [local irreducible] wpC wpO wpD Ex Rd callsK RetP Drop valK
structure NaS where
  j : Nat
  ds : List Nat
end Go.Vl

namespace Go.Vl
open Go.Proofs
set_option maxHeartbeats 4000000 in
set_option maxRecDepth 100000 in
theorem Rk.ok.tot {x : Rk} {room : Int} (h : x.ok room) : (totA (x.fs.map Rf.ab) : Int) ≤ room := h.s.tot
set_option maxHeartbeats 4000000 in
set_option maxRecDepth 100000 in
theorem tot_F {x : Dk} {r : Rk} (h : x.ds.F r.ds) : totA (r.fs.map Rf.ab) = tot x.l := by
  rw [tot_totA]
  exact totA_perm h.L.symm
set_option maxHeartbeats 4000000 in
set_option maxRecDepth 100000 in
theorem opR_tot {room : Int} {s : DS} {o : OpD} {q : Int × DS} (h : s.run room o = q) : totA q.2.L ≤ totA s.L + o.bs.length := by
  rw [← h]
  exact DS.run_tot s o
set_option maxHeartbeats 4000000 in
set_option maxRecDepth 100000 in
theorem ds_tot {x' : Dk} {s t : DS} {n : Nat} (hE : x'.ds.E t) (h : totA t.L ≤ totA s.L + n) : tot x'.l ≤ totA s.L + n := by
  rw [tot_totA]
  exact Nat.le_trans (Nat.le_of_eq (totA_perm hE.L)) h
attribute [local irreducible] wpC wpO wpD Ex Rd callsK RetP Drop valK
end Go.Vl

namespace Go.Vl
open Go.Proofs
set_option maxHeartbeats 4000000 in
set_option maxRecDepth 100000 in
theorem strs_flat (ks : List ByteArray) : (ks.map strC).flatten = ks.map Value.string := by
  induction ks with
  | nil => rfl
  | cons a l ih => simp [ih]
set_option maxHeartbeats 4000000 in
set_option maxRecDepth 100000 in
theorem inNames {fs : List Rf} {v : Value} {B : Hp} (h : SlO 9 1 v fs.length (fs.map fun f => Value.string f.nm) B) : InSl B 1 ((fs.map Rf.nm).map strC) v := by
  refine SlO.inB (e := 9) ?_ (fun w hw => by obtain ⟨u, _, rfl⟩ := List.mem_map.1 hw; exact ⟨rfl, rfl⟩)
  refine h.cast (by simp) ?_
  rw [strs_flat, List.map_map]
  rfl
attribute [local irreducible] wpC wpO wpD Ex Rd callsK RetP Drop valK
set_option maxHeartbeats 4000000 in
set_option maxRecDepth 100000 in
theorem rdown_E (e : World) {d : Nat} {room fuse : Int} {v : Value} {k : Nat} {down b : Bool} {F : Hp} {K : Value → Hp → Prop} (hd : down = b) (hK : K (.bool b) (rblk d room v fuse k down ++ F)) : callsK Tryz.prog e 11 #[pv d] (rblk d room v fuse k down ++ F) K := by
  subst hd
  exact rdown_spec e hK
set_option maxHeartbeats 4000000 in
set_option maxRecDepth 100000 in
theorem rused_E (e : World) {d : Nat} {room fuse : Int} {v : Value} {k : Nat} {down : Bool} {fs : List Rf} {B F : Hp} {K : Value → Hp → Prop} {n : Nat} (hO : FsO v fs B) (hn : totA (fs.map Rf.ab) = n) (ht : n ≤ 9223372036854775807) (hl : fs.length ≤ 1024)
    (hK : K (.int .i64 (n : Int)) ((rblk d room v fuse k down ++ B) ++ F)) : callsK Tryz.prog e 9 #[pv d] ((rblk d room v fuse k down ++ B) ++ F) K := by
  subst hn
  exact rused_spec e hO ht hl hK
set_option maxHeartbeats 4000000 in
set_option maxRecDepth 100000 in
theorem rrestart_E (e : World) {F : Hp} {d : Nat} {x : Rk} {room : Int} {K : Value → Hp → Prop} {q : Int} {t : DS} (hx : x.ok room) (hr : x.ds.restart = (q, t))
    (hK : ∀ r' : Rk, r'.ok room → r'.ds.F t → K (.int .i64 q) (r'.hp d room ++ F)) :
    callsK Tryz.prog e 24 #[pv d] (x.hp d room ++ F) K := rrestart_D e hx (by rw [hr]; exact hK)
end Go.Vl

namespace Go.Vl
open Go.Proofs
attribute [local irreducible] wpC wpO wpD Ex Rd callsK RetP Drop valK
structure OpK (I : Hp) (o : OpD) : Prop where
  ok : OpOK I o
  keep : o.keep ≤ 9223372036854775807
set_option maxHeartbeats 4000000 in
set_option maxRecDepth 100000 in
theorem rnew_D (e : World) {room : Int} {F : Hp} {K : Value → Hp → Prop} (h1 : room < 0 → K (.tuple #[.pointer none, .int .i64 1]) F) (h0 : 0 ≤ room → ∀ d, ∀ x : Rk, x.ok room → x.ds = ⟨[], 0, 0, false⟩ → K (.tuple #[pv d, .int .i64 0]) (x.hp d room ++ F)) :
    callsK Tryz.prog e 5 #[.int .i64 room] F K :=
  rnew_spec e h1 fun hr d => by
    have := h0 hr d ⟨[], .slice none 0 0, [], [], 0, 0, false⟩ ⟨SlO.nil 62 3, (fun x hx => by cases hx), .nil, ⟨by simp [NamesA], by simpa [totA] using hr, by simp, by simp, by simp, by simp⟩, by simp⟩ rfl
    simpa using this
structure DoS where
  i : Nat
  d : Nat
  m : Nat
  x : Dk
  r : Rk
end Go.Vl
