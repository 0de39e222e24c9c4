import Derived.Test.YtkamfmdonhaikaaVk
import Derived.Test.YtkamfmdonhaikaaVv
import Derived.Test.YtkamfmdonhaikaaD1
import Derived.Test.YtkamfmdonhaikaaVp
/-
  Bytes of integers, the check of bytes, in plain words; the steps of bits at the kinds that they are used at.
-/
namespace Go.Vl
open Go.RowKit
/-- an integer as a natural number -/
def zz (n : Int) : Nat := if n < 0 then 2 * (-n - 1).toNat + 1 else 2 * n.toNat
/-- a natural number's bytes -/
def vb (u : Nat) : List UInt8 := if u < 128 then [UInt8.ofNat u] else UInt8.ofNat (u % 128 + 128) :: vb (u / 128)
termination_by u
def crc1 (s : Nat) : Nat := if s % 2 = 1 then (s / 2) ^^^ 3988292384 else s / 2
def crcB (s : Nat) (b : UInt8) : Nat := crc1 (crc1 (crc1 (crc1 (crc1 (crc1 (crc1 (crc1 (s ^^^ b.toNat))))))))
def crcN : Nat → Nat → Nat
  | 0, s => s
  | n + 1, s => crcN n (crc1 s)
def sumP (bs : List UInt8) : Nat := 4294967295 - bs.foldl crcB 4294967295
def fourP (s : Nat) : List UInt8 := [UInt8.ofNat (s % 256), UInt8.ofNat (s / 256 % 256), UInt8.ofNat (s / 65536 % 256), UInt8.ofNat (s / 16777216 % 256)]
theorem crc1_lt {s : Nat} (h : s < 4294967296) : crc1 s < 4294967296 := by
  unfold crc1
  split
  · exact Nat.xor_lt_two_pow (n := 32) (by omega) (by decide)
  · omega
theorem crcB_eq (s : Nat) (b : UInt8) : crcB s b = crcN 8 (s ^^^ b.toNat) := rfl
theorem crcN_succ (s : Nat) : ∀ n, crcN (n + 1) s = crc1 (crcN n s)
  | 0 => rfl
  | n + 1 => crcN_succ (crc1 s) n
theorem crcN_lt {n s : Nat} (h : s < 4294967296) : crcN n s < 4294967296 := by
  induction n generalizing s with
  | zero => exact h
  | succ n ih => exact ih (crc1_lt h)
theorem xor8_lt {s : Nat} {b : UInt8} (h : s < 4294967296) : s ^^^ b.toNat < 4294967296 := Nat.xor_lt_two_pow (n := 32) h (Nat.lt_of_lt_of_le b.toNat_lt (by decide))
theorem crcB_lt {s : Nat} {b : UInt8} (h : s < 4294967296) : crcB s b < 4294967296 := by rw [crcB_eq]; exact crcN_lt (xor8_lt h)
theorem foldB_lt (bs : List UInt8) : ∀ {s : Nat}, s < 4294967296 → bs.foldl crcB s < 4294967296 := by
  induction bs with
  | nil => exact fun h => h
  | cons b bs ih => exact fun h => ih (crcB_lt h)
theorem sumP_lt (bs : List UInt8) : sumP bs < 4294967296 := by unfold sumP; omega
theorem zz_lt {n : Int} (h1 : -9223372036854775808 ≤ n) (h2 : n ≤ 9223372036854775807) : zz n < 18446744073709551616 := by unfold zz; split <;> omega
theorem vb_small {u : Nat} (h : u < 128) : vb u = [UInt8.ofNat u] := by rw [vb, if_pos h]
theorem vb_big {u : Nat} (h : ¬ u < 128) : vb u = UInt8.ofNat (u % 128 + 128) :: vb (u / 128) := by rw [vb, if_neg h]
theorem vb_len : ∀ (k u : Nat), u < 128 ^ (k + 1) → (vb u).length ≤ k + 1
  | 0, u, h => by rw [vb_small (by simpa using h)]; simp
  | k + 1, u, h => by
    by_cases hs : u < 128
    · rw [vb_small hs]; simp
    · rw [vb_big hs, List.length_cons]
      have := vb_len k (u / 128) (by rw [Nat.div_lt_iff_lt_mul (by decide), ← Nat.pow_succ]; exact h)
      omega
theorem vb_len10 {u : Nat} (h : u < 18446744073709551616) : (vb u).length ≤ 10 := vb_len 9 u (Nat.lt_of_lt_of_le h (by decide))
theorem ofNat_toNat8 {u : Nat} (h : u < 256) : (UInt8.ofNat u).toNat = u := by rw [UInt8.toNat_ofNat']; omega
/-! steps at their kinds -/
section
variable {P : Program} {e : World} {ρ : Fr} {H : Hp} {d : Option Nat} {ty : TypeId} {pos : String} {af : Array Edge} {g : Option (Nat × Bool)} {t yt s : TypeId} {x y : Operand} {a : Nat}
theorem wrap64U (n : Int) : IntKind.u64.wrap n = (((n % 18446744073709551616).toNat : Nat) : Int) := by
  rw [wrapU rfl]
  show n % ((2 ^ 64 : Nat) : Int) = _
  omega
theorem wrap8N (a : Nat) : IntKind.u8.wrap (a : Int) = ((a % 256 : Nat) : Int) := by
  rw [wrapU rfl]
  show (a : Int) % ((2 ^ 8 : Nat) : Int) = _
  omega
theorem rd_i64u64 {n : Int} (hx : ev ρ x = .int .i64 n) (hs : P.underlying s = some (.int .i64)) (ht : P.underlying t = some (.int .u64)) : Rd P e ρ H ⟨d, .convert s t x, ty, pos, af, g⟩ (.int .u64 (((n % 18446744073709551616).toNat : Nat) : Int)) := rd_convI hx hs ht (wrap64U n)
theorem rd_u64u8 (hx : ev ρ x = .int .u64 (a : Int)) (hs : P.underlying s = some (.int .u64)) (ht : P.underlying t = some (.int .u8)) : Rd P e ρ H ⟨d, .convert s t x, ty, pos, af, g⟩ (.int .u8 ((a % 256 : Nat) : Int)) := rd_convI hx hs ht (wrap8N a)
theorem rd_u32u8 (hx : ev ρ x = .int .u32 (a : Int)) (hs : P.underlying s = some (.int .u32)) (ht : P.underlying t = some (.int .u8)) : Rd P e ρ H ⟨d, .convert s t x, ty, pos, af, g⟩ (.int .u8 ((a % 256 : Nat) : Int)) := rd_convI hx hs ht (wrap8N a)
theorem rd_u8u32 (hx : ev ρ x = .int .u8 (a : Int)) (ha : a < 256) (hs : P.underlying s = some (.int .u8)) (ht : P.underlying t = some (.int .u32)) : Rd P e ρ H ⟨d, .convert s t x, ty, pos, af, g⟩ (.int .u32 (a : Int)) := rd_convI hx hs ht (wrapU_id rfl (by show a < 2 ^ 32; omega))
theorem rd_u8u64 (hx : ev ρ x = .int .u8 (a : Int)) (ha : a < 256) (hs : P.underlying s = some (.int .u8)) (ht : P.underlying t = some (.int .u64)) : Rd P e ρ H ⟨d, .convert s t x, ty, pos, af, g⟩ (.int .u64 (a : Int)) := rd_convI hx hs ht (wrapU_id rfl (by show a < 2 ^ 64; omega))
theorem rd_shl64 (b : Nat) {q : IntKind} (hx : ev ρ x = .int .u64 (a : Int)) (hy : ev ρ y = .int q (b : Int)) (hb : b ≤ 64) : Rd P e ρ H ⟨d, .binOp .shl t x y yt, ty, pos, af, g⟩ (.int .u64 ((a * 2 ^ b % 18446744073709551616 : Nat) : Int)) := rd_shl hx hy rfl hb
theorem rd_not64 (hx : ev ρ x = .int .u64 (a : Int)) (ha : a < 18446744073709551616) : Rd P e ρ H ⟨d, .unOp .xor t x, ty, pos, af, g⟩ (.int .u64 ((18446744073709551615 - a : Nat) : Int)) := rd_notU hx rfl ha rfl
theorem rd_not32 (hx : ev ρ x = .int .u32 (a : Int)) (ha : a < 4294967296) : Rd P e ρ H ⟨d, .unOp .xor t x, ty, pos, af, g⟩ (.int .u32 ((4294967295 - a : Nat) : Int)) := rd_notU hx rfl ha rfl
set_option maxRecDepth 100000 in
theorem or128 : ∀ c : Fin 256, c.val ||| 128 = c.val % 128 + 128 := by decide
theorem rd_or128 (hx : ev ρ x = .int .u8 (a : Int)) (hy : ev ρ y = .int .u8 128) (ha : a < 256) : Rd P e ρ H ⟨d, .binOp .or t x y yt, ty, pos, af, g⟩ (.int .u8 ((a % 128 + 128 : Nat) : Int)) := by
  rw [← show a ||| 128 = a % 128 + 128 from or128 ⟨a, ha⟩]
  exact rd_or (b := 128) hx hy rfl ha (by decide)
theorem rd_and1 (hx : ev ρ x = .int .u32 (a : Int)) (hy : ev ρ y = .int .u32 1) (ha : a < 4294967296) : Rd P e ρ H ⟨d, .binOp .and t x y yt, ty, pos, af, g⟩ (.int .u32 ((a % 2 : Nat) : Int)) := by
  rw [← Nat.and_one_is_mod]
  exact rd_and (b := 1) hx hy rfl ha (by decide)
theorem rd_shr32 (b : Nat) {q : IntKind} (hx : ev ρ x = .int .u32 (a : Int)) (hy : ev ρ y = .int q (b : Int)) (hb : b ≤ 32) : Rd P e ρ H ⟨d, .binOp .shr t x y yt, ty, pos, af, g⟩ (.int .u32 ((a / 2 ^ b : Nat) : Int)) := rd_shr hx hy hb
theorem rd_shr64 (b : Nat) {q : IntKind} (hx : ev ρ x = .int .u64 (a : Int)) (hy : ev ρ y = .int q (b : Int)) (hb : b ≤ 64) : Rd P e ρ H ⟨d, .binOp .shr t x y yt, ty, pos, af, g⟩ (.int .u64 ((a / 2 ^ b : Nat) : Int)) := rd_shr hx hy hb
theorem rd_xor32 {b : Nat} (hx : ev ρ x = .int .u32 (a : Int)) (hy : ev ρ y = .int .u32 (b : Int)) (ha : a < 4294967296) (hb : b < 4294967296) : Rd P e ρ H ⟨d, .binOp .xor t x y yt, ty, pos, af, g⟩ (.int .u32 ((a ^^^ b : Nat) : Int)) := rd_xor hx hy rfl ha hb
end
end Go.Vl

/-
  An integer's bytes: both texts.
-/
namespace Go.Vl
open Go.Proofs
set_option maxHeartbeats 4000000 in
set_option maxRecDepth 100000 in
theorem byC_nat (u : Nat) : byC (UInt8.ofNat u) = [Value.int .u8 ((u % 256 : Nat) : Int)] := by
  show [Value.int .u8 ((UInt8.ofNat u).toNat : Int)] = _
  rw [UInt8.toNat_ofNat']
set_option maxHeartbeats 4000000 in
set_option maxRecDepth 100000 in
theorem byC_end {bs : List UInt8} {u : Nat} {w : Int} (h : w = ((u % 256 : Nat) : Int)) : (bs.map byC).flatten ++ [Value.int .u8 w] = ((bs ++ [UInt8.ofNat u]).map byC).flatten := by
  subst h
  rw [List.map_append, List.flatten_append, List.map_cons, List.map_nil, byC_nat]
  simp
attribute [local irreducible] wpC wpO wpD Ex Rd callsK RetP Drop valK
structure NuS where
  u : Nat
  v : Value
  B : Hp
  bs : List UInt8
set_option maxHeartbeats 4000000 in
set_option maxRecDepth 100000 in
theorem number_spec (e : World) {n : Int} {F : Hp} {K : Value → Hp → Prop} (h1 : -9223372036854775808 ≤ n) (h2 : n ≤ 9223372036854775807) (hK : ∀ v B, BytO v (vb (zz n)) B → K v (B ++ F)) :
    callsK Try.prog e 108 #[.int .i64 n] F K := by
  have hz := zz_lt h1 h2
  refine calls_body (N := 27) (args := [.int .i64 n]) Try.func108 rfl rfl rfl (by simp) ?_
  repeat' ((fail_if_success (show wpC _ (.loop _) _ _ _ _)); first | refine s_rdm ?_ (hr := by (apply rd_i64u64; exact rfl; exact rfl; exact rfl; done)) | (refine s_rdp ?_ (hr := by (apply (rd_shl64 1); exact rfl; exact rfl; decide; done))) | (refine s_rdp ?_ (hr := by (apply rd_not64; exact rfl; omega; done))) | (show wpO _ _ _ _ _ _ _; first | refine wpO_nil ?_ | (show wpO _ _ _ (⟨_, .binOp _ _ _ _ _, _, _, _, _⟩ :: _) _ _ _; first | refine s_tt ?_ | refine s_ff ?_ | refine s_rdp ?_ | (refine s_cmp (fun _ => ?_) (fun _ => ?_) <;> (first | (exfalso; omega) | contradiction | skip)) | (refine s_cb (fun _ => ?_) (fun _ => ?_) <;> (first | (exfalso; omega) | contradiction | skip))) | (show wpO _ _ _ (⟨_, .convert _ _ _, _, _, _, _⟩ :: _) _ _ _; first | (refine s_exs ?_; refine e_mark ?_) | refine s_rdm ?_ (hr := by first | (apply rd_bytesStrO; (conv => lhs; whnf); assumption; exact Sbs.sub (self := by infer_instance); exact rfl; exact rfl; exact rfl; done) | (apply rd_bytesStr; (conv => lhs; whnf); assumption; exact Sbs.sub (self := by infer_instance); exact rfl; exact rfl; exact rfl; done))) | refine s_rdp ?_ | refine s_rdm ?_ | refine s_exq ?_ | refine s_exm ?_) | (show Ex _ _ _ _ _; first | (show Ex _ ⟨_, .convert _ _ _, _, _, _, _⟩ _ _ _; refine e_mark ?_) | (show Ex _ ⟨_, .buildSlice _ _ _, _, _, _, _⟩ _ _ _; first | (refine e_buildSlice ?_; intro _) | (refine e_buildNil ?_; intro _ _ _)) | (show Ex _ ⟨_, .call ⟨.builtin .append, _, _⟩, _, _, _, _⟩ _ _ _; (first | refine e_append ?_ | refine e_appendIn ?_); intro _ _ _)) | (show wpC _ _ _ _ _ _; first | refine wpC_seq ?_ | refine wpC_region ?_ | refine c_true ?_ | refine c_false ?_ | (refine c_b (fun _ => ?_) (fun _ => ?_) <;> (first | (exfalso; omega) | contradiction | skip)) | refine wpC_block ?_ | refine wpC_ret ?_ | refine wpC_skip ?_ | refine wpC_exit ?_ | refine wpC_label ?_) | (show Then _ _ _ _ _ _ _; first | refine then_normal ?_ | refine then_ret ?_ | refine then_exit ?_) | (show InBlock _ _ _ _ _ _; first | refine inBlock_normal ?_ | refine inBlock_ret ?_ | refine inBlock_same ?_ | refine b_other ?_) | (show LoopPost _ _ _ _ _ _; first | refine loop_ret ?_ | refine loop_exit ?_) | (show RetP _ _ _ _ _ _ _ _; first | refine r_1 ?_))
  · refine wpC_loopA (κ := NuS) [3, 4, 12, 13, 14, 15, 16, 17, 18, 19, 20, 21] (fun s => [(3, .int .u64 (s.u : Int)), (4, s.v)]) (fun s => s.B ++ F) (fun s => s.bs ++ vb s.u = vb (zz n) ∧ s.u < 18446744073709551616 ∧ BytO s.v s.bs s.B) (fun s => s.u)
      ⟨_, .slice none 0 0, [], []⟩ ⟨?_, ?_, SlO.nil 5 1⟩ ⟨rfl, rfl, trivial⟩ q_drp ?_
    · simp only [List.nil_append]
      congr 1
      unfold zz
      rw [if_pos (by assumption)]; omega
    · simp only
      omega
    rintro ⟨u, v, B, bs⟩ ρx ⟨hb, hu, hv⟩
    simp only at hb hu hv ⊢
    have hlb : bs.length ≤ 10 := by
      have h3 := vb_len10 hz
      rw [← hb, List.length_append] at h3
      omega
    by_cases hs : u < 128
    · rw [vb_small hs] at hb
      repeat' (first | refine s_rdm ?_ (hr := by (apply rd_u64u8; exact rfl; exact rfl; exact rfl; done)) | (refine s_rdp ?_ (hr := by (apply rd_or128; exact rfl; exact rfl; omega; done))) | (refine s_rdp ?_ (hr := by (apply (rd_shr64 7); exact rfl; exact rfl; decide; done))) | (show wpO _ _ _ _ _ _ _; first | refine wpO_nil ?_ | (show wpO _ _ _ (⟨_, .binOp _ _ _ _ _, _, _, _, _⟩ :: _) _ _ _; first | refine s_tt ?_ | refine s_ff ?_ | refine s_rdp ?_ | (refine s_cmp (fun _ => ?_) (fun _ => ?_) <;> (first | (exfalso; omega) | contradiction | skip)) | (refine s_cb (fun _ => ?_) (fun _ => ?_) <;> (first | (exfalso; omega) | contradiction | skip))) | (show wpO _ _ _ (⟨_, .convert _ _ _, _, _, _, _⟩ :: _) _ _ _; first | (refine s_exs ?_; refine e_mark ?_) | refine s_rdm ?_ (hr := by first | (apply rd_bytesStrO; (conv => lhs; whnf); assumption; exact Sbs.sub (self := by infer_instance); exact rfl; exact rfl; exact rfl; done) | (apply rd_bytesStr; (conv => lhs; whnf); assumption; exact Sbs.sub (self := by infer_instance); exact rfl; exact rfl; exact rfl; done))) | refine s_rdp ?_ | refine s_rdm ?_ | refine s_exq ?_ | refine s_exm ?_) | (show Ex _ _ _ _ _; first | (show Ex _ ⟨_, .convert _ _ _, _, _, _, _⟩ _ _ _; refine e_mark ?_) | (show Ex _ ⟨_, .buildSlice _ _ _, _, _, _, _⟩ _ _ _; first | (refine e_buildSlice ?_; intro _) | (refine e_buildNil ?_; intro _ _ _)) | (show Ex _ ⟨_, .call ⟨.builtin .append, _, _⟩, _, _, _, _⟩ _ _ _; (first | refine e_append ?_ | refine e_appendIn ?_); intro _ _ _)) | (show wpC _ _ _ _ _ _; first | refine wpC_seq ?_ | refine wpC_region ?_ | refine c_true ?_ | refine c_false ?_ | (refine c_b (fun _ => ?_) (fun _ => ?_) <;> (first | (exfalso; omega) | contradiction | skip)) | refine wpC_block ?_ | refine wpC_ret ?_ | refine wpC_skip ?_ | refine wpC_exit ?_ | refine wpC_label ?_) | (show Then _ _ _ _ _ _ _; first | refine then_normal ?_ | refine then_ret ?_ | refine then_exit ?_) | (show InBlock _ _ _ _ _ _; first | refine inBlock_normal ?_ | refine inBlock_ret ?_ | refine inBlock_same ?_ | refine b_other ?_) | (show LoopPost _ _ _ _ _ _; first | refine loop_ret ?_ | refine loop_exit ?_) | (show RetP _ _ _ _ _ _ _ _; first | refine r_1 ?_))
      all_goals first
        | (exfalso; omega)
        | (rename_i w Bw hw
           rw [byC_end rfl, hb] at hw
           exact q_drop (hK w Bw (hw.cast (by rw [← hb]; simp) rfl)))
    · rw [vb_big hs] at hb
      repeat' (first | refine s_rdm ?_ (hr := by (apply rd_u64u8; exact rfl; exact rfl; exact rfl; done)) | (refine s_rdp ?_ (hr := by (apply rd_or128; exact rfl; exact rfl; omega; done))) | (refine s_rdp ?_ (hr := by (apply (rd_shr64 7); exact rfl; exact rfl; decide; done))) | (show wpO _ _ _ _ _ _ _; first | refine wpO_nil ?_ | (show wpO _ _ _ (⟨_, .binOp _ _ _ _ _, _, _, _, _⟩ :: _) _ _ _; first | refine s_tt ?_ | refine s_ff ?_ | refine s_rdp ?_ | (refine s_cmp (fun _ => ?_) (fun _ => ?_) <;> (first | (exfalso; omega) | contradiction | skip)) | (refine s_cb (fun _ => ?_) (fun _ => ?_) <;> (first | (exfalso; omega) | contradiction | skip))) | (show wpO _ _ _ (⟨_, .convert _ _ _, _, _, _, _⟩ :: _) _ _ _; first | (refine s_exs ?_; refine e_mark ?_) | refine s_rdm ?_ (hr := by first | (apply rd_bytesStrO; (conv => lhs; whnf); assumption; exact Sbs.sub (self := by infer_instance); exact rfl; exact rfl; exact rfl; done) | (apply rd_bytesStr; (conv => lhs; whnf); assumption; exact Sbs.sub (self := by infer_instance); exact rfl; exact rfl; exact rfl; done))) | refine s_rdp ?_ | refine s_rdm ?_ | refine s_exq ?_ | refine s_exm ?_) | (show Ex _ _ _ _ _; first | (show Ex _ ⟨_, .convert _ _ _, _, _, _, _⟩ _ _ _; refine e_mark ?_) | (show Ex _ ⟨_, .buildSlice _ _ _, _, _, _, _⟩ _ _ _; first | (refine e_buildSlice ?_; intro _) | (refine e_buildNil ?_; intro _ _ _)) | (show Ex _ ⟨_, .call ⟨.builtin .append, _, _⟩, _, _, _, _⟩ _ _ _; (first | refine e_append ?_ | refine e_appendIn ?_); intro _ _ _)) | (show wpC _ _ _ _ _ _; first | refine wpC_seq ?_ | refine wpC_region ?_ | refine c_true ?_ | refine c_false ?_ | (refine c_b (fun _ => ?_) (fun _ => ?_) <;> (first | (exfalso; omega) | contradiction | skip)) | refine wpC_block ?_ | refine wpC_ret ?_ | refine wpC_skip ?_ | refine wpC_exit ?_ | refine wpC_label ?_) | (show Then _ _ _ _ _ _ _; first | refine then_normal ?_ | refine then_ret ?_ | refine then_exit ?_) | (show InBlock _ _ _ _ _ _; first | refine inBlock_normal ?_ | refine inBlock_ret ?_ | refine inBlock_same ?_ | refine b_other ?_) | (show LoopPost _ _ _ _ _ _; first | refine loop_ret ?_ | refine loop_exit ?_) | (show RetP _ _ _ _ _ _ _ _; first | refine r_1 ?_))
      all_goals first
        | (exfalso; omega)
        | (rename_i w Bw hw
           rw [byC_end (u := u % 128 + 128) (by omega)] at hw
           refine lp_end ⟨u / 128, w, Bw, bs ++ [UInt8.ofNat (u % 128 + 128)]⟩ (by simp only; omega) ⟨by simp only [List.append_assoc, List.cons_append, List.nil_append]; exact hb, by simp only; omega, hw.cast (by simp) rfl⟩)
  · refine wpC_loopA (κ := NuS) [3, 4, 12, 13, 14, 15, 16, 17, 18, 19, 20, 21] (fun s => [(3, .int .u64 (s.u : Int)), (4, s.v)]) (fun s => s.B ++ F) (fun s => s.bs ++ vb s.u = vb (zz n) ∧ s.u < 18446744073709551616 ∧ BytO s.v s.bs s.B) (fun s => s.u)
      ⟨_, .slice none 0 0, [], []⟩ ⟨?_, ?_, SlO.nil 5 1⟩ ⟨rfl, rfl, trivial⟩ q_drp ?_
    · simp only [List.nil_append]
      congr 1
      unfold zz
      rw [if_neg (by assumption)]; omega
    · simp only
      omega
    rintro ⟨u, v, B, bs⟩ ρx ⟨hb, hu, hv⟩
    simp only at hb hu hv ⊢
    have hlb : bs.length ≤ 10 := by
      have h3 := vb_len10 hz
      rw [← hb, List.length_append] at h3
      omega
    by_cases hs : u < 128
    · rw [vb_small hs] at hb
      repeat' (first | refine s_rdm ?_ (hr := by (apply rd_u64u8; exact rfl; exact rfl; exact rfl; done)) | (refine s_rdp ?_ (hr := by (apply rd_or128; exact rfl; exact rfl; omega; done))) | (refine s_rdp ?_ (hr := by (apply (rd_shr64 7); exact rfl; exact rfl; decide; done))) | (show wpO _ _ _ _ _ _ _; first | refine wpO_nil ?_ | (show wpO _ _ _ (⟨_, .binOp _ _ _ _ _, _, _, _, _⟩ :: _) _ _ _; first | refine s_tt ?_ | refine s_ff ?_ | refine s_rdp ?_ | (refine s_cmp (fun _ => ?_) (fun _ => ?_) <;> (first | (exfalso; omega) | contradiction | skip)) | (refine s_cb (fun _ => ?_) (fun _ => ?_) <;> (first | (exfalso; omega) | contradiction | skip))) | (show wpO _ _ _ (⟨_, .convert _ _ _, _, _, _, _⟩ :: _) _ _ _; first | (refine s_exs ?_; refine e_mark ?_) | refine s_rdm ?_ (hr := by first | (apply rd_bytesStrO; (conv => lhs; whnf); assumption; exact Sbs.sub (self := by infer_instance); exact rfl; exact rfl; exact rfl; done) | (apply rd_bytesStr; (conv => lhs; whnf); assumption; exact Sbs.sub (self := by infer_instance); exact rfl; exact rfl; exact rfl; done))) | refine s_rdp ?_ | refine s_rdm ?_ | refine s_exq ?_ | refine s_exm ?_) | (show Ex _ _ _ _ _; first | (show Ex _ ⟨_, .convert _ _ _, _, _, _, _⟩ _ _ _; refine e_mark ?_) | (show Ex _ ⟨_, .buildSlice _ _ _, _, _, _, _⟩ _ _ _; first | (refine e_buildSlice ?_; intro _) | (refine e_buildNil ?_; intro _ _ _)) | (show Ex _ ⟨_, .call ⟨.builtin .append, _, _⟩, _, _, _, _⟩ _ _ _; (first | refine e_append ?_ | refine e_appendIn ?_); intro _ _ _)) | (show wpC _ _ _ _ _ _; first | refine wpC_seq ?_ | refine wpC_region ?_ | refine c_true ?_ | refine c_false ?_ | (refine c_b (fun _ => ?_) (fun _ => ?_) <;> (first | (exfalso; omega) | contradiction | skip)) | refine wpC_block ?_ | refine wpC_ret ?_ | refine wpC_skip ?_ | refine wpC_exit ?_ | refine wpC_label ?_) | (show Then _ _ _ _ _ _ _; first | refine then_normal ?_ | refine then_ret ?_ | refine then_exit ?_) | (show InBlock _ _ _ _ _ _; first | refine inBlock_normal ?_ | refine inBlock_ret ?_ | refine inBlock_same ?_ | refine b_other ?_) | (show LoopPost _ _ _ _ _ _; first | refine loop_ret ?_ | refine loop_exit ?_) | (show RetP _ _ _ _ _ _ _ _; first | refine r_1 ?_))
      all_goals first
        | (exfalso; omega)
        | (rename_i w Bw hw
           rw [byC_end rfl, hb] at hw
           exact q_drop (hK w Bw (hw.cast (by rw [← hb]; simp) rfl)))
    · rw [vb_big hs] at hb
      repeat' (first | refine s_rdm ?_ (hr := by (apply rd_u64u8; exact rfl; exact rfl; exact rfl; done)) | (refine s_rdp ?_ (hr := by (apply rd_or128; exact rfl; exact rfl; omega; done))) | (refine s_rdp ?_ (hr := by (apply (rd_shr64 7); exact rfl; exact rfl; decide; done))) | (show wpO _ _ _ _ _ _ _; first | refine wpO_nil ?_ | (show wpO _ _ _ (⟨_, .binOp _ _ _ _ _, _, _, _, _⟩ :: _) _ _ _; first | refine s_tt ?_ | refine s_ff ?_ | refine s_rdp ?_ | (refine s_cmp (fun _ => ?_) (fun _ => ?_) <;> (first | (exfalso; omega) | contradiction | skip)) | (refine s_cb (fun _ => ?_) (fun _ => ?_) <;> (first | (exfalso; omega) | contradiction | skip))) | (show wpO _ _ _ (⟨_, .convert _ _ _, _, _, _, _⟩ :: _) _ _ _; first | (refine s_exs ?_; refine e_mark ?_) | refine s_rdm ?_ (hr := by first | (apply rd_bytesStrO; (conv => lhs; whnf); assumption; exact Sbs.sub (self := by infer_instance); exact rfl; exact rfl; exact rfl; done) | (apply rd_bytesStr; (conv => lhs; whnf); assumption; exact Sbs.sub (self := by infer_instance); exact rfl; exact rfl; exact rfl; done))) | refine s_rdp ?_ | refine s_rdm ?_ | refine s_exq ?_ | refine s_exm ?_) | (show Ex _ _ _ _ _; first | (show Ex _ ⟨_, .convert _ _ _, _, _, _, _⟩ _ _ _; refine e_mark ?_) | (show Ex _ ⟨_, .buildSlice _ _ _, _, _, _, _⟩ _ _ _; first | (refine e_buildSlice ?_; intro _) | (refine e_buildNil ?_; intro _ _ _)) | (show Ex _ ⟨_, .call ⟨.builtin .append, _, _⟩, _, _, _, _⟩ _ _ _; (first | refine e_append ?_ | refine e_appendIn ?_); intro _ _ _)) | (show wpC _ _ _ _ _ _; first | refine wpC_seq ?_ | refine wpC_region ?_ | refine c_true ?_ | refine c_false ?_ | (refine c_b (fun _ => ?_) (fun _ => ?_) <;> (first | (exfalso; omega) | contradiction | skip)) | refine wpC_block ?_ | refine wpC_ret ?_ | refine wpC_skip ?_ | refine wpC_exit ?_ | refine wpC_label ?_) | (show Then _ _ _ _ _ _ _; first | refine then_normal ?_ | refine then_ret ?_ | refine then_exit ?_) | (show InBlock _ _ _ _ _ _; first | refine inBlock_normal ?_ | refine inBlock_ret ?_ | refine inBlock_same ?_ | refine b_other ?_) | (show LoopPost _ _ _ _ _ _; first | refine loop_ret ?_ | refine loop_exit ?_) | (show RetP _ _ _ _ _ _ _ _; first | refine r_1 ?_))
      all_goals first
        | (exfalso; omega)
        | (rename_i w Bw hw
           rw [byC_end (u := u % 128 + 128) (by omega)] at hw
           refine lp_end ⟨u / 128, w, Bw, bs ++ [UInt8.ofNat (u % 128 + 128)]⟩ (by simp only; omega) ⟨by simp only [List.append_assoc, List.cons_append, List.nil_append]; exact hb, by simp only; omega, hw.cast (by simp) rfl⟩)
end Go.Vl

/-
  An integer's bytes: the document's.
-/
namespace Go.Vl
open Go.Proofs
section
variable {P : Program} {e : World} {ρ : Fr} {H : Hp} {d : Option Nat} {ty : TypeId} {pos : String} {af : Array Edge} {g : Option (Nat × Bool)} {t yt s : TypeId} {x y : Operand} {a : Nat} {n : Int}
set_option maxHeartbeats 4000000 in
set_option maxRecDepth 100000 in
theorem rd_mul64U (b : Nat) (hx : ev ρ x = .int .u64 (a : Int)) (hy : ev ρ y = .int .u64 (b : Int)) : Rd P e ρ H ⟨d, .binOp .mul t x y yt, ty, pos, af, g⟩ (.int .u64 ((a * b % 18446744073709551616 : Nat) : Int)) := by
  have h1 : IntKind.u64.wrap ((a : Int) * (b : Int)) = ((a * b % 18446744073709551616 : Nat) : Int) := by
    rw [wrapU rfl]
    show ((a : Int) * (b : Int)) % ((2 ^ 64 : Nat) : Int) = _
    norm_cast
  have := rd_mulw (P := P) (e := e) (H := H) (d := d) (ty := ty) (pos := pos) (af := af) (g := g) (t := t) (yt := yt) hx hy
  rwa [h1] at this
set_option maxHeartbeats 4000000 in
set_option maxRecDepth 100000 in
theorem rd_add64U (b : Nat) (hx : ev ρ x = .int .u64 (a : Int)) (hy : ev ρ y = .int .u64 (b : Int)) (h : a + b < 18446744073709551616) : Rd P e ρ H ⟨d, .binOp .add t x y yt, ty, pos, af, g⟩ (.int .u64 ((a + b : Nat) : Int)) := by
  have h1 : IntKind.u64.wrap ((a : Int) + (b : Int)) = ((a + b : Nat) : Int) := by
    rw [show (a : Int) + (b : Int) = ((a + b : Nat) : Int) from by omega]
    exact wrapU_id rfl h
  have := rd_addw (P := P) (e := e) (H := H) (d := d) (ty := ty) (pos := pos) (af := af) (g := g) (t := t) (yt := yt) hx hy
  rwa [h1] at this
set_option maxHeartbeats 4000000 in
set_option maxRecDepth 100000 in
theorem rd_add8U (b : Nat) (hx : ev ρ x = .int .u8 (a : Int)) (hy : ev ρ y = .int .u8 (b : Int)) (h : a + b < 256) : Rd P e ρ H ⟨d, .binOp .add t x y yt, ty, pos, af, g⟩ (.int .u8 ((a + b : Nat) : Int)) := by
  have h1 : IntKind.u8.wrap ((a : Int) + (b : Int)) = ((a + b : Nat) : Int) := by
    rw [show (a : Int) + (b : Int) = ((a + b : Nat) : Int) from by omega]
    exact wrapU_id rfl h
  have := rd_addw (P := P) (e := e) (H := H) (d := d) (ty := ty) (pos := pos) (af := af) (g := g) (t := t) (yt := yt) hx hy
  rwa [h1] at this
set_option maxHeartbeats 4000000 in
set_option maxRecDepth 100000 in
theorem rd_neg64 (hx : ev ρ x = .int .i64 n) (h1 : -9223372036854775807 ≤ n) (h2 : n ≤ 9223372036854775807) : Rd P e ρ H ⟨d, .unOp .neg t x, ty, pos, af, g⟩ (.int .i64 (-n)) := fun w _ => by
  have h3 : IntKind.i64.wrap (0 - n) = -n := by rw [wrap64_id (by omega) (by omega)]; omega
  have h4 : (Op.unary .neg (.int .i64 n)).run P w = .ok (.int .i64 (-n)) w := by
    unfold Op.unary Op.intArith
    simp only [h3]
    rfl
  simp [execOp, hx, h4]
end
attribute [local irreducible] wpC wpO wpD Ex Rd callsK RetP Drop valK
set_option maxHeartbeats 4000000 in
set_option maxRecDepth 100000 in
theorem rint_spec (e : World) {n : Int} {F : Hp} {K : Value → Hp → Prop} (h1 : -9223372036854775808 ≤ n) (h2 : n ≤ 9223372036854775807) (hK : ∀ v B, BytO v (vb (zz n)) B → K v (B ++ F)) :
    callsK Try.prog e 76 #[.int .i64 n] F K := by
  have hz := zz_lt h1 h2
  refine calls_body (N := 32) (args := [.int .i64 n]) Try.func76 rfl rfl rfl (by simp) ?_
  repeat' ((fail_if_success (show wpC _ (.loop _) _ _ _ _)); first | refine s_rdm ?_ (hr := by (apply rd_i64u64; exact rfl; exact rfl; exact rfl; done)) | (refine s_rdp ?_ (hr := by (apply (rd_mul64U 2); exact rfl; exact rfl; done))) | (refine s_rdp ?_ (hr := by (apply rd_neg64; exact rfl; omega; omega; done))) | (refine s_rdp ?_ (hr := by (apply (rd_add64U 1); exact rfl; exact rfl; omega; done))) | (show wpO _ _ _ _ _ _ _; first | refine wpO_nil ?_ | (show wpO _ _ _ (⟨_, .binOp _ _ _ _ _, _, _, _, _⟩ :: _) _ _ _; first | refine s_tt ?_ | refine s_ff ?_ | refine s_rdp ?_ | (refine s_cmp (fun _ => ?_) (fun _ => ?_) <;> (first | (exfalso; omega) | contradiction | skip)) | (refine s_cb (fun _ => ?_) (fun _ => ?_) <;> (first | (exfalso; omega) | contradiction | skip))) | (show wpO _ _ _ (⟨_, .convert _ _ _, _, _, _, _⟩ :: _) _ _ _; first | (refine s_exs ?_; refine e_mark ?_) | refine s_rdm ?_ (hr := by first | (apply rd_bytesStrO; (conv => lhs; whnf); assumption; exact Sbs.sub (self := by infer_instance); exact rfl; exact rfl; exact rfl; done) | (apply rd_bytesStr; (conv => lhs; whnf); assumption; exact Sbs.sub (self := by infer_instance); exact rfl; exact rfl; exact rfl; done))) | refine s_rdp ?_ | refine s_rdm ?_ | refine s_exq ?_ | refine s_exm ?_) | (show Ex _ _ _ _ _; first | (show Ex _ ⟨_, .convert _ _ _, _, _, _, _⟩ _ _ _; refine e_mark ?_) | (show Ex _ ⟨_, .buildSlice _ _ _, _, _, _, _⟩ _ _ _; first | (refine e_buildSlice ?_; intro _) | (refine e_buildNil ?_; intro _ _ _)) | (show Ex _ ⟨_, .call ⟨.builtin .append, _, _⟩, _, _, _, _⟩ _ _ _; (first | refine e_append ?_ | refine e_appendIn ?_); intro _ _ _)) | (show wpC _ _ _ _ _ _; first | refine wpC_seq ?_ | refine wpC_region ?_ | refine c_true ?_ | refine c_false ?_ | (refine c_b (fun _ => ?_) (fun _ => ?_) <;> (first | (exfalso; omega) | contradiction | skip)) | refine wpC_block ?_ | refine wpC_ret ?_ | refine wpC_skip ?_ | refine wpC_exit ?_ | refine wpC_label ?_) | (show Then _ _ _ _ _ _ _; first | refine then_normal ?_ | refine then_ret ?_ | refine then_exit ?_) | (show InBlock _ _ _ _ _ _; first | refine inBlock_normal ?_ | refine inBlock_ret ?_ | refine inBlock_same ?_ | refine b_other ?_) | (show LoopPost _ _ _ _ _ _; first | refine loop_ret ?_ | refine loop_exit ?_) | (show RetP _ _ _ _ _ _ _ _; first | refine r_1 ?_))
  · refine wpC_loopA (κ := NuS) [3, 4, 16, 17, 18, 19, 20, 21, 22, 23, 24, 25, 26] (fun s => [(3, .int .u64 (s.u : Int)), (4, s.v)]) (fun s => s.B ++ F) (fun s => s.bs ++ vb s.u = vb (zz n) ∧ s.u < 18446744073709551616 ∧ BytO s.v s.bs s.B) (fun s => s.u)
      ⟨_, .slice none 0 0, [], []⟩ ⟨?_, ?_, SlO.nil 5 1⟩ ⟨rfl, rfl, trivial⟩ q_drp ?_
    · simp only [List.nil_append]
      congr 1
      unfold zz
      rw [if_pos (by assumption)]; omega
    · simp only
      omega
    rintro ⟨u, v, B, bs⟩ ρx ⟨hb, hu, hv⟩
    simp only at hb hu hv ⊢
    have hlb : bs.length ≤ 10 := by
      have h3 := vb_len10 hz
      rw [← hb, List.length_append] at h3
      omega
    by_cases hs : u < 128
    · rw [vb_small hs] at hb
      repeat' (first | refine s_rdm ?_ (hr := by (apply rd_u64u8; exact rfl; exact rfl; exact rfl; done)) | (refine s_rdp ?_ (hr := by (apply (rd_remU (b := 128)); exact rfl; exact rfl; decide; done))) | (refine s_rdp ?_ (hr := by (apply (rd_add8U 128); exact rfl; exact rfl; omega; done))) | (refine s_rdp ?_ (hr := by (apply (rd_quoU (b := 128)); exact rfl; exact rfl; exact rfl; exact hu; decide; done))) | (show wpO _ _ _ _ _ _ _; first | refine wpO_nil ?_ | (show wpO _ _ _ (⟨_, .binOp _ _ _ _ _, _, _, _, _⟩ :: _) _ _ _; first | refine s_tt ?_ | refine s_ff ?_ | refine s_rdp ?_ | (refine s_cmp (fun _ => ?_) (fun _ => ?_) <;> (first | (exfalso; omega) | contradiction | skip)) | (refine s_cb (fun _ => ?_) (fun _ => ?_) <;> (first | (exfalso; omega) | contradiction | skip))) | (show wpO _ _ _ (⟨_, .convert _ _ _, _, _, _, _⟩ :: _) _ _ _; first | (refine s_exs ?_; refine e_mark ?_) | refine s_rdm ?_ (hr := by first | (apply rd_bytesStrO; (conv => lhs; whnf); assumption; exact Sbs.sub (self := by infer_instance); exact rfl; exact rfl; exact rfl; done) | (apply rd_bytesStr; (conv => lhs; whnf); assumption; exact Sbs.sub (self := by infer_instance); exact rfl; exact rfl; exact rfl; done))) | refine s_rdp ?_ | refine s_rdm ?_ | refine s_exq ?_ | refine s_exm ?_) | (show Ex _ _ _ _ _; first | (show Ex _ ⟨_, .convert _ _ _, _, _, _, _⟩ _ _ _; refine e_mark ?_) | (show Ex _ ⟨_, .buildSlice _ _ _, _, _, _, _⟩ _ _ _; first | (refine e_buildSlice ?_; intro _) | (refine e_buildNil ?_; intro _ _ _)) | (show Ex _ ⟨_, .call ⟨.builtin .append, _, _⟩, _, _, _, _⟩ _ _ _; (first | refine e_append ?_ | refine e_appendIn ?_); intro _ _ _)) | (show wpC _ _ _ _ _ _; first | refine wpC_seq ?_ | refine wpC_region ?_ | refine c_true ?_ | refine c_false ?_ | (refine c_b (fun _ => ?_) (fun _ => ?_) <;> (first | (exfalso; omega) | contradiction | skip)) | refine wpC_block ?_ | refine wpC_ret ?_ | refine wpC_skip ?_ | refine wpC_exit ?_ | refine wpC_label ?_) | (show Then _ _ _ _ _ _ _; first | refine then_normal ?_ | refine then_ret ?_ | refine then_exit ?_) | (show InBlock _ _ _ _ _ _; first | refine inBlock_normal ?_ | refine inBlock_ret ?_ | refine inBlock_same ?_ | refine b_other ?_) | (show LoopPost _ _ _ _ _ _; first | refine loop_ret ?_ | refine loop_exit ?_) | (show RetP _ _ _ _ _ _ _ _; first | refine r_1 ?_))
      all_goals first
        | (exfalso; omega)
        | (rename_i w Bw hw
           rw [byC_end rfl, hb] at hw
           exact q_drop (hK w Bw (hw.cast (by rw [← hb]; simp) rfl)))
    · rw [vb_big hs] at hb
      repeat' (first | refine s_rdm ?_ (hr := by (apply rd_u64u8; exact rfl; exact rfl; exact rfl; done)) | (refine s_rdp ?_ (hr := by (apply (rd_remU (b := 128)); exact rfl; exact rfl; decide; done))) | (refine s_rdp ?_ (hr := by (apply (rd_add8U 128); exact rfl; exact rfl; omega; done))) | (refine s_rdp ?_ (hr := by (apply (rd_quoU (b := 128)); exact rfl; exact rfl; exact rfl; exact hu; decide; done))) | (show wpO _ _ _ _ _ _ _; first | refine wpO_nil ?_ | (show wpO _ _ _ (⟨_, .binOp _ _ _ _ _, _, _, _, _⟩ :: _) _ _ _; first | refine s_tt ?_ | refine s_ff ?_ | refine s_rdp ?_ | (refine s_cmp (fun _ => ?_) (fun _ => ?_) <;> (first | (exfalso; omega) | contradiction | skip)) | (refine s_cb (fun _ => ?_) (fun _ => ?_) <;> (first | (exfalso; omega) | contradiction | skip))) | (show wpO _ _ _ (⟨_, .convert _ _ _, _, _, _, _⟩ :: _) _ _ _; first | (refine s_exs ?_; refine e_mark ?_) | refine s_rdm ?_ (hr := by first | (apply rd_bytesStrO; (conv => lhs; whnf); assumption; exact Sbs.sub (self := by infer_instance); exact rfl; exact rfl; exact rfl; done) | (apply rd_bytesStr; (conv => lhs; whnf); assumption; exact Sbs.sub (self := by infer_instance); exact rfl; exact rfl; exact rfl; done))) | refine s_rdp ?_ | refine s_rdm ?_ | refine s_exq ?_ | refine s_exm ?_) | (show Ex _ _ _ _ _; first | (show Ex _ ⟨_, .convert _ _ _, _, _, _, _⟩ _ _ _; refine e_mark ?_) | (show Ex _ ⟨_, .buildSlice _ _ _, _, _, _, _⟩ _ _ _; first | (refine e_buildSlice ?_; intro _) | (refine e_buildNil ?_; intro _ _ _)) | (show Ex _ ⟨_, .call ⟨.builtin .append, _, _⟩, _, _, _, _⟩ _ _ _; (first | refine e_append ?_ | refine e_appendIn ?_); intro _ _ _)) | (show wpC _ _ _ _ _ _; first | refine wpC_seq ?_ | refine wpC_region ?_ | refine c_true ?_ | refine c_false ?_ | (refine c_b (fun _ => ?_) (fun _ => ?_) <;> (first | (exfalso; omega) | contradiction | skip)) | refine wpC_block ?_ | refine wpC_ret ?_ | refine wpC_skip ?_ | refine wpC_exit ?_ | refine wpC_label ?_) | (show Then _ _ _ _ _ _ _; first | refine then_normal ?_ | refine then_ret ?_ | refine then_exit ?_) | (show InBlock _ _ _ _ _ _; first | refine inBlock_normal ?_ | refine inBlock_ret ?_ | refine inBlock_same ?_ | refine b_other ?_) | (show LoopPost _ _ _ _ _ _; first | refine loop_ret ?_ | refine loop_exit ?_) | (show RetP _ _ _ _ _ _ _ _; first | refine r_1 ?_))
      all_goals first
        | (exfalso; omega)
        | (rename_i w Bw hw
           rw [byC_end (u := u % 128 + 128) (by omega)] at hw
           refine lp_end ⟨u / 128, w, Bw, bs ++ [UInt8.ofNat (u % 128 + 128)]⟩ (by simp only; omega) ⟨by simp only [List.append_assoc, List.cons_append, List.nil_append]; exact hb, by simp only; omega, hw.cast (by simp) rfl⟩)
  · refine wpC_loopA (κ := NuS) [3, 4, 16, 17, 18, 19, 20, 21, 22, 23, 24, 25, 26] (fun s => [(3, .int .u64 (s.u : Int)), (4, s.v)]) (fun s => s.B ++ F) (fun s => s.bs ++ vb s.u = vb (zz n) ∧ s.u < 18446744073709551616 ∧ BytO s.v s.bs s.B) (fun s => s.u)
      ⟨_, .slice none 0 0, [], []⟩ ⟨?_, ?_, SlO.nil 5 1⟩ ⟨rfl, rfl, trivial⟩ q_drp ?_
    · simp only [List.nil_append]
      congr 1
      unfold zz
      rw [if_neg (by assumption)]; omega
    · simp only
      omega
    rintro ⟨u, v, B, bs⟩ ρx ⟨hb, hu, hv⟩
    simp only at hb hu hv ⊢
    have hlb : bs.length ≤ 10 := by
      have h3 := vb_len10 hz
      rw [← hb, List.length_append] at h3
      omega
    by_cases hs : u < 128
    · rw [vb_small hs] at hb
      repeat' (first | refine s_rdm ?_ (hr := by (apply rd_u64u8; exact rfl; exact rfl; exact rfl; done)) | (refine s_rdp ?_ (hr := by (apply (rd_remU (b := 128)); exact rfl; exact rfl; decide; done))) | (refine s_rdp ?_ (hr := by (apply (rd_add8U 128); exact rfl; exact rfl; omega; done))) | (refine s_rdp ?_ (hr := by (apply (rd_quoU (b := 128)); exact rfl; exact rfl; exact rfl; exact hu; decide; done))) | (show wpO _ _ _ _ _ _ _; first | refine wpO_nil ?_ | (show wpO _ _ _ (⟨_, .binOp _ _ _ _ _, _, _, _, _⟩ :: _) _ _ _; first | refine s_tt ?_ | refine s_ff ?_ | refine s_rdp ?_ | (refine s_cmp (fun _ => ?_) (fun _ => ?_) <;> (first | (exfalso; omega) | contradiction | skip)) | (refine s_cb (fun _ => ?_) (fun _ => ?_) <;> (first | (exfalso; omega) | contradiction | skip))) | (show wpO _ _ _ (⟨_, .convert _ _ _, _, _, _, _⟩ :: _) _ _ _; first | (refine s_exs ?_; refine e_mark ?_) | refine s_rdm ?_ (hr := by first | (apply rd_bytesStrO; (conv => lhs; whnf); assumption; exact Sbs.sub (self := by infer_instance); exact rfl; exact rfl; exact rfl; done) | (apply rd_bytesStr; (conv => lhs; whnf); assumption; exact Sbs.sub (self := by infer_instance); exact rfl; exact rfl; exact rfl; done))) | refine s_rdp ?_ | refine s_rdm ?_ | refine s_exq ?_ | refine s_exm ?_) | (show Ex _ _ _ _ _; first | (show Ex _ ⟨_, .convert _ _ _, _, _, _, _⟩ _ _ _; refine e_mark ?_) | (show Ex _ ⟨_, .buildSlice _ _ _, _, _, _, _⟩ _ _ _; first | (refine e_buildSlice ?_; intro _) | (refine e_buildNil ?_; intro _ _ _)) | (show Ex _ ⟨_, .call ⟨.builtin .append, _, _⟩, _, _, _, _⟩ _ _ _; (first | refine e_append ?_ | refine e_appendIn ?_); intro _ _ _)) | (show wpC _ _ _ _ _ _; first | refine wpC_seq ?_ | refine wpC_region ?_ | refine c_true ?_ | refine c_false ?_ | (refine c_b (fun _ => ?_) (fun _ => ?_) <;> (first | (exfalso; omega) | contradiction | skip)) | refine wpC_block ?_ | refine wpC_ret ?_ | refine wpC_skip ?_ | refine wpC_exit ?_ | refine wpC_label ?_) | (show Then _ _ _ _ _ _ _; first | refine then_normal ?_ | refine then_ret ?_ | refine then_exit ?_) | (show InBlock _ _ _ _ _ _; first | refine inBlock_normal ?_ | refine inBlock_ret ?_ | refine inBlock_same ?_ | refine b_other ?_) | (show LoopPost _ _ _ _ _ _; first | refine loop_ret ?_ | refine loop_exit ?_) | (show RetP _ _ _ _ _ _ _ _; first | refine r_1 ?_))
      all_goals first
        | (exfalso; omega)
        | (rename_i w Bw hw
           rw [byC_end rfl, hb] at hw
           exact q_drop (hK w Bw (hw.cast (by rw [← hb]; simp) rfl)))
    · rw [vb_big hs] at hb
      repeat' (first | refine s_rdm ?_ (hr := by (apply rd_u64u8; exact rfl; exact rfl; exact rfl; done)) | (refine s_rdp ?_ (hr := by (apply (rd_remU (b := 128)); exact rfl; exact rfl; decide; done))) | (refine s_rdp ?_ (hr := by (apply (rd_add8U 128); exact rfl; exact rfl; omega; done))) | (refine s_rdp ?_ (hr := by (apply (rd_quoU (b := 128)); exact rfl; exact rfl; exact rfl; exact hu; decide; done))) | (show wpO _ _ _ _ _ _ _; first | refine wpO_nil ?_ | (show wpO _ _ _ (⟨_, .binOp _ _ _ _ _, _, _, _, _⟩ :: _) _ _ _; first | refine s_tt ?_ | refine s_ff ?_ | refine s_rdp ?_ | (refine s_cmp (fun _ => ?_) (fun _ => ?_) <;> (first | (exfalso; omega) | contradiction | skip)) | (refine s_cb (fun _ => ?_) (fun _ => ?_) <;> (first | (exfalso; omega) | contradiction | skip))) | (show wpO _ _ _ (⟨_, .convert _ _ _, _, _, _, _⟩ :: _) _ _ _; first | (refine s_exs ?_; refine e_mark ?_) | refine s_rdm ?_ (hr := by first | (apply rd_bytesStrO; (conv => lhs; whnf); assumption; exact Sbs.sub (self := by infer_instance); exact rfl; exact rfl; exact rfl; done) | (apply rd_bytesStr; (conv => lhs; whnf); assumption; exact Sbs.sub (self := by infer_instance); exact rfl; exact rfl; exact rfl; done))) | refine s_rdp ?_ | refine s_rdm ?_ | refine s_exq ?_ | refine s_exm ?_) | (show Ex _ _ _ _ _; first | (show Ex _ ⟨_, .convert _ _ _, _, _, _, _⟩ _ _ _; refine e_mark ?_) | (show Ex _ ⟨_, .buildSlice _ _ _, _, _, _, _⟩ _ _ _; first | (refine e_buildSlice ?_; intro _) | (refine e_buildNil ?_; intro _ _ _)) | (show Ex _ ⟨_, .call ⟨.builtin .append, _, _⟩, _, _, _, _⟩ _ _ _; (first | refine e_append ?_ | refine e_appendIn ?_); intro _ _ _)) | (show wpC _ _ _ _ _ _; first | refine wpC_seq ?_ | refine wpC_region ?_ | refine c_true ?_ | refine c_false ?_ | (refine c_b (fun _ => ?_) (fun _ => ?_) <;> (first | (exfalso; omega) | contradiction | skip)) | refine wpC_block ?_ | refine wpC_ret ?_ | refine wpC_skip ?_ | refine wpC_exit ?_ | refine wpC_label ?_) | (show Then _ _ _ _ _ _ _; first | refine then_normal ?_ | refine then_ret ?_ | refine then_exit ?_) | (show InBlock _ _ _ _ _ _; first | refine inBlock_normal ?_ | refine inBlock_ret ?_ | refine inBlock_same ?_ | refine b_other ?_) | (show LoopPost _ _ _ _ _ _; first | refine loop_ret ?_ | refine loop_exit ?_) | (show RetP _ _ _ _ _ _ _ _; first | refine r_1 ?_))
      all_goals first
        | (exfalso; omega)
        | (rename_i w Bw hw
           rw [byC_end (u := u % 128 + 128) (by omega)] at hw
           refine lp_end ⟨u / 128, w, Bw, bs ++ [UInt8.ofNat (u % 128 + 128)]⟩ (by simp only; omega) ⟨by simp only [List.append_assoc, List.cons_append, List.nil_append]; exact hb, by simp only; omega, hw.cast (by simp) rfl⟩)
end Go.Vl

/-
  The check of bytes: the program's.
-/
namespace Go.Vl
open Go.Proofs
set_option maxHeartbeats 4000000 in
set_option maxRecDepth 100000 in
theorem fold_take {bs : List UInt8} {j : Nat} {b : UInt8} (h : bs[j]? = some b) (s : Nat) : (bs.take (j + 1)).foldl crcB s = crcN 8 ((bs.take j).foldl crcB s ^^^ b.toNat) := by
  rw [List.take_add_one, h, List.foldl_append, ← crcB_eq]
  rfl
set_option maxHeartbeats 4000000 in
set_option maxRecDepth 100000 in
theorem take_lt (bs : List UInt8) (j : Nat) : (bs.take j).foldl crcB 4294967295 < 4294967296 := foldB_lt _ (by decide)
attribute [local irreducible] wpC wpO wpD Ex Rd callsK RetP Drop valK
set_option maxHeartbeats 4000000 in
set_option maxRecDepth 100000 in
theorem sum_spec (e : World) {bs : List UInt8} {bk : Nat} {v : Value} {Bs F : Hp} {K : Value → Hp → Prop} (hin : InSl Bs 1 (bs.map byC) v) (hl : bs.length ≤ 9223372036854775806)
    (hK : K (.int .u32 (sumP bs : Int)) (([(bk, cellsO [v] 22)] ++ Bs) ++ F)) :
    callsK Try.prog e 111 #[.slice (some ⟨bk, 0, none⟩) 1 1] (([(bk, cellsO [v] 22)] ++ Bs) ++ F) K := by
  have hin0 := hin
  obtain ⟨av, cv, rfl, _⟩ := hin0
  have hml : (bs.map byC).length = bs.length := List.length_map _
  rw [hml] at hin hK ⊢
  refine calls_body (N := 40) (args := [.slice (some ⟨bk, 0, none⟩) 1 1]) Try.func111 rfl rfl rfl (by simp) ?_
  repeat' ((fail_if_success (show wpC _ (.loop _) _ _ _ _)); first | (show wpO _ _ _ _ _ _ _; first | refine wpO_nil ?_ | (show wpO _ _ _ (⟨_, .binOp _ _ _ _ _, _, _, _, _⟩ :: _) _ _ _; first | refine s_tt ?_ | refine s_ff ?_ | refine s_rdp ?_ | refine s_xor8 (fun _ => ?_) | (refine s_cmp (fun _ => ?_) (fun _ => ?_) <;> (first | (exfalso; omega) | contradiction | skip)) | (refine s_cb (fun _ => ?_) (fun _ => ?_) <;> (first | (exfalso; omega) | contradiction | skip))) | (show wpO _ _ _ (⟨_, .indexAddr _ _ _, _, _, _, _⟩ :: _) _ _ _; first | refine s_rdp ?_ | refine s_idx (fun _ _ _ _ _ _ _ => ?_)) | (show wpO _ _ _ (⟨_, .convert _ _ _, _, _, _, _⟩ :: _) _ _ _; first | (refine s_exs ?_; refine e_mark ?_) | refine s_rdm ?_ (hr := by first | (apply rd_bytesStrO; (conv => lhs; whnf); assumption; exact Sbs.sub (self := by infer_instance); exact rfl; exact rfl; exact rfl; done) | (apply rd_bytesStr; (conv => lhs; whnf); assumption; exact Sbs.sub (self := by infer_instance); exact rfl; exact rfl; exact rfl; done))) | refine s_rdp ?_ | refine s_rdm ?_ | refine s_exq ?_ | refine s_exm ?_) | (show Ex _ _ _ _ _; first | (show Ex _ ⟨_, .convert _ _ _, _, _, _, _⟩ _ _ _; refine e_mark ?_)) | (show wpC _ _ _ _ _ _; first | refine wpC_seq ?_ | refine wpC_region ?_ | refine c_true ?_ | refine c_false ?_ | (refine c_b (fun _ => ?_) (fun _ => ?_) <;> (first | (exfalso; omega) | contradiction | skip)) | refine wpC_block ?_ | refine wpC_ret ?_ | refine wpC_skip ?_ | refine wpC_exit ?_ | refine wpC_label ?_) | (show Then _ _ _ _ _ _ _; first | refine then_normal ?_ | refine then_ret ?_ | refine then_exit ?_) | (show InBlock _ _ _ _ _ _; first | refine inBlock_normal ?_ | refine inBlock_ret ?_ | refine inBlock_same ?_ | refine b_other ?_) | (show LoopPost _ _ _ _ _ _; first | refine loop_ret ?_ | refine loop_exit ?_) | (show RetP _ _ _ _ _ _ _ _; first | refine r_1 ?_))
  refine wpC_loopA (κ := Nat) [3, 5, 7, 8, 11, 12, 13, 14, 15, 16, 17, 18, 19, 20, 21, 22, 23, 24, 25, 26, 27, 28, 29, 30, 31, 32, 33, 34, 35, 36, 37] (fun k => [(3, .int .u32 (((if k = 0 then 4294967295 else bs.foldl crcB 4294967295 : Nat)) : Int)), (11, .int .i64 (k : Int))]) (fun _ => ([(bk, cellsO [.slice av bs.length cv] 22)] ++ Bs) ++ F) (fun k => k ≤ 1) (fun k => 1 - k) 0 (by decide) ⟨rfl, rfl, trivial⟩ q_drp ?_
  rintro k ρx hk
  rcases (by omega : k = 0 ∨ k = 1) with rfl | rfl
  · repeat' ((fail_if_success (show wpC _ (.loop _) _ _ _ _)); first | (show wpO _ _ _ _ _ _ _; first | refine wpO_nil ?_ | (show wpO _ _ _ (⟨_, .binOp _ _ _ _ _, _, _, _, _⟩ :: _) _ _ _; first | refine s_tt ?_ | refine s_ff ?_ | refine s_rdp ?_ | refine s_xor8 (fun _ => ?_) | (refine s_cmp (fun _ => ?_) (fun _ => ?_) <;> (first | (exfalso; omega) | contradiction | skip)) | (refine s_cb (fun _ => ?_) (fun _ => ?_) <;> (first | (exfalso; omega) | contradiction | skip))) | (show wpO _ _ _ (⟨_, .indexAddr _ _ _, _, _, _, _⟩ :: _) _ _ _; first | refine s_rdp ?_ | refine s_idx (fun _ _ _ _ _ _ _ => ?_)) | (show wpO _ _ _ (⟨_, .convert _ _ _, _, _, _, _⟩ :: _) _ _ _; first | (refine s_exs ?_; refine e_mark ?_) | refine s_rdm ?_ (hr := by first | (apply rd_bytesStrO; (conv => lhs; whnf); assumption; exact Sbs.sub (self := by infer_instance); exact rfl; exact rfl; exact rfl; done) | (apply rd_bytesStr; (conv => lhs; whnf); assumption; exact Sbs.sub (self := by infer_instance); exact rfl; exact rfl; exact rfl; done))) | refine s_rdp ?_ | refine s_rdm ?_ | refine s_exq ?_ | refine s_exm ?_) | (show Ex _ _ _ _ _; first | (show Ex _ ⟨_, .convert _ _ _, _, _, _, _⟩ _ _ _; refine e_mark ?_)) | (show wpC _ _ _ _ _ _; first | refine wpC_seq ?_ | refine wpC_region ?_ | refine c_true ?_ | refine c_false ?_ | (refine c_b (fun _ => ?_) (fun _ => ?_) <;> (first | (exfalso; omega) | contradiction | skip)) | refine wpC_block ?_ | refine wpC_ret ?_ | refine wpC_skip ?_ | refine wpC_exit ?_ | refine wpC_label ?_) | (show Then _ _ _ _ _ _ _; first | refine then_normal ?_ | refine then_ret ?_ | refine then_exit ?_) | (show InBlock _ _ _ _ _ _; first | refine inBlock_normal ?_ | refine inBlock_ret ?_ | refine inBlock_same ?_ | refine b_other ?_) | (show LoopPost _ _ _ _ _ _; first | refine loop_ret ?_ | refine loop_exit ?_) | (show RetP _ _ _ _ _ _ _ _; first | refine r_1 ?_))
    refine wpC_loopA (κ := Nat) [3, 7, 8, 17, 18, 19, 20, 21, 22, 23, 24, 25, 26, 27, 28, 29, 30, 31, 32, 33, 34, 35, 36] (fun j => [(3, .int .u32 (((bs.take j).foldl crcB 4294967295 : Nat) : Int)), (17, .int .i64 (j : Int))]) (fun _ => ([(bk, cellsO [.slice av bs.length cv] 22)] ++ Bs) ++ F) (fun j => j ≤ bs.length) (fun j => bs.length - j) 0 (Nat.zero_le _) ⟨rfl, rfl, trivial⟩ q_drp ?_
    rintro j ρy hj
    cases hr : bs[j]? with
    | none =>
      have hge : bs.length ≤ j := List.getElem?_eq_none_iff.1 hr
      rw [List.take_of_length_le hge]
      repeat' (first | (show wpO _ _ _ _ _ _ _; first | refine wpO_nil ?_ | (show wpO _ _ _ (⟨_, .binOp _ _ _ _ _, _, _, _, _⟩ :: _) _ _ _; first | refine s_tt ?_ | refine s_ff ?_ | refine s_rdp ?_ | refine s_xor8 (fun _ => ?_) | (refine s_cmp (fun _ => ?_) (fun _ => ?_) <;> (first | (exfalso; omega) | contradiction | skip)) | (refine s_cb (fun _ => ?_) (fun _ => ?_) <;> (first | (exfalso; omega) | contradiction | skip))) | (show wpO _ _ _ (⟨_, .indexAddr _ _ _, _, _, _, _⟩ :: _) _ _ _; first | refine s_rdp ?_ | refine s_idx (fun _ _ _ _ _ _ _ => ?_)) | (show wpO _ _ _ (⟨_, .convert _ _ _, _, _, _, _⟩ :: _) _ _ _; first | (refine s_exs ?_; refine e_mark ?_) | refine s_rdm ?_ (hr := by first | (apply rd_bytesStrO; (conv => lhs; whnf); assumption; exact Sbs.sub (self := by infer_instance); exact rfl; exact rfl; exact rfl; done) | (apply rd_bytesStr; (conv => lhs; whnf); assumption; exact Sbs.sub (self := by infer_instance); exact rfl; exact rfl; exact rfl; done))) | refine s_rdp ?_ | refine s_rdm ?_ | refine s_exq ?_ | refine s_exm ?_) | (show Ex _ _ _ _ _; first | (show Ex _ ⟨_, .convert _ _ _, _, _, _, _⟩ _ _ _; refine e_mark ?_)) | (show wpC _ _ _ _ _ _; first | refine wpC_seq ?_ | refine wpC_region ?_ | refine c_true ?_ | refine c_false ?_ | (refine c_b (fun _ => ?_) (fun _ => ?_) <;> (first | (exfalso; omega) | contradiction | skip)) | refine wpC_block ?_ | refine wpC_ret ?_ | refine wpC_skip ?_ | refine wpC_exit ?_ | refine wpC_label ?_) | (show Then _ _ _ _ _ _ _; first | refine then_normal ?_ | refine then_ret ?_ | refine then_exit ?_) | (show InBlock _ _ _ _ _ _; first | refine inBlock_normal ?_ | refine inBlock_ret ?_ | refine inBlock_same ?_ | refine b_other ?_) | (show LoopPost _ _ _ _ _ _; first | refine loop_ret ?_ | refine loop_exit ?_) | (show RetP _ _ _ _ _ _ _ _; first | refine r_1 ?_))
      exact lp_end 1 (by decide) (by decide)
    | some b =>
      have hlt := (List.getElem?_eq_some_iff.1 hr).1
      have hft := fold_take hr 4294967295
      have hsl := take_lt bs j
      have hb8 : b.toNat < 256 := b.toNat_lt
      generalize (bs.take j).foldl crcB 4294967295 = s at *
      have hx := xor8_lt (b := b) hsl
      repeat' ((fail_if_success (show wpC _ (.loop _) _ _ _ _)); first | refine s_rdm ?_ (hr := by (apply rd_u8u32; exact rfl; omega; exact rfl; exact rfl; done)) | (refine s_rdp ?_ (hr := by (apply rd_xor32; exact rfl; exact rfl; omega; omega; done))) | (show wpO _ _ _ _ _ _ _; first | refine wpO_nil ?_ | (show wpO _ _ _ (⟨_, .binOp _ _ _ _ _, _, _, _, _⟩ :: _) _ _ _; first | refine s_tt ?_ | refine s_ff ?_ | refine s_rdp ?_ | refine s_xor8 (fun _ => ?_) | (refine s_cmp (fun _ => ?_) (fun _ => ?_) <;> (first | (exfalso; omega) | contradiction | skip)) | (refine s_cb (fun _ => ?_) (fun _ => ?_) <;> (first | (exfalso; omega) | contradiction | skip))) | (show wpO _ _ _ (⟨_, .indexAddr _ _ _, _, _, _, _⟩ :: _) _ _ _; first | refine s_rdp ?_ | refine s_idx (fun _ _ _ _ _ _ _ => ?_)) | (show wpO _ _ _ (⟨_, .convert _ _ _, _, _, _, _⟩ :: _) _ _ _; first | (refine s_exs ?_; refine e_mark ?_) | refine s_rdm ?_ (hr := by first | (apply rd_bytesStrO; (conv => lhs; whnf); assumption; exact Sbs.sub (self := by infer_instance); exact rfl; exact rfl; exact rfl; done) | (apply rd_bytesStr; (conv => lhs; whnf); assumption; exact Sbs.sub (self := by infer_instance); exact rfl; exact rfl; exact rfl; done))) | refine s_rdp ?_ | refine s_rdm ?_ | refine s_exq ?_ | refine s_exm ?_) | (show Ex _ _ _ _ _; first | (show Ex _ ⟨_, .convert _ _ _, _, _, _, _⟩ _ _ _; refine e_mark ?_)) | (show wpC _ _ _ _ _ _; first | refine wpC_seq ?_ | refine wpC_region ?_ | refine c_true ?_ | refine c_false ?_ | (refine c_b (fun _ => ?_) (fun _ => ?_) <;> (first | (exfalso; omega) | contradiction | skip)) | refine wpC_block ?_ | refine wpC_ret ?_ | refine wpC_skip ?_ | refine wpC_exit ?_ | refine wpC_label ?_) | (show Then _ _ _ _ _ _ _; first | refine then_normal ?_ | refine then_ret ?_ | refine then_exit ?_) | (show InBlock _ _ _ _ _ _; first | refine inBlock_normal ?_ | refine inBlock_ret ?_ | refine inBlock_same ?_ | refine b_other ?_) | (show LoopPost _ _ _ _ _ _; first | refine loop_ret ?_ | refine loop_exit ?_) | (show RetP _ _ _ _ _ _ _ _; first | refine r_1 ?_))
      refine wpC_loopA (κ := Nat) [3, 8, 25, 26, 27, 28, 29, 30, 31, 32, 33, 34, 35] (fun t => [(3, .int .u32 ((crcN t (s ^^^ b.toNat) : Nat) : Int)), (25, .int .i64 (t : Int))]) (fun _ => ([(bk, cellsO [.slice av bs.length cv] 22)] ++ Bs) ++ F) (fun t => t ≤ 8) (fun t => 8 - t) 0 (by decide) ⟨rfl, rfl, trivial⟩ q_drp ?_
      rintro t ρz ht
      have hcl := crcN_lt (n := t) hx
      have hsu := crcN_succ (s ^^^ b.toNat) t
      by_cases h8 : t < 8
      · generalize crcN t (s ^^^ b.toNat) = c at *
        repeat' (first | (refine s_rdp ?_ (hr := by (apply rd_and1; exact rfl; exact rfl; omega; done))) | (refine s_rdp ?_ (hr := by (apply (rd_shr32 1); exact rfl; exact rfl; decide; done))) | (refine s_rdp ?_ (hr := by (apply (rd_xor32 (b := 3988292384)); exact rfl; exact rfl; omega; decide; done))) | (show wpO _ _ _ _ _ _ _; first | refine wpO_nil ?_ | (show wpO _ _ _ (⟨_, .binOp _ _ _ _ _, _, _, _, _⟩ :: _) _ _ _; first | refine s_tt ?_ | refine s_ff ?_ | refine s_rdp ?_ | refine s_xor8 (fun _ => ?_) | (refine s_cmp (fun _ => ?_) (fun _ => ?_) <;> (first | (exfalso; omega) | contradiction | skip)) | (refine s_cb (fun _ => ?_) (fun _ => ?_) <;> (first | (exfalso; omega) | contradiction | skip))) | (show wpO _ _ _ (⟨_, .indexAddr _ _ _, _, _, _, _⟩ :: _) _ _ _; first | refine s_rdp ?_ | refine s_idx (fun _ _ _ _ _ _ _ => ?_)) | (show wpO _ _ _ (⟨_, .convert _ _ _, _, _, _, _⟩ :: _) _ _ _; first | (refine s_exs ?_; refine e_mark ?_) | refine s_rdm ?_ (hr := by first | (apply rd_bytesStrO; (conv => lhs; whnf); assumption; exact Sbs.sub (self := by infer_instance); exact rfl; exact rfl; exact rfl; done) | (apply rd_bytesStr; (conv => lhs; whnf); assumption; exact Sbs.sub (self := by infer_instance); exact rfl; exact rfl; exact rfl; done))) | refine s_rdp ?_ | refine s_rdm ?_ | refine s_exq ?_ | refine s_exm ?_) | (show Ex _ _ _ _ _; first | (show Ex _ ⟨_, .convert _ _ _, _, _, _, _⟩ _ _ _; refine e_mark ?_)) | (show wpC _ _ _ _ _ _; first | refine wpC_seq ?_ | refine wpC_region ?_ | refine c_true ?_ | refine c_false ?_ | (refine c_b (fun _ => ?_) (fun _ => ?_) <;> (first | (exfalso; omega) | contradiction | skip)) | refine wpC_block ?_ | refine wpC_ret ?_ | refine wpC_skip ?_ | refine wpC_exit ?_ | refine wpC_label ?_) | (show Then _ _ _ _ _ _ _; first | refine then_normal ?_ | refine then_ret ?_ | refine then_exit ?_) | (show InBlock _ _ _ _ _ _; first | refine inBlock_normal ?_ | refine inBlock_ret ?_ | refine inBlock_same ?_ | refine b_other ?_) | (show LoopPost _ _ _ _ _ _; first | refine loop_ret ?_ | refine loop_exit ?_) | (show RetP _ _ _ _ _ _ _ _; first | refine r_1 ?_))
        · exact lp_end (t + 1) (by omega) (by omega) (h3 := by refine ⟨?_, rfl, trivial⟩; show Value.int .u32 (((c / 2 ^ 1 ^^^ 3988292384 : Nat)) : Int) = Value.int .u32 ((crcN (t + 1) (s ^^^ b.toNat) : Nat) : Int); rw [hsu]; unfold crc1; rw [if_pos (by omega), Nat.pow_one])
        · exact lp_end (t + 1) (by omega) (by omega) (h3 := by refine ⟨?_, rfl, trivial⟩; show Value.int .u32 (((c / 2 ^ 1 : Nat)) : Int) = Value.int .u32 ((crcN (t + 1) (s ^^^ b.toNat) : Nat) : Int); rw [hsu]; unfold crc1; rw [if_neg (by omega), Nat.pow_one])
      · obtain rfl : t = 8 := by omega
        repeat' (first | (show wpO _ _ _ _ _ _ _; first | refine wpO_nil ?_ | (show wpO _ _ _ (⟨_, .binOp _ _ _ _ _, _, _, _, _⟩ :: _) _ _ _; first | refine s_tt ?_ | refine s_ff ?_ | refine s_rdp ?_ | refine s_xor8 (fun _ => ?_) | (refine s_cmp (fun _ => ?_) (fun _ => ?_) <;> (first | (exfalso; omega) | contradiction | skip)) | (refine s_cb (fun _ => ?_) (fun _ => ?_) <;> (first | (exfalso; omega) | contradiction | skip))) | (show wpO _ _ _ (⟨_, .indexAddr _ _ _, _, _, _, _⟩ :: _) _ _ _; first | refine s_rdp ?_ | refine s_idx (fun _ _ _ _ _ _ _ => ?_)) | (show wpO _ _ _ (⟨_, .convert _ _ _, _, _, _, _⟩ :: _) _ _ _; first | (refine s_exs ?_; refine e_mark ?_) | refine s_rdm ?_ (hr := by first | (apply rd_bytesStrO; (conv => lhs; whnf); assumption; exact Sbs.sub (self := by infer_instance); exact rfl; exact rfl; exact rfl; done) | (apply rd_bytesStr; (conv => lhs; whnf); assumption; exact Sbs.sub (self := by infer_instance); exact rfl; exact rfl; exact rfl; done))) | refine s_rdp ?_ | refine s_rdm ?_ | refine s_exq ?_ | refine s_exm ?_) | (show Ex _ _ _ _ _; first | (show Ex _ ⟨_, .convert _ _ _, _, _, _, _⟩ _ _ _; refine e_mark ?_)) | (show wpC _ _ _ _ _ _; first | refine wpC_seq ?_ | refine wpC_region ?_ | refine c_true ?_ | refine c_false ?_ | (refine c_b (fun _ => ?_) (fun _ => ?_) <;> (first | (exfalso; omega) | contradiction | skip)) | refine wpC_block ?_ | refine wpC_ret ?_ | refine wpC_skip ?_ | refine wpC_exit ?_ | refine wpC_label ?_) | (show Then _ _ _ _ _ _ _; first | refine then_normal ?_ | refine then_ret ?_ | refine then_exit ?_) | (show InBlock _ _ _ _ _ _; first | refine inBlock_normal ?_ | refine inBlock_ret ?_ | refine inBlock_same ?_ | refine b_other ?_) | (show LoopPost _ _ _ _ _ _; first | refine loop_ret ?_ | refine loop_exit ?_) | (show RetP _ _ _ _ _ _ _ _; first | refine r_1 ?_))
        exact lp_end (j + 1) (by omega) hlt (h3 := by refine ⟨?_, rfl, trivial⟩; show Value.int .u32 ((crcN 8 (s ^^^ b.toNat) : Nat) : Int) = Value.int .u32 (((bs.take (j + 1)).foldl crcB 4294967295 : Nat) : Int); rw [hft])
  · have hsl := foldB_lt bs (s := 4294967295) (by decide)
    repeat' (first | (refine s_rdp ?_ (hr := by (apply rd_not32; exact rfl; (first | omega | exact hsl); done))) | (show wpO _ _ _ _ _ _ _; first | refine wpO_nil ?_ | (show wpO _ _ _ (⟨_, .binOp _ _ _ _ _, _, _, _, _⟩ :: _) _ _ _; first | refine s_tt ?_ | refine s_ff ?_ | refine s_rdp ?_ | refine s_xor8 (fun _ => ?_) | (refine s_cmp (fun _ => ?_) (fun _ => ?_) <;> (first | (exfalso; omega) | contradiction | skip)) | (refine s_cb (fun _ => ?_) (fun _ => ?_) <;> (first | (exfalso; omega) | contradiction | skip))) | (show wpO _ _ _ (⟨_, .indexAddr _ _ _, _, _, _, _⟩ :: _) _ _ _; first | refine s_rdp ?_ | refine s_idx (fun _ _ _ _ _ _ _ => ?_)) | (show wpO _ _ _ (⟨_, .convert _ _ _, _, _, _, _⟩ :: _) _ _ _; first | (refine s_exs ?_; refine e_mark ?_) | refine s_rdm ?_ (hr := by first | (apply rd_bytesStrO; (conv => lhs; whnf); assumption; exact Sbs.sub (self := by infer_instance); exact rfl; exact rfl; exact rfl; done) | (apply rd_bytesStr; (conv => lhs; whnf); assumption; exact Sbs.sub (self := by infer_instance); exact rfl; exact rfl; exact rfl; done))) | refine s_rdp ?_ | refine s_rdm ?_ | refine s_exq ?_ | refine s_exm ?_) | (show Ex _ _ _ _ _; first | (show Ex _ ⟨_, .convert _ _ _, _, _, _, _⟩ _ _ _; refine e_mark ?_)) | (show wpC _ _ _ _ _ _; first | refine wpC_seq ?_ | refine wpC_region ?_ | refine c_true ?_ | refine c_false ?_ | (refine c_b (fun _ => ?_) (fun _ => ?_) <;> (first | (exfalso; omega) | contradiction | skip)) | refine wpC_block ?_ | refine wpC_ret ?_ | refine wpC_skip ?_ | refine wpC_exit ?_ | refine wpC_label ?_) | (show Then _ _ _ _ _ _ _; first | refine then_normal ?_ | refine then_ret ?_ | refine then_exit ?_) | (show InBlock _ _ _ _ _ _; first | refine inBlock_normal ?_ | refine inBlock_ret ?_ | refine inBlock_same ?_ | refine b_other ?_) | (show LoopPost _ _ _ _ _ _; first | refine loop_ret ?_ | refine loop_exit ?_) | (show RetP _ _ _ _ _ _ _ _; first | refine r_1 ?_))
    all_goals first | exact q_drop hK | trace_state
end Go.Vl

/-
  The check of bytes: the document's.
-/
namespace Go.Vl
open Go.Proofs
attribute [local irreducible] wpC wpO wpD Ex Rd callsK RetP Drop valK
set_option maxHeartbeats 4000000 in
set_option maxRecDepth 100000 in
theorem rsum_spec (e : World) {bs : List UInt8} {v : Value} {Bs F : Hp} {K : Value → Hp → Prop} (hin : InSl Bs 1 (bs.map byC) v) (hl : bs.length ≤ 9223372036854775806)
    (hK : K (.int .u32 (sumP bs : Int)) (Bs ++ F)) :
    callsK Try.prog e 106 #[v] (Bs ++ F) K := by
  have hin0 := hin
  obtain ⟨av, cv, rfl, _⟩ := hin0
  have hml : (bs.map byC).length = bs.length := List.length_map _
  rw [hml] at hin ⊢
  refine calls_body (N := 33) (args := [.slice av bs.length cv]) Try.func106 rfl rfl rfl (by simp) ?_
  repeat' ((fail_if_success (show wpC _ (.loop _) _ _ _ _)); first | (show wpO _ _ _ _ _ _ _; first | refine wpO_nil ?_ | (show wpO _ _ _ (⟨_, .binOp _ _ _ _ _, _, _, _, _⟩ :: _) _ _ _; first | refine s_tt ?_ | refine s_ff ?_ | refine s_rdp ?_ | refine s_xor8 (fun _ => ?_) | (refine s_cmp (fun _ => ?_) (fun _ => ?_) <;> (first | (exfalso; omega) | contradiction | skip)) | (refine s_cb (fun _ => ?_) (fun _ => ?_) <;> (first | (exfalso; omega) | contradiction | skip))) | (show wpO _ _ _ (⟨_, .indexAddr _ _ _, _, _, _, _⟩ :: _) _ _ _; first | refine s_rdp ?_ | refine s_idx (fun _ _ _ _ _ _ _ => ?_)) | (show wpO _ _ _ (⟨_, .convert _ _ _, _, _, _, _⟩ :: _) _ _ _; first | (refine s_exs ?_; refine e_mark ?_) | refine s_rdm ?_ (hr := by first | (apply rd_bytesStrO; (conv => lhs; whnf); assumption; exact Sbs.sub (self := by infer_instance); exact rfl; exact rfl; exact rfl; done) | (apply rd_bytesStr; (conv => lhs; whnf); assumption; exact Sbs.sub (self := by infer_instance); exact rfl; exact rfl; exact rfl; done))) | refine s_rdp ?_ | refine s_rdm ?_ | refine s_exq ?_ | refine s_exm ?_) | (show Ex _ _ _ _ _; first | (show Ex _ ⟨_, .convert _ _ _, _, _, _, _⟩ _ _ _; refine e_mark ?_)) | (show wpC _ _ _ _ _ _; first | refine wpC_seq ?_ | refine wpC_region ?_ | refine c_true ?_ | refine c_false ?_ | (refine c_b (fun _ => ?_) (fun _ => ?_) <;> (first | (exfalso; omega) | contradiction | skip)) | refine wpC_block ?_ | refine wpC_ret ?_ | refine wpC_skip ?_ | refine wpC_exit ?_ | refine wpC_label ?_) | (show Then _ _ _ _ _ _ _; first | refine then_normal ?_ | refine then_ret ?_ | refine then_exit ?_) | (show InBlock _ _ _ _ _ _; first | refine inBlock_normal ?_ | refine inBlock_ret ?_ | refine inBlock_same ?_ | refine b_other ?_) | (show LoopPost _ _ _ _ _ _; first | refine loop_ret ?_ | refine loop_exit ?_) | (show RetP _ _ _ _ _ _ _ _; first | refine r_1 ?_))
  refine wpC_loopA (κ := Nat) [3, 4, 5, 6, 7, 8, 9, 10, 11, 12, 13, 14, 15, 16, 17, 18, 19, 20, 21, 22, 23, 24, 25, 26, 27, 28, 29, 30] (fun j => [(3, .int .u32 (((bs.take j).foldl crcB 4294967295 : Nat) : Int)), (4, .int .i64 (j : Int))]) (fun _ => Bs ++ F) (fun j => j ≤ bs.length) (fun j => bs.length - j) 0 (Nat.zero_le _) ⟨rfl, rfl, trivial⟩ q_drp ?_
  rintro j ρy hj
  cases hr : bs[j]? with
  | none =>
    have hge : bs.length ≤ j := List.getElem?_eq_none_iff.1 hr
    rw [List.take_of_length_le hge]
    have hsl := foldB_lt bs (s := 4294967295) (by decide)
    repeat' (first | (refine s_rdp ?_ (hr := by (apply rd_not32; exact rfl; exact hsl; done))) | (show wpO _ _ _ _ _ _ _; first | refine wpO_nil ?_ | (show wpO _ _ _ (⟨_, .binOp _ _ _ _ _, _, _, _, _⟩ :: _) _ _ _; first | refine s_tt ?_ | refine s_ff ?_ | refine s_rdp ?_ | refine s_xor8 (fun _ => ?_) | (refine s_cmp (fun _ => ?_) (fun _ => ?_) <;> (first | (exfalso; omega) | contradiction | skip)) | (refine s_cb (fun _ => ?_) (fun _ => ?_) <;> (first | (exfalso; omega) | contradiction | skip))) | (show wpO _ _ _ (⟨_, .indexAddr _ _ _, _, _, _, _⟩ :: _) _ _ _; first | refine s_rdp ?_ | refine s_idx (fun _ _ _ _ _ _ _ => ?_)) | (show wpO _ _ _ (⟨_, .convert _ _ _, _, _, _, _⟩ :: _) _ _ _; first | (refine s_exs ?_; refine e_mark ?_) | refine s_rdm ?_ (hr := by first | (apply rd_bytesStrO; (conv => lhs; whnf); assumption; exact Sbs.sub (self := by infer_instance); exact rfl; exact rfl; exact rfl; done) | (apply rd_bytesStr; (conv => lhs; whnf); assumption; exact Sbs.sub (self := by infer_instance); exact rfl; exact rfl; exact rfl; done))) | refine s_rdp ?_ | refine s_rdm ?_ | refine s_exq ?_ | refine s_exm ?_) | (show Ex _ _ _ _ _; first | (show Ex _ ⟨_, .convert _ _ _, _, _, _, _⟩ _ _ _; refine e_mark ?_)) | (show wpC _ _ _ _ _ _; first | refine wpC_seq ?_ | refine wpC_region ?_ | refine c_true ?_ | refine c_false ?_ | (refine c_b (fun _ => ?_) (fun _ => ?_) <;> (first | (exfalso; omega) | contradiction | skip)) | refine wpC_block ?_ | refine wpC_ret ?_ | refine wpC_skip ?_ | refine wpC_exit ?_ | refine wpC_label ?_) | (show Then _ _ _ _ _ _ _; first | refine then_normal ?_ | refine then_ret ?_ | refine then_exit ?_) | (show InBlock _ _ _ _ _ _; first | refine inBlock_normal ?_ | refine inBlock_ret ?_ | refine inBlock_same ?_ | refine b_other ?_) | (show LoopPost _ _ _ _ _ _; first | refine loop_ret ?_ | refine loop_exit ?_) | (show RetP _ _ _ _ _ _ _ _; first | refine r_1 ?_))
    all_goals first | exact q_drop hK | trace_state
  | some b =>
    have hlt := (List.getElem?_eq_some_iff.1 hr).1
    have hft := fold_take hr 4294967295
    have hsl := take_lt bs j
    have hb8 : b.toNat < 256 := b.toNat_lt
    generalize (bs.take j).foldl crcB 4294967295 = s at *
    have hx := xor8_lt (b := b) hsl
    repeat' ((fail_if_success (show wpC _ (.loop _) _ _ _ _)); first | refine s_rdm ?_ (hr := by (apply rd_u8u32; exact rfl; omega; exact rfl; exact rfl; done)) | (refine s_rdp ?_ (hr := by (apply rd_xor32; exact rfl; exact rfl; omega; omega; done))) | (show wpO _ _ _ _ _ _ _; first | refine wpO_nil ?_ | (show wpO _ _ _ (⟨_, .binOp _ _ _ _ _, _, _, _, _⟩ :: _) _ _ _; first | refine s_tt ?_ | refine s_ff ?_ | refine s_rdp ?_ | refine s_xor8 (fun _ => ?_) | (refine s_cmp (fun _ => ?_) (fun _ => ?_) <;> (first | (exfalso; omega) | contradiction | skip)) | (refine s_cb (fun _ => ?_) (fun _ => ?_) <;> (first | (exfalso; omega) | contradiction | skip))) | (show wpO _ _ _ (⟨_, .indexAddr _ _ _, _, _, _, _⟩ :: _) _ _ _; first | refine s_rdp ?_ | refine s_idx (fun _ _ _ _ _ _ _ => ?_)) | (show wpO _ _ _ (⟨_, .convert _ _ _, _, _, _, _⟩ :: _) _ _ _; first | (refine s_exs ?_; refine e_mark ?_) | refine s_rdm ?_ (hr := by first | (apply rd_bytesStrO; (conv => lhs; whnf); assumption; exact Sbs.sub (self := by infer_instance); exact rfl; exact rfl; exact rfl; done) | (apply rd_bytesStr; (conv => lhs; whnf); assumption; exact Sbs.sub (self := by infer_instance); exact rfl; exact rfl; exact rfl; done))) | refine s_rdp ?_ | refine s_rdm ?_ | refine s_exq ?_ | refine s_exm ?_) | (show Ex _ _ _ _ _; first | (show Ex _ ⟨_, .convert _ _ _, _, _, _, _⟩ _ _ _; refine e_mark ?_)) | (show wpC _ _ _ _ _ _; first | refine wpC_seq ?_ | refine wpC_region ?_ | refine c_true ?_ | refine c_false ?_ | (refine c_b (fun _ => ?_) (fun _ => ?_) <;> (first | (exfalso; omega) | contradiction | skip)) | refine wpC_block ?_ | refine wpC_ret ?_ | refine wpC_skip ?_ | refine wpC_exit ?_ | refine wpC_label ?_) | (show Then _ _ _ _ _ _ _; first | refine then_normal ?_ | refine then_ret ?_ | refine then_exit ?_) | (show InBlock _ _ _ _ _ _; first | refine inBlock_normal ?_ | refine inBlock_ret ?_ | refine inBlock_same ?_ | refine b_other ?_) | (show LoopPost _ _ _ _ _ _; first | refine loop_ret ?_ | refine loop_exit ?_) | (show RetP _ _ _ _ _ _ _ _; first | refine r_1 ?_))
    refine wpC_loopA (κ := Nat) [3, 5, 19, 20, 21, 22, 23, 24, 25, 26, 27, 28, 29, 30] (fun t => [(3, .int .u32 ((crcN t (s ^^^ b.toNat) : Nat) : Int)), (5, .int .i64 (t : Int))]) (fun _ => Bs ++ F) (fun t => t ≤ 8) (fun t => 8 - t) 0 (by decide) ⟨rfl, rfl, trivial⟩ q_drp ?_
    rintro t ρz ht
    have hcl := crcN_lt (n := t) hx
    have hsu := crcN_succ (s ^^^ b.toNat) t
    by_cases h8 : t < 8
    · generalize crcN t (s ^^^ b.toNat) = c at *
      repeat' (first | (refine s_rdp ?_ (hr := by (apply (rd_remU (b := 2)); exact rfl; exact rfl; decide; done))) | (refine s_rdp ?_ (hr := by (apply (rd_quoU (b := 2)); exact rfl; exact rfl; exact rfl; exact hcl; decide; done))) | (refine s_rdp ?_ (hr := by (apply (rd_xor32 (b := 3988292384)); exact rfl; exact rfl; omega; decide; done))) | (show wpO _ _ _ _ _ _ _; first | refine wpO_nil ?_ | (show wpO _ _ _ (⟨_, .binOp _ _ _ _ _, _, _, _, _⟩ :: _) _ _ _; first | refine s_tt ?_ | refine s_ff ?_ | refine s_rdp ?_ | refine s_xor8 (fun _ => ?_) | (refine s_cmp (fun _ => ?_) (fun _ => ?_) <;> (first | (exfalso; omega) | contradiction | skip)) | (refine s_cb (fun _ => ?_) (fun _ => ?_) <;> (first | (exfalso; omega) | contradiction | skip))) | (show wpO _ _ _ (⟨_, .indexAddr _ _ _, _, _, _, _⟩ :: _) _ _ _; first | refine s_rdp ?_ | refine s_idx (fun _ _ _ _ _ _ _ => ?_)) | (show wpO _ _ _ (⟨_, .convert _ _ _, _, _, _, _⟩ :: _) _ _ _; first | (refine s_exs ?_; refine e_mark ?_) | refine s_rdm ?_ (hr := by first | (apply rd_bytesStrO; (conv => lhs; whnf); assumption; exact Sbs.sub (self := by infer_instance); exact rfl; exact rfl; exact rfl; done) | (apply rd_bytesStr; (conv => lhs; whnf); assumption; exact Sbs.sub (self := by infer_instance); exact rfl; exact rfl; exact rfl; done))) | refine s_rdp ?_ | refine s_rdm ?_ | refine s_exq ?_ | refine s_exm ?_) | (show Ex _ _ _ _ _; first | (show Ex _ ⟨_, .convert _ _ _, _, _, _, _⟩ _ _ _; refine e_mark ?_)) | (show wpC _ _ _ _ _ _; first | refine wpC_seq ?_ | refine wpC_region ?_ | refine c_true ?_ | refine c_false ?_ | (refine c_b (fun _ => ?_) (fun _ => ?_) <;> (first | (exfalso; omega) | contradiction | skip)) | refine wpC_block ?_ | refine wpC_ret ?_ | refine wpC_skip ?_ | refine wpC_exit ?_ | refine wpC_label ?_) | (show Then _ _ _ _ _ _ _; first | refine then_normal ?_ | refine then_ret ?_ | refine then_exit ?_) | (show InBlock _ _ _ _ _ _; first | refine inBlock_normal ?_ | refine inBlock_ret ?_ | refine inBlock_same ?_ | refine b_other ?_) | (show LoopPost _ _ _ _ _ _; first | refine loop_ret ?_ | refine loop_exit ?_) | (show RetP _ _ _ _ _ _ _ _; first | refine r_1 ?_))
      · exact lp_end (t + 1) (by omega) (by omega) (h3 := by refine ⟨?_, rfl, trivial⟩; show Value.int .u32 (((c / 2 ^^^ 3988292384 : Nat)) : Int) = Value.int .u32 ((crcN (t + 1) (s ^^^ b.toNat) : Nat) : Int); rw [hsu]; unfold crc1; rw [if_pos (by omega)])
      · exact lp_end (t + 1) (by omega) (by omega) (h3 := by refine ⟨?_, rfl, trivial⟩; show Value.int .u32 (((c / 2 : Nat)) : Int) = Value.int .u32 ((crcN (t + 1) (s ^^^ b.toNat) : Nat) : Int); rw [hsu]; unfold crc1; rw [if_neg (by omega)])
    · obtain rfl : t = 8 := by omega
      repeat' (first | (show wpO _ _ _ _ _ _ _; first | refine wpO_nil ?_ | (show wpO _ _ _ (⟨_, .binOp _ _ _ _ _, _, _, _, _⟩ :: _) _ _ _; first | refine s_tt ?_ | refine s_ff ?_ | refine s_rdp ?_ | refine s_xor8 (fun _ => ?_) | (refine s_cmp (fun _ => ?_) (fun _ => ?_) <;> (first | (exfalso; omega) | contradiction | skip)) | (refine s_cb (fun _ => ?_) (fun _ => ?_) <;> (first | (exfalso; omega) | contradiction | skip))) | (show wpO _ _ _ (⟨_, .indexAddr _ _ _, _, _, _, _⟩ :: _) _ _ _; first | refine s_rdp ?_ | refine s_idx (fun _ _ _ _ _ _ _ => ?_)) | (show wpO _ _ _ (⟨_, .convert _ _ _, _, _, _, _⟩ :: _) _ _ _; first | (refine s_exs ?_; refine e_mark ?_) | refine s_rdm ?_ (hr := by first | (apply rd_bytesStrO; (conv => lhs; whnf); assumption; exact Sbs.sub (self := by infer_instance); exact rfl; exact rfl; exact rfl; done) | (apply rd_bytesStr; (conv => lhs; whnf); assumption; exact Sbs.sub (self := by infer_instance); exact rfl; exact rfl; exact rfl; done))) | refine s_rdp ?_ | refine s_rdm ?_ | refine s_exq ?_ | refine s_exm ?_) | (show Ex _ _ _ _ _; first | (show Ex _ ⟨_, .convert _ _ _, _, _, _, _⟩ _ _ _; refine e_mark ?_)) | (show wpC _ _ _ _ _ _; first | refine wpC_seq ?_ | refine wpC_region ?_ | refine c_true ?_ | refine c_false ?_ | (refine c_b (fun _ => ?_) (fun _ => ?_) <;> (first | (exfalso; omega) | contradiction | skip)) | refine wpC_block ?_ | refine wpC_ret ?_ | refine wpC_skip ?_ | refine wpC_exit ?_ | refine wpC_label ?_) | (show Then _ _ _ _ _ _ _; first | refine then_normal ?_ | refine then_ret ?_ | refine then_exit ?_) | (show InBlock _ _ _ _ _ _; first | refine inBlock_normal ?_ | refine inBlock_ret ?_ | refine inBlock_same ?_ | refine b_other ?_) | (show LoopPost _ _ _ _ _ _; first | refine loop_ret ?_ | refine loop_exit ?_) | (show RetP _ _ _ _ _ _ _ _; first | refine r_1 ?_))
      exact lp_end (j + 1) (by omega) hlt (h3 := by refine ⟨?_, rfl, trivial⟩; show Value.int .u32 ((crcN 8 (s ^^^ b.toNat) : Nat) : Int) = Value.int .u32 (((bs.take (j + 1)).foldl crcB 4294967295 : Nat) : Int); rw [hft])
end Go.Vl

/-
  What integer bytes begin with: the program's parse.
-/
namespace Go.Vl
open Go.Proofs
/-- the integer that bytes begin with: (value, how many bytes, error) -/
def unzz (u : Nat) : Int := if u % 2 = 1 then -((u / 2 : Nat) : Int) - 1 else ((u / 2 : Nat) : Int)
def parseP : List UInt8 → Nat → Nat → Int × Nat × Int
  | [], _, _ => (0, 0, 10)
  | c :: bs, i, u =>
    if (i = 9 ∧ 1 < c.toNat) ∨ (c.toNat = 0 ∧ 0 < i) then (0, 0, 11)
    else if c.toNat < 128 then (unzz (u + c.toNat % 128 * 2 ^ (7 * i)), i + 1, 0)
    else parseP bs (i + 1) (u + c.toNat % 128 * 2 ^ (7 * i))
set_option maxHeartbeats 4000000 in
set_option maxRecDepth 100000 in
theorem and127 : ∀ c : Fin 256, c.val &&& 127 = c.val % 128 := by decide
section
variable {P : Program} {e : World} {ρ : Fr} {H : Hp} {d : Option Nat} {ty : TypeId} {pos : String} {af : Array Edge} {g : Option (Nat × Bool)} {t yt s : TypeId} {x y : Operand} {a b : Nat}
set_option maxHeartbeats 4000000 in
set_option maxRecDepth 100000 in
theorem rd_and127 (hx : ev ρ x = .int .u8 (a : Int)) (hy : ev ρ y = .int .u8 127) (ha : a < 256) : Rd P e ρ H ⟨d, .binOp .and t x y yt, ty, pos, af, g⟩ (.int .u8 ((a % 128 : Nat) : Int)) := by
  rw [← show a &&& 127 = a % 128 from and127 ⟨a, ha⟩]
  exact rd_and (b := 127) hx hy rfl ha (by decide)
set_option maxHeartbeats 4000000 in
set_option maxRecDepth 100000 in
theorem rd_and1_64 (hx : ev ρ x = .int .u64 (a : Int)) (hy : ev ρ y = .int .u64 1) (ha : a < 18446744073709551616) : Rd P e ρ H ⟨d, .binOp .and t x y yt, ty, pos, af, g⟩ (.int .u64 ((a % 2 : Nat) : Int)) := by
  rw [← Nat.and_one_is_mod]
  exact rd_and (b := 1) hx hy rfl ha (by decide)
set_option maxHeartbeats 4000000 in
set_option maxRecDepth 100000 in
theorem rd_mul7 (hx : ev ρ x = .int .i64 7) (hy : ev ρ y = .int .i64 (a : Int)) (h : a ≤ 1000) : Rd P e ρ H ⟨d, .binOp .mul t x y yt, ty, pos, af, g⟩ (.int .i64 ((7 * a : Nat) : Int)) := by
  have h1 : IntKind.i64.wrap (7 * (a : Int)) = ((7 * a : Nat) : Int) := by rw [wrap64_id (by omega) (by omega)]; omega
  have := rd_mulw (P := P) (e := e) (H := H) (d := d) (ty := ty) (pos := pos) (af := af) (g := g) (t := t) (yt := yt) hx hy
  rwa [h1] at this
set_option maxHeartbeats 4000000 in
set_option maxRecDepth 100000 in
theorem rd_shlOr {q : IntKind} {i : Nat} (hx : ev ρ x = .int .u64 (a : Int)) (hy : ev ρ y = .int q ((7 * i : Nat) : Int)) (ha : a < 128) (hi : i ≤ 9) (h9 : i = 9 → a ≤ 1) : Rd P e ρ H ⟨d, .binOp .shl t x y yt, ty, pos, af, g⟩ (.int .u64 ((a * 2 ^ (7 * i) : Nat) : Int)) := by
  have h1 : a * 2 ^ (7 * i) < 18446744073709551616 := by
    rcases (by omega : i = 0 ∨ i = 1 ∨ i = 2 ∨ i = 3 ∨ i = 4 ∨ i = 5 ∨ i = 6 ∨ i = 7 ∨ i = 8 ∨ i = 9) with rfl | rfl | rfl | rfl | rfl | rfl | rfl | rfl | rfl | rfl <;> simp <;> (try have := h9 rfl) <;> omega
  have := rd_shl (P := P) (e := e) (H := H) (d := d) (ty := ty) (pos := pos) (af := af) (g := g) (t := t) (yt := yt) (k := .u64) (b := 7 * i) hx hy rfl (by show 7 * i ≤ 64; omega)
  rwa [show (2 : Nat) ^ IntKind.u64.bits = 18446744073709551616 from rfl, Nat.mod_eq_of_lt h1] at this
set_option maxHeartbeats 4000000 in
set_option maxRecDepth 100000 in
theorem rd_orSum {i : Nat} (hx : ev ρ x = .int .u64 (a : Int)) (hy : ev ρ y = .int .u64 ((b * 2 ^ (7 * i) : Nat) : Int)) (ha : a < 2 ^ (7 * i)) (ha64 : a < 18446744073709551616) (hb : b * 2 ^ (7 * i) < 18446744073709551616) : Rd P e ρ H ⟨d, .binOp .or t x y yt, ty, pos, af, g⟩ (.int .u64 ((a + b * 2 ^ (7 * i) : Nat) : Int)) := by
  have h1 : a ||| b * 2 ^ (7 * i) = a + b * 2 ^ (7 * i) := by
    rw [Nat.or_comm, Nat.mul_comm b, ← Nat.two_pow_add_eq_or_of_lt ha, Nat.add_comm]
  have := rd_or (P := P) (e := e) (H := H) (d := d) (ty := ty) (pos := pos) (af := af) (g := g) (t := t) (yt := yt) (k := .u64) hx hy rfl ha64 hb
  rwa [h1] at this
end
set_option maxHeartbeats 4000000 in
set_option maxRecDepth 100000 in
theorem stepU {u i c : Nat} (hu : u < 2 ^ (7 * i)) (hc : c < 128) : u + c * 2 ^ (7 * i) < 2 ^ (7 * (i + 1)) := by
  have h1 : 2 ^ (7 * (i + 1)) = 128 * 2 ^ (7 * i) := by rw [Nat.mul_add, Nat.pow_add]; omega
  have h2 : c * 2 ^ (7 * i) ≤ 127 * 2 ^ (7 * i) := Nat.mul_le_mul_right _ (by omega)
  omega
set_option maxHeartbeats 4000000 in
set_option maxRecDepth 100000 in
theorem step64 {u i c : Nat} (hi : i ≤ 9) (hu : u < 2 ^ (7 * i)) (hc : c < 128) (h9 : i = 9 → c ≤ 1) : u < 18446744073709551616 ∧ c * 2 ^ (7 * i) < 18446744073709551616 ∧ u + c * 2 ^ (7 * i) < 18446744073709551616 := by
  rcases (by omega : i = 0 ∨ i = 1 ∨ i = 2 ∨ i = 3 ∨ i = 4 ∨ i = 5 ∨ i = 6 ∨ i = 7 ∨ i = 8 ∨ i = 9) with rfl | rfl | rfl | rfl | rfl | rfl | rfl | rfl | rfl | rfl <;> simp at hu ⊢ <;> (try have := h9 rfl) <;> omega
set_option maxHeartbeats 4000000 in
set_option maxRecDepth 100000 in
theorem parse_nil (i u : Nat) : parseP [] i u = (0, 0, 10) := rfl
set_option maxHeartbeats 4000000 in
set_option maxRecDepth 100000 in
theorem parse_form {c : UInt8} {bs : List UInt8} {i u : Nat} (h : (i = 9 ∧ 1 < c.toNat) ∨ (c.toNat = 0 ∧ 0 < i)) : parseP (c :: bs) i u = (0, 0, 11) := by rw [parseP, if_pos h]
set_option maxHeartbeats 4000000 in
set_option maxRecDepth 100000 in
theorem parse_end {c : UInt8} {bs : List UInt8} {i u : Nat} (h : ¬ ((i = 9 ∧ 1 < c.toNat) ∨ (c.toNat = 0 ∧ 0 < i))) (h1 : c.toNat < 128) : parseP (c :: bs) i u = (unzz (u + c.toNat % 128 * 2 ^ (7 * i)), i + 1, 0) := by rw [parseP, if_neg h, if_pos h1]
set_option maxHeartbeats 4000000 in
set_option maxRecDepth 100000 in
theorem parse_more {c : UInt8} {bs : List UInt8} {i u : Nat} (h : ¬ ((i = 9 ∧ 1 < c.toNat) ∨ (c.toNat = 0 ∧ 0 < i))) (h1 : ¬ c.toNat < 128) : parseP (c :: bs) i u = parseP bs (i + 1) (u + c.toNat % 128 * 2 ^ (7 * i)) := by rw [parseP, if_neg h, if_neg h1]
set_option maxHeartbeats 4000000 in
set_option maxRecDepth 100000 in
theorem drop_get {α : Type} {l : List α} {i : Nat} {x : α} (h : l[i]? = some x) : l.drop i = x :: l.drop (i + 1) := by
  obtain ⟨h1, h2⟩ := List.getElem?_eq_some_iff.1 h
  rw [List.drop_eq_getElem_cons h1, h2]
section
variable {P : Program} {e : World} {ρ : Fr} {H : Hp} {d : Option Nat} {ty : TypeId} {pos : String} {af : Array Edge} {g : Option (Nat × Bool)} {t yt s : TypeId} {x y : Operand} {a b : Nat}
set_option maxHeartbeats 4000000 in
set_option maxRecDepth 100000 in
theorem wrap64S {a : Nat} (ha : a < 18446744073709551616) : IntKind.i64.wrap (a : Int) = if a < 9223372036854775808 then (a : Int) else (a : Int) - 18446744073709551616 := by
  unfold IntKind.wrap
  simp [IntKind.signed, IntKind.bits]
  split <;> omega
set_option maxHeartbeats 4000000 in
set_option maxRecDepth 100000 in
theorem rd_u64i64 (hx : ev ρ x = .int .u64 (a : Int)) (ha : a < 18446744073709551616) (hs : P.underlying s = some (.int .u64)) (ht : P.underlying t = some (.int .i64)) : Rd P e ρ H ⟨d, .convert s t x, ty, pos, af, g⟩ (.int .i64 (if a < 9223372036854775808 then (a : Int) else (a : Int) - 18446744073709551616)) := rd_convI hx hs ht (wrap64S ha)
end
attribute [local irreducible] wpC wpO wpD Ex Rd callsK RetP Drop valK
structure PaS where
  i : Nat
  u : Nat
set_option maxHeartbeats 4000000 in
set_option maxRecDepth 100000 in
theorem parse_spec (e : World) {bs : List UInt8} {v : Value} {Bs F : Hp} {K : Value → Hp → Prop} (hin : InSl Bs 1 (bs.map byC) v)
    (hK : K (.tuple #[.int .i64 (parseP bs 0 0).1, .int .i64 ((parseP bs 0 0).2.1 : Int), .int .i64 (parseP bs 0 0).2.2]) (Bs ++ F)) :
    callsK Try.prog e 113 #[v] (Bs ++ F) K := by
  have hin0 := hin
  obtain ⟨av, cv, rfl, _⟩ := hin0
  have hml : (bs.map byC).length = bs.length := List.length_map _
  rw [hml] at hin ⊢
  refine calls_body (N := 58) (args := [.slice av bs.length cv]) Try.func113 rfl rfl rfl (by simp) ?_
  repeat' ((fail_if_success (show wpC _ (.loop _) _ _ _ _)); first | (show wpO _ _ _ _ _ _ _; first | refine wpO_nil ?_ | (show wpO _ _ _ (⟨_, .binOp _ _ _ _ _, _, _, _, _⟩ :: _) _ _ _; first | refine s_tt ?_ | refine s_ff ?_ | refine s_rdp ?_ | (refine s_cmp (fun _ => ?_) (fun _ => ?_) <;> (first | (exfalso; omega) | contradiction | skip)) | (refine s_cb (fun _ => ?_) (fun _ => ?_) <;> (first | (exfalso; omega) | contradiction | skip)) | refine s_sks ?_ | (refine s_g (fun _ => ?_) (fun _ => ?_) <;> (first | (exfalso; omega) | contradiction | skip))) | (show wpO _ _ _ (⟨_, .indexAddr _ _ _, _, _, _, _⟩ :: _) _ _ _; first | refine s_rdp ?_ | refine s_idx (fun _ _ _ _ _ _ _ => ?_) | refine s_sks ?_ | (refine s_g (fun _ => ?_) (fun _ => ?_) <;> (first | (exfalso; omega) | contradiction | skip))) | (show wpO _ _ _ (⟨_, .pick _ _ _, _, _, _, _⟩ :: _) _ _ _; first | refine s_rdp ?_ | (refine s_p (fun _ => ?_) (fun _ => ?_) <;> (first | (exfalso; omega) | contradiction | skip)) | refine s_sks ?_ | (refine s_g (fun _ => ?_) (fun _ => ?_) <;> (first | (exfalso; omega) | contradiction | skip))) | (show wpO _ _ _ (⟨_, .convert _ _ _, _, _, _, _⟩ :: _) _ _ _; first | (refine s_exs ?_; refine e_mark ?_) | refine s_rdm ?_ (hr := by first | (apply rd_bytesStrO; (conv => lhs; whnf); assumption; exact Sbs.sub (self := by infer_instance); exact rfl; exact rfl; exact rfl; done) | (apply rd_bytesStr; (conv => lhs; whnf); assumption; exact Sbs.sub (self := by infer_instance); exact rfl; exact rfl; exact rfl; done)) | refine s_sks ?_ | (refine s_g (fun _ => ?_) (fun _ => ?_) <;> (first | (exfalso; omega) | contradiction | skip))) | refine s_rdp ?_ | refine s_rdm ?_ | refine s_exq ?_ | refine s_exm ?_ | refine s_sks ?_ | refine s_skn ?_ | (refine s_g (fun _ => ?_) (fun _ => ?_) <;> (first | (exfalso; omega) | contradiction | skip))) | (show Ex _ _ _ _ _; first | (show Ex _ ⟨_, .convert _ _ _, _, _, _, _⟩ _ _ _; refine e_mark ?_)) | (show wpC _ _ _ _ _ _; first | refine wpC_seq ?_ | refine wpC_region ?_ | refine c_true ?_ | refine c_false ?_ | (refine c_b (fun _ => ?_) (fun _ => ?_) <;> (first | (exfalso; omega) | contradiction | skip)) | refine wpC_block ?_ | refine wpC_ret ?_ | refine wpC_skip ?_ | refine wpC_exit ?_ | refine wpC_label ?_) | (show Then _ _ _ _ _ _ _; first | refine then_normal ?_ | refine then_ret ?_ | refine then_exit ?_) | (show InBlock _ _ _ _ _ _; first | refine inBlock_normal ?_ | refine inBlock_ret ?_ | refine inBlock_same ?_ | refine b_other ?_) | (show LoopPost _ _ _ _ _ _; first | refine loop_ret ?_ | refine loop_exit ?_) | (show RetP _ _ _ _ _ _ _ _; first | refine r_3 ?_))
  refine wpC_loopA (κ := PaS) [2, 3, 4, 5, 6, 7, 8, 9, 10, 11, 12, 13, 14, 15, 16, 17, 18, 19, 20, 21, 22, 23, 24, 25, 26, 27, 28, 29, 30, 31, 32, 33, 34, 35, 36, 37, 38, 39, 40, 41, 42, 43, 44, 45, 46, 47, 48, 49, 50, 51, 52, 53, 54, 55, 56, 57] (fun s => [(5, .int .u64 (s.u : Int)), (8, .int .i64 (s.i : Int))]) (fun _ => Bs ++ F) (fun s => s.i ≤ 9 ∧ s.u < 2 ^ (7 * s.i) ∧ parseP (bs.drop s.i) s.i s.u = parseP bs 0 0) (fun s => 10 - s.i) ⟨0, 0⟩ ⟨by decide, by decide, rfl⟩ ⟨rfl, rfl, trivial⟩ q_drp ?_
  rintro ⟨i, u⟩ ρx ⟨hi, hu, hp⟩
  simp only at hi hu hp ⊢
  cases hr : bs[i]? with
  | none =>
    have hge : bs.length ≤ i := List.getElem?_eq_none_iff.1 hr
    rw [List.drop_of_length_le hge, parse_nil] at hp
    rw [← hp] at hK
    repeat' (first | (show wpO _ _ _ _ _ _ _; first | refine wpO_nil ?_ | (show wpO _ _ _ (⟨_, .binOp _ _ _ _ _, _, _, _, _⟩ :: _) _ _ _; first | refine s_tt ?_ | refine s_ff ?_ | refine s_rdp ?_ | (refine s_cmp (fun _ => ?_) (fun _ => ?_) <;> (first | (exfalso; omega) | contradiction | skip)) | (refine s_cb (fun _ => ?_) (fun _ => ?_) <;> (first | (exfalso; omega) | contradiction | skip)) | refine s_sks ?_ | (refine s_g (fun _ => ?_) (fun _ => ?_) <;> (first | (exfalso; omega) | contradiction | skip))) | (show wpO _ _ _ (⟨_, .indexAddr _ _ _, _, _, _, _⟩ :: _) _ _ _; first | refine s_rdp ?_ | refine s_idx (fun _ _ _ _ _ _ _ => ?_) | refine s_sks ?_ | (refine s_g (fun _ => ?_) (fun _ => ?_) <;> (first | (exfalso; omega) | contradiction | skip))) | (show wpO _ _ _ (⟨_, .pick _ _ _, _, _, _, _⟩ :: _) _ _ _; first | refine s_rdp ?_ | (refine s_p (fun _ => ?_) (fun _ => ?_) <;> (first | (exfalso; omega) | contradiction | skip)) | refine s_sks ?_ | (refine s_g (fun _ => ?_) (fun _ => ?_) <;> (first | (exfalso; omega) | contradiction | skip))) | (show wpO _ _ _ (⟨_, .convert _ _ _, _, _, _, _⟩ :: _) _ _ _; first | (refine s_exs ?_; refine e_mark ?_) | refine s_rdm ?_ (hr := by first | (apply rd_bytesStrO; (conv => lhs; whnf); assumption; exact Sbs.sub (self := by infer_instance); exact rfl; exact rfl; exact rfl; done) | (apply rd_bytesStr; (conv => lhs; whnf); assumption; exact Sbs.sub (self := by infer_instance); exact rfl; exact rfl; exact rfl; done)) | refine s_sks ?_ | (refine s_g (fun _ => ?_) (fun _ => ?_) <;> (first | (exfalso; omega) | contradiction | skip))) | refine s_rdp ?_ | refine s_rdm ?_ | refine s_exq ?_ | refine s_exm ?_ | refine s_sks ?_ | refine s_skn ?_ | (refine s_g (fun _ => ?_) (fun _ => ?_) <;> (first | (exfalso; omega) | contradiction | skip))) | (show Ex _ _ _ _ _; first | (show Ex _ ⟨_, .convert _ _ _, _, _, _, _⟩ _ _ _; refine e_mark ?_)) | (show wpC _ _ _ _ _ _; first | refine wpC_seq ?_ | refine wpC_region ?_ | refine c_true ?_ | refine c_false ?_ | (refine c_b (fun _ => ?_) (fun _ => ?_) <;> (first | (exfalso; omega) | contradiction | skip)) | refine wpC_block ?_ | refine wpC_ret ?_ | refine wpC_skip ?_ | refine wpC_exit ?_ | refine wpC_label ?_) | (show Then _ _ _ _ _ _ _; first | refine then_normal ?_ | refine then_ret ?_ | refine then_exit ?_) | (show InBlock _ _ _ _ _ _; first | refine inBlock_normal ?_ | refine inBlock_ret ?_ | refine inBlock_same ?_ | refine b_other ?_) | (show LoopPost _ _ _ _ _ _; first | refine loop_ret ?_ | refine loop_exit ?_) | (show RetP _ _ _ _ _ _ _ _; first | refine r_3 ?_))
    all_goals first | exact q_drop hK | (exfalso; omega) | trace_state
  | some c =>
    have hlt := (List.getElem?_eq_some_iff.1 hr).1
    have hc8 : c.toNat < 256 := c.toNat_lt
    rw [drop_get hr] at hp
    by_cases hf : (i = 9 ∧ 1 < c.toNat) ∨ (c.toNat = 0 ∧ 0 < i)
    · rw [parse_form hf] at hp
      rw [← hp] at hK
      repeat' (first | (show wpO _ _ _ _ _ _ _; first | refine wpO_nil ?_ | (show wpO _ _ _ (⟨_, .binOp _ _ _ _ _, _, _, _, _⟩ :: _) _ _ _; first | refine s_tt ?_ | refine s_ff ?_ | refine s_rdp ?_ | (refine s_cmp (fun _ => ?_) (fun _ => ?_) <;> (first | (exfalso; omega) | contradiction | skip)) | (refine s_cb (fun _ => ?_) (fun _ => ?_) <;> (first | (exfalso; omega) | contradiction | skip)) | refine s_sks ?_ | (refine s_g (fun _ => ?_) (fun _ => ?_) <;> (first | (exfalso; omega) | contradiction | skip))) | (show wpO _ _ _ (⟨_, .indexAddr _ _ _, _, _, _, _⟩ :: _) _ _ _; first | refine s_rdp ?_ | refine s_idx (fun _ _ _ _ _ _ _ => ?_) | refine s_sks ?_ | (refine s_g (fun _ => ?_) (fun _ => ?_) <;> (first | (exfalso; omega) | contradiction | skip))) | (show wpO _ _ _ (⟨_, .pick _ _ _, _, _, _, _⟩ :: _) _ _ _; first | refine s_rdp ?_ | (refine s_p (fun _ => ?_) (fun _ => ?_) <;> (first | (exfalso; omega) | contradiction | skip)) | refine s_sks ?_ | (refine s_g (fun _ => ?_) (fun _ => ?_) <;> (first | (exfalso; omega) | contradiction | skip))) | (show wpO _ _ _ (⟨_, .convert _ _ _, _, _, _, _⟩ :: _) _ _ _; first | (refine s_exs ?_; refine e_mark ?_) | refine s_rdm ?_ (hr := by first | (apply rd_bytesStrO; (conv => lhs; whnf); assumption; exact Sbs.sub (self := by infer_instance); exact rfl; exact rfl; exact rfl; done) | (apply rd_bytesStr; (conv => lhs; whnf); assumption; exact Sbs.sub (self := by infer_instance); exact rfl; exact rfl; exact rfl; done)) | refine s_sks ?_ | (refine s_g (fun _ => ?_) (fun _ => ?_) <;> (first | (exfalso; omega) | contradiction | skip))) | refine s_rdp ?_ | refine s_rdm ?_ | refine s_exq ?_ | refine s_exm ?_ | refine s_sks ?_ | refine s_skn ?_ | (refine s_g (fun _ => ?_) (fun _ => ?_) <;> (first | (exfalso; omega) | contradiction | skip))) | (show Ex _ _ _ _ _; first | (show Ex _ ⟨_, .convert _ _ _, _, _, _, _⟩ _ _ _; refine e_mark ?_)) | (show wpC _ _ _ _ _ _; first | refine wpC_seq ?_ | refine wpC_region ?_ | refine c_true ?_ | refine c_false ?_ | (refine c_b (fun _ => ?_) (fun _ => ?_) <;> (first | (exfalso; omega) | contradiction | skip)) | refine wpC_block ?_ | refine wpC_ret ?_ | refine wpC_skip ?_ | refine wpC_exit ?_ | refine wpC_label ?_) | (show Then _ _ _ _ _ _ _; first | refine then_normal ?_ | refine then_ret ?_ | refine then_exit ?_) | (show InBlock _ _ _ _ _ _; first | refine inBlock_normal ?_ | refine inBlock_ret ?_ | refine inBlock_same ?_ | refine b_other ?_) | (show LoopPost _ _ _ _ _ _; first | refine loop_ret ?_ | refine loop_exit ?_) | (show RetP _ _ _ _ _ _ _ _; first | refine r_3 ?_))
      all_goals first | exact q_drop hK | (exfalso; omega) | trace_state
    · have h64 := step64 (c := c.toNat % 128) hi hu (by omega) (by omega)
      have h65 := h64.1
      have h66 := h64.2.1
      have h67 := h64.2.2
      by_cases h1 : c.toNat < 128
      · rw [parse_end hf h1] at hp
        rw [← hp] at hK
        repeat' ((fail_if_success (show wpC _ (.seq (.region 12 _ _) _) _ _ _ _)); first | (refine s_rdp ?_ (hr := by (apply rd_and127; exact rfl; exact rfl; omega; done))) | refine s_rdm ?_ (hr := by (apply rd_u8u64; exact rfl; omega; exact rfl; exact rfl; done)) | (refine s_rdp ?_ (hr := by (apply rd_mul7; exact rfl; exact rfl; omega; done))) | (refine s_rdp ?_ (hr := by (apply rd_shlOr; exact rfl; exact rfl; omega; omega; omega; done))) | (refine s_rdp ?_ (hr := by (apply rd_orSum; exact rfl; exact rfl; exact hu; exact h65; exact h66; done))) | (show wpO _ _ _ _ _ _ _; first | refine wpO_nil ?_ | (show wpO _ _ _ (⟨_, .binOp _ _ _ _ _, _, _, _, _⟩ :: _) _ _ _; first | refine s_tt ?_ | refine s_ff ?_ | refine s_rdp ?_ | (refine s_cmp (fun _ => ?_) (fun _ => ?_) <;> (first | (exfalso; omega) | contradiction | skip)) | (refine s_cb (fun _ => ?_) (fun _ => ?_) <;> (first | (exfalso; omega) | contradiction | skip)) | refine s_sks ?_ | (refine s_g (fun _ => ?_) (fun _ => ?_) <;> (first | (exfalso; omega) | contradiction | skip))) | (show wpO _ _ _ (⟨_, .indexAddr _ _ _, _, _, _, _⟩ :: _) _ _ _; first | refine s_rdp ?_ | refine s_idx (fun _ _ _ _ _ _ _ => ?_) | refine s_sks ?_ | (refine s_g (fun _ => ?_) (fun _ => ?_) <;> (first | (exfalso; omega) | contradiction | skip))) | (show wpO _ _ _ (⟨_, .pick _ _ _, _, _, _, _⟩ :: _) _ _ _; first | refine s_rdp ?_ | (refine s_p (fun _ => ?_) (fun _ => ?_) <;> (first | (exfalso; omega) | contradiction | skip)) | refine s_sks ?_ | (refine s_g (fun _ => ?_) (fun _ => ?_) <;> (first | (exfalso; omega) | contradiction | skip))) | (show wpO _ _ _ (⟨_, .convert _ _ _, _, _, _, _⟩ :: _) _ _ _; first | (refine s_exs ?_; refine e_mark ?_) | refine s_rdm ?_ (hr := by first | (apply rd_bytesStrO; (conv => lhs; whnf); assumption; exact Sbs.sub (self := by infer_instance); exact rfl; exact rfl; exact rfl; done) | (apply rd_bytesStr; (conv => lhs; whnf); assumption; exact Sbs.sub (self := by infer_instance); exact rfl; exact rfl; exact rfl; done)) | refine s_sks ?_ | (refine s_g (fun _ => ?_) (fun _ => ?_) <;> (first | (exfalso; omega) | contradiction | skip))) | refine s_rdp ?_ | refine s_rdm ?_ | refine s_exq ?_ | refine s_exm ?_ | refine s_sks ?_ | refine s_skn ?_ | (refine s_g (fun _ => ?_) (fun _ => ?_) <;> (first | (exfalso; omega) | contradiction | skip))) | (show Ex _ _ _ _ _; first | (show Ex _ ⟨_, .convert _ _ _, _, _, _, _⟩ _ _ _; refine e_mark ?_)) | (show wpC _ _ _ _ _ _; first | refine wpC_seq ?_ | refine wpC_region ?_ | refine c_true ?_ | refine c_false ?_ | (refine c_b (fun _ => ?_) (fun _ => ?_) <;> (first | (exfalso; omega) | contradiction | skip)) | refine wpC_block ?_ | refine wpC_ret ?_ | refine wpC_skip ?_ | refine wpC_exit ?_ | refine wpC_label ?_) | (show Then _ _ _ _ _ _ _; first | refine then_normal ?_ | refine then_ret ?_ | refine then_exit ?_) | (show InBlock _ _ _ _ _ _; first | refine inBlock_normal ?_ | refine inBlock_ret ?_ | refine inBlock_same ?_ | refine b_other ?_) | (show LoopPost _ _ _ _ _ _; first | refine loop_ret ?_ | refine loop_exit ?_) | (show RetP _ _ _ _ _ _ _ _; first | refine r_3 ?_))
        all_goals
          simp only at hK
          generalize u + c.toNat % 128 * 2 ^ (7 * i) = U at *
          have e0 : U % 2 = 1 → (if 18446744073709551615 - U / 2 ^ 1 < 9223372036854775808 then ((18446744073709551615 - U / 2 ^ 1 : Nat) : Int) else ((18446744073709551615 - U / 2 ^ 1 : Nat) : Int) - 18446744073709551616) = unzz U := fun h => by
            unfold unzz
            rw [if_pos h, if_neg (by omega)]
            omega
          have e1 : ¬ U % 2 = 1 → (if U / 2 ^ 1 < 9223372036854775808 then ((U / 2 ^ 1 : Nat) : Int) else ((U / 2 ^ 1 : Nat) : Int) - 18446744073709551616) = unzz U := fun h => by
            unfold unzz
            rw [if_neg h, if_pos (by omega), Nat.pow_one]
          repeat' (first | (refine s_rdp ?_ (hr := by (apply rd_and1_64; exact rfl; exact rfl; exact h67; done))) | (refine s_rdp ?_ (hr := by (apply (rd_shr64 1); exact rfl; exact rfl; decide; done))) | (refine s_rdp ?_ (hr := by (apply rd_not64; exact rfl; omega; done))) | refine s_rdm ?_ (hr := by (apply rd_u64i64; exact rfl; omega; exact rfl; exact rfl; done)) | (show wpO _ _ _ _ _ _ _; first | refine wpO_nil ?_ | (show wpO _ _ _ (⟨_, .binOp _ _ _ _ _, _, _, _, _⟩ :: _) _ _ _; first | refine s_tt ?_ | refine s_ff ?_ | refine s_rdp ?_ | (refine s_cmp (fun _ => ?_) (fun _ => ?_) <;> (first | (exfalso; omega) | contradiction | skip)) | (refine s_cb (fun _ => ?_) (fun _ => ?_) <;> (first | (exfalso; omega) | contradiction | skip)) | refine s_sks ?_ | (refine s_g (fun _ => ?_) (fun _ => ?_) <;> (first | (exfalso; omega) | contradiction | skip))) | (show wpO _ _ _ (⟨_, .indexAddr _ _ _, _, _, _, _⟩ :: _) _ _ _; first | refine s_rdp ?_ | refine s_idx (fun _ _ _ _ _ _ _ => ?_) | refine s_sks ?_ | (refine s_g (fun _ => ?_) (fun _ => ?_) <;> (first | (exfalso; omega) | contradiction | skip))) | (show wpO _ _ _ (⟨_, .pick _ _ _, _, _, _, _⟩ :: _) _ _ _; first | refine s_rdp ?_ | (refine s_p (fun _ => ?_) (fun _ => ?_) <;> (first | (exfalso; omega) | contradiction | skip)) | refine s_sks ?_ | (refine s_g (fun _ => ?_) (fun _ => ?_) <;> (first | (exfalso; omega) | contradiction | skip))) | (show wpO _ _ _ (⟨_, .convert _ _ _, _, _, _, _⟩ :: _) _ _ _; first | (refine s_exs ?_; refine e_mark ?_) | refine s_rdm ?_ (hr := by first | (apply rd_bytesStrO; (conv => lhs; whnf); assumption; exact Sbs.sub (self := by infer_instance); exact rfl; exact rfl; exact rfl; done) | (apply rd_bytesStr; (conv => lhs; whnf); assumption; exact Sbs.sub (self := by infer_instance); exact rfl; exact rfl; exact rfl; done)) | refine s_sks ?_ | (refine s_g (fun _ => ?_) (fun _ => ?_) <;> (first | (exfalso; omega) | contradiction | skip))) | refine s_rdp ?_ | refine s_rdm ?_ | refine s_exq ?_ | refine s_exm ?_ | refine s_sks ?_ | refine s_skn ?_ | (refine s_g (fun _ => ?_) (fun _ => ?_) <;> (first | (exfalso; omega) | contradiction | skip))) | (show Ex _ _ _ _ _; first | (show Ex _ ⟨_, .convert _ _ _, _, _, _, _⟩ _ _ _; refine e_mark ?_)) | (show wpC _ _ _ _ _ _; first | refine wpC_seq ?_ | refine wpC_region ?_ | refine c_true ?_ | refine c_false ?_ | (refine c_b (fun _ => ?_) (fun _ => ?_) <;> (first | (exfalso; omega) | contradiction | skip)) | refine wpC_block ?_ | refine wpC_ret ?_ | refine wpC_skip ?_ | refine wpC_exit ?_ | refine wpC_label ?_) | (show Then _ _ _ _ _ _ _; first | refine then_normal ?_ | refine then_ret ?_ | refine then_exit ?_) | (show InBlock _ _ _ _ _ _; first | refine inBlock_normal ?_ | refine inBlock_ret ?_ | refine inBlock_same ?_ | refine b_other ?_) | (show LoopPost _ _ _ _ _ _; first | refine loop_ret ?_ | refine loop_exit ?_) | (show RetP _ _ _ _ _ _ _ _; first | refine r_3 ?_))
          · rw [← e0 (by omega)] at hK
            exact q_drop hK
          · rw [← e1 (by omega)] at hK
            exact q_drop hK
      · rw [parse_more hf h1] at hp
        have hst := stepU (c := c.toNat % 128) hu (by omega)
        repeat' (first | (refine s_rdp ?_ (hr := by (apply rd_and127; exact rfl; exact rfl; omega; done))) | refine s_rdm ?_ (hr := by (apply rd_u8u64; exact rfl; omega; exact rfl; exact rfl; done)) | (refine s_rdp ?_ (hr := by (apply rd_mul7; exact rfl; exact rfl; omega; done))) | (refine s_rdp ?_ (hr := by (apply rd_shlOr; exact rfl; exact rfl; omega; omega; omega; done))) | (refine s_rdp ?_ (hr := by (apply rd_orSum; exact rfl; exact rfl; exact hu; exact h65; exact h66; done))) | (show wpO _ _ _ _ _ _ _; first | refine wpO_nil ?_ | (show wpO _ _ _ (⟨_, .binOp _ _ _ _ _, _, _, _, _⟩ :: _) _ _ _; first | refine s_tt ?_ | refine s_ff ?_ | refine s_rdp ?_ | (refine s_cmp (fun _ => ?_) (fun _ => ?_) <;> (first | (exfalso; omega) | contradiction | skip)) | (refine s_cb (fun _ => ?_) (fun _ => ?_) <;> (first | (exfalso; omega) | contradiction | skip)) | refine s_sks ?_ | (refine s_g (fun _ => ?_) (fun _ => ?_) <;> (first | (exfalso; omega) | contradiction | skip))) | (show wpO _ _ _ (⟨_, .indexAddr _ _ _, _, _, _, _⟩ :: _) _ _ _; first | refine s_rdp ?_ | refine s_idx (fun _ _ _ _ _ _ _ => ?_) | refine s_sks ?_ | (refine s_g (fun _ => ?_) (fun _ => ?_) <;> (first | (exfalso; omega) | contradiction | skip))) | (show wpO _ _ _ (⟨_, .pick _ _ _, _, _, _, _⟩ :: _) _ _ _; first | refine s_rdp ?_ | (refine s_p (fun _ => ?_) (fun _ => ?_) <;> (first | (exfalso; omega) | contradiction | skip)) | refine s_sks ?_ | (refine s_g (fun _ => ?_) (fun _ => ?_) <;> (first | (exfalso; omega) | contradiction | skip))) | (show wpO _ _ _ (⟨_, .convert _ _ _, _, _, _, _⟩ :: _) _ _ _; first | (refine s_exs ?_; refine e_mark ?_) | refine s_rdm ?_ (hr := by first | (apply rd_bytesStrO; (conv => lhs; whnf); assumption; exact Sbs.sub (self := by infer_instance); exact rfl; exact rfl; exact rfl; done) | (apply rd_bytesStr; (conv => lhs; whnf); assumption; exact Sbs.sub (self := by infer_instance); exact rfl; exact rfl; exact rfl; done)) | refine s_sks ?_ | (refine s_g (fun _ => ?_) (fun _ => ?_) <;> (first | (exfalso; omega) | contradiction | skip))) | refine s_rdp ?_ | refine s_rdm ?_ | refine s_exq ?_ | refine s_exm ?_ | refine s_sks ?_ | refine s_skn ?_ | (refine s_g (fun _ => ?_) (fun _ => ?_) <;> (first | (exfalso; omega) | contradiction | skip))) | (show Ex _ _ _ _ _; first | (show Ex _ ⟨_, .convert _ _ _, _, _, _, _⟩ _ _ _; refine e_mark ?_)) | (show wpC _ _ _ _ _ _; first | refine wpC_seq ?_ | refine wpC_region ?_ | refine c_true ?_ | refine c_false ?_ | (refine c_b (fun _ => ?_) (fun _ => ?_) <;> (first | (exfalso; omega) | contradiction | skip)) | refine wpC_block ?_ | refine wpC_ret ?_ | refine wpC_skip ?_ | refine wpC_exit ?_ | refine wpC_label ?_) | (show Then _ _ _ _ _ _ _; first | refine then_normal ?_ | refine then_ret ?_ | refine then_exit ?_) | (show InBlock _ _ _ _ _ _; first | refine inBlock_normal ?_ | refine inBlock_ret ?_ | refine inBlock_same ?_ | refine b_other ?_) | (show LoopPost _ _ _ _ _ _; first | refine loop_ret ?_ | refine loop_exit ?_) | (show RetP _ _ _ _ _ _ _ _; first | refine r_3 ?_))
        exact lp_end ⟨i + 1, u + c.toNat % 128 * 2 ^ (7 * i)⟩ (by simp only; omega) ⟨by simp only; omega, hst, hp⟩
end Go.Vl

/-
  What integer bytes begin with: the document's words.
-/
namespace Go.Vl
open Go.Proofs
section
variable {P : Program} {e : World} {ρ : Fr} {H : Hp} {d : Option Nat} {ty : TypeId} {pos : String} {af : Array Edge} {g : Option (Nat × Bool)} {t yt s : TypeId} {x y : Operand} {a b : Nat}
set_option maxHeartbeats 4000000 in
set_option maxRecDepth 100000 in
theorem rd_u64i64s (hx : ev ρ x = .int .u64 (a : Int)) (ha : a < 9223372036854775808) (hs : P.underlying s = some (.int .u64)) (ht : P.underlying t = some (.int .i64)) : Rd P e ρ H ⟨d, .convert s t x, ty, pos, af, g⟩ (.int .i64 (a : Int)) :=
  rd_convI hx hs ht (by rw [wrap64S (by omega), if_pos ha])
end
attribute [local irreducible] wpC wpO wpD Ex Rd callsK RetP Drop valK
set_option maxHeartbeats 4000000 in
set_option maxRecDepth 100000 in
theorem rparse_spec (e : World) {bs : List UInt8} {v : Value} {Bs F : Hp} {K : Value → Hp → Prop} (hin : InSl Bs 1 (bs.map byC) v) (hl : bs.length ≤ 9223372036854775806)
    (hK : K (.tuple #[.int .i64 (parseP bs 0 0).1, .int .i64 ((parseP bs 0 0).2.1 : Int), .int .i64 (parseP bs 0 0).2.2]) (Bs ++ F)) :
    callsK Try.prog e 93 #[v] (Bs ++ F) K := by
  have hin0 := hin
  obtain ⟨av, cv, rfl, _⟩ := hin0
  have hml : (bs.map byC).length = bs.length := List.length_map _
  rw [hml] at hin ⊢
  refine calls_body (N := 55) (args := [.slice av bs.length cv]) Try.func93 rfl rfl rfl (by simp) ?_
  repeat' ((fail_if_success (show wpC _ (.loop _) _ _ _ _)); first | (show wpO _ _ _ _ _ _ _; first | refine wpO_nil ?_ | (show wpO _ _ _ (⟨_, .binOp _ _ _ _ _, _, _, _, _⟩ :: _) _ _ _; first | refine s_tt ?_ | refine s_ff ?_ | refine s_rdp ?_ | (refine s_cmp (fun _ => ?_) (fun _ => ?_) <;> (first | (exfalso; omega) | contradiction | skip)) | (refine s_cb (fun _ => ?_) (fun _ => ?_) <;> (first | (exfalso; omega) | contradiction | skip)) | refine s_sks ?_ | (refine s_g (fun _ => ?_) (fun _ => ?_) <;> (first | (exfalso; omega) | contradiction | skip))) | (show wpO _ _ _ (⟨_, .indexAddr _ _ _, _, _, _, _⟩ :: _) _ _ _; first | refine s_rdp ?_ | refine s_idx (fun _ _ _ _ _ _ _ => ?_) | refine s_sks ?_ | (refine s_g (fun _ => ?_) (fun _ => ?_) <;> (first | (exfalso; omega) | contradiction | skip))) | (show wpO _ _ _ (⟨_, .pick _ _ _, _, _, _, _⟩ :: _) _ _ _; first | refine s_rdp ?_ | (refine s_p (fun _ => ?_) (fun _ => ?_) <;> (first | (exfalso; omega) | contradiction | skip)) | refine s_sks ?_ | (refine s_g (fun _ => ?_) (fun _ => ?_) <;> (first | (exfalso; omega) | contradiction | skip))) | (show wpO _ _ _ (⟨_, .convert _ _ _, _, _, _, _⟩ :: _) _ _ _; first | (refine s_exs ?_; refine e_mark ?_) | refine s_rdm ?_ (hr := by first | (apply rd_bytesStrO; (conv => lhs; whnf); assumption; exact Sbs.sub (self := by infer_instance); exact rfl; exact rfl; exact rfl; done) | (apply rd_bytesStr; (conv => lhs; whnf); assumption; exact Sbs.sub (self := by infer_instance); exact rfl; exact rfl; exact rfl; done)) | refine s_sks ?_ | (refine s_g (fun _ => ?_) (fun _ => ?_) <;> (first | (exfalso; omega) | contradiction | skip))) | refine s_rdp ?_ | refine s_rdm ?_ | refine s_exq ?_ | refine s_exm ?_ | refine s_sks ?_ | refine s_skn ?_ | (refine s_g (fun _ => ?_) (fun _ => ?_) <;> (first | (exfalso; omega) | contradiction | skip))) | (show Ex _ _ _ _ _; first | (show Ex _ ⟨_, .convert _ _ _, _, _, _, _⟩ _ _ _; refine e_mark ?_)) | (show wpC _ _ _ _ _ _; first | refine wpC_seq ?_ | refine wpC_region ?_ | refine c_true ?_ | refine c_false ?_ | (refine c_b (fun _ => ?_) (fun _ => ?_) <;> (first | (exfalso; omega) | contradiction | skip)) | refine wpC_block ?_ | refine wpC_ret ?_ | refine wpC_skip ?_ | refine wpC_exit ?_ | refine wpC_label ?_) | (show Then _ _ _ _ _ _ _; first | refine then_normal ?_ | refine then_ret ?_ | refine then_exit ?_) | (show InBlock _ _ _ _ _ _; first | refine inBlock_normal ?_ | refine inBlock_ret ?_ | refine inBlock_same ?_ | refine b_other ?_) | (show LoopPost _ _ _ _ _ _; first | refine loop_ret ?_ | refine loop_exit ?_) | (show RetP _ _ _ _ _ _ _ _; first | refine r_3 ?_))
  refine wpC_loopA (κ := PaS) [2, 3, 4, 5, 6, 7, 8, 9, 10, 11, 12, 13, 14, 15, 16, 17, 18, 19, 20, 21, 22, 23, 24, 25, 26, 27, 28, 29, 30, 31, 32, 33, 34, 35, 36, 37, 38, 39, 40, 41, 42, 43, 44, 45, 46, 47, 48, 49, 50, 51, 52, 53, 54] (fun s => [(5, .int .u64 (s.u : Int)), (6, .int .i64 (s.i : Int))]) (fun _ => Bs ++ F) (fun s => s.i ≤ 9 ∧ s.u < 2 ^ (7 * s.i) ∧ parseP (bs.drop s.i) s.i s.u = parseP bs 0 0) (fun s => 10 - s.i) ⟨0, 0⟩ ⟨by decide, by decide, rfl⟩ ⟨rfl, rfl, trivial⟩ q_drp ?_
  rintro ⟨i, u⟩ ρx ⟨hi, hu, hp⟩
  simp only at hi hu hp ⊢
  cases hr : bs[i]? with
  | none =>
    have hge : bs.length ≤ i := List.getElem?_eq_none_iff.1 hr
    rw [List.drop_of_length_le hge, parse_nil] at hp
    rw [← hp] at hK
    repeat' (first | (show wpO _ _ _ _ _ _ _; first | refine wpO_nil ?_ | (show wpO _ _ _ (⟨_, .binOp _ _ _ _ _, _, _, _, _⟩ :: _) _ _ _; first | refine s_tt ?_ | refine s_ff ?_ | refine s_rdp ?_ | (refine s_cmp (fun _ => ?_) (fun _ => ?_) <;> (first | (exfalso; omega) | contradiction | skip)) | (refine s_cb (fun _ => ?_) (fun _ => ?_) <;> (first | (exfalso; omega) | contradiction | skip)) | refine s_sks ?_ | (refine s_g (fun _ => ?_) (fun _ => ?_) <;> (first | (exfalso; omega) | contradiction | skip))) | (show wpO _ _ _ (⟨_, .indexAddr _ _ _, _, _, _, _⟩ :: _) _ _ _; first | refine s_rdp ?_ | refine s_idx (fun _ _ _ _ _ _ _ => ?_) | refine s_sks ?_ | (refine s_g (fun _ => ?_) (fun _ => ?_) <;> (first | (exfalso; omega) | contradiction | skip))) | (show wpO _ _ _ (⟨_, .pick _ _ _, _, _, _, _⟩ :: _) _ _ _; first | refine s_rdp ?_ | (refine s_p (fun _ => ?_) (fun _ => ?_) <;> (first | (exfalso; omega) | contradiction | skip)) | refine s_sks ?_ | (refine s_g (fun _ => ?_) (fun _ => ?_) <;> (first | (exfalso; omega) | contradiction | skip))) | (show wpO _ _ _ (⟨_, .convert _ _ _, _, _, _, _⟩ :: _) _ _ _; first | (refine s_exs ?_; refine e_mark ?_) | refine s_rdm ?_ (hr := by first | (apply rd_bytesStrO; (conv => lhs; whnf); assumption; exact Sbs.sub (self := by infer_instance); exact rfl; exact rfl; exact rfl; done) | (apply rd_bytesStr; (conv => lhs; whnf); assumption; exact Sbs.sub (self := by infer_instance); exact rfl; exact rfl; exact rfl; done)) | refine s_sks ?_ | (refine s_g (fun _ => ?_) (fun _ => ?_) <;> (first | (exfalso; omega) | contradiction | skip))) | refine s_rdp ?_ | refine s_rdm ?_ | refine s_exq ?_ | refine s_exm ?_ | refine s_sks ?_ | refine s_skn ?_ | (refine s_g (fun _ => ?_) (fun _ => ?_) <;> (first | (exfalso; omega) | contradiction | skip))) | (show Ex _ _ _ _ _; first | (show Ex _ ⟨_, .convert _ _ _, _, _, _, _⟩ _ _ _; refine e_mark ?_)) | (show wpC _ _ _ _ _ _; first | refine wpC_seq ?_ | refine wpC_region ?_ | refine c_true ?_ | refine c_false ?_ | (refine c_b (fun _ => ?_) (fun _ => ?_) <;> (first | (exfalso; omega) | contradiction | skip)) | refine wpC_block ?_ | refine wpC_ret ?_ | refine wpC_skip ?_ | refine wpC_exit ?_ | refine wpC_label ?_) | (show Then _ _ _ _ _ _ _; first | refine then_normal ?_ | refine then_ret ?_ | refine then_exit ?_) | (show InBlock _ _ _ _ _ _; first | refine inBlock_normal ?_ | refine inBlock_ret ?_ | refine inBlock_same ?_ | refine b_other ?_) | (show LoopPost _ _ _ _ _ _; first | refine loop_ret ?_ | refine loop_exit ?_) | (show RetP _ _ _ _ _ _ _ _; first | refine r_3 ?_))
    all_goals first | exact q_drop hK | (exfalso; omega) | trace_state
  | some c =>
    have hlt := (List.getElem?_eq_some_iff.1 hr).1
    have hc8 : c.toNat < 256 := c.toNat_lt
    rw [drop_get hr] at hp
    by_cases hf : (i = 9 ∧ 1 < c.toNat) ∨ (c.toNat = 0 ∧ 0 < i)
    · rw [parse_form hf] at hp
      rw [← hp] at hK
      by_cases h9 : i = 9 ∧ 1 < c.toNat
      · repeat' (first | refine s_rdm ?_ (hr := by (apply rd_u8u64; exact rfl; omega; exact rfl; exact rfl; done)) | (show wpO _ _ _ _ _ _ _; first | refine wpO_nil ?_ | (show wpO _ _ _ (⟨_, .binOp _ _ _ _ _, _, _, _, _⟩ :: _) _ _ _; first | refine s_tt ?_ | refine s_ff ?_ | refine s_rdp ?_ | (refine s_cmp (fun _ => ?_) (fun _ => ?_) <;> (first | (exfalso; omega) | contradiction | skip)) | (refine s_cb (fun _ => ?_) (fun _ => ?_) <;> (first | (exfalso; omega) | contradiction | skip)) | refine s_sks ?_ | (refine s_g (fun _ => ?_) (fun _ => ?_) <;> (first | (exfalso; omega) | contradiction | skip))) | (show wpO _ _ _ (⟨_, .indexAddr _ _ _, _, _, _, _⟩ :: _) _ _ _; first | refine s_rdp ?_ | refine s_idx (fun _ _ _ _ _ _ _ => ?_) | refine s_sks ?_ | (refine s_g (fun _ => ?_) (fun _ => ?_) <;> (first | (exfalso; omega) | contradiction | skip))) | (show wpO _ _ _ (⟨_, .pick _ _ _, _, _, _, _⟩ :: _) _ _ _; first | refine s_rdp ?_ | (refine s_p (fun _ => ?_) (fun _ => ?_) <;> (first | (exfalso; omega) | contradiction | skip)) | refine s_sks ?_ | (refine s_g (fun _ => ?_) (fun _ => ?_) <;> (first | (exfalso; omega) | contradiction | skip))) | (show wpO _ _ _ (⟨_, .convert _ _ _, _, _, _, _⟩ :: _) _ _ _; first | (refine s_exs ?_; refine e_mark ?_) | refine s_rdm ?_ (hr := by first | (apply rd_bytesStrO; (conv => lhs; whnf); assumption; exact Sbs.sub (self := by infer_instance); exact rfl; exact rfl; exact rfl; done) | (apply rd_bytesStr; (conv => lhs; whnf); assumption; exact Sbs.sub (self := by infer_instance); exact rfl; exact rfl; exact rfl; done)) | refine s_sks ?_ | (refine s_g (fun _ => ?_) (fun _ => ?_) <;> (first | (exfalso; omega) | contradiction | skip))) | refine s_rdp ?_ | refine s_rdm ?_ | refine s_exq ?_ | refine s_exm ?_ | refine s_sks ?_ | refine s_skn ?_ | (refine s_g (fun _ => ?_) (fun _ => ?_) <;> (first | (exfalso; omega) | contradiction | skip))) | (show Ex _ _ _ _ _; first | (show Ex _ ⟨_, .convert _ _ _, _, _, _, _⟩ _ _ _; refine e_mark ?_)) | (show wpC _ _ _ _ _ _; first | refine wpC_seq ?_ | refine wpC_region ?_ | refine c_true ?_ | refine c_false ?_ | (refine c_b (fun _ => ?_) (fun _ => ?_) <;> (first | (exfalso; omega) | contradiction | skip)) | refine wpC_block ?_ | refine wpC_ret ?_ | refine wpC_skip ?_ | refine wpC_exit ?_ | refine wpC_label ?_) | (show Then _ _ _ _ _ _ _; first | refine then_normal ?_ | refine then_ret ?_ | refine then_exit ?_) | (show InBlock _ _ _ _ _ _; first | refine inBlock_normal ?_ | refine inBlock_ret ?_ | refine inBlock_same ?_ | refine b_other ?_) | (show LoopPost _ _ _ _ _ _; first | refine loop_ret ?_ | refine loop_exit ?_) | (show RetP _ _ _ _ _ _ _ _; first | refine r_3 ?_))
        all_goals first | exact q_drop hK | (exfalso; omega) | trace_state
      · have h67 := (step64 (c := c.toNat % 128) hi hu (by omega) (by omega)).2.2
        repeat' (first | refine s_rdm ?_ (hr := by (apply rd_u8u64; exact rfl; omega; exact rfl; exact rfl; done)) | (refine s_rdp ?_ (hr := by (apply (rd_remU (b := 128)); exact rfl; exact rfl; decide; done))) | (refine s_rdp ?_ (hr := by (apply rd_mul7; exact rfl; exact rfl; omega; done))) | (refine s_rdp ?_ (hr := by (apply rd_shlOr; exact rfl; exact rfl; omega; omega; omega; done))) | (refine s_rdp ?_ (hr := by (apply rd_add64U; exact rfl; exact rfl; exact h67; done))) | (show wpO _ _ _ _ _ _ _; first | refine wpO_nil ?_ | (show wpO _ _ _ (⟨_, .binOp _ _ _ _ _, _, _, _, _⟩ :: _) _ _ _; first | refine s_tt ?_ | refine s_ff ?_ | refine s_rdp ?_ | (refine s_cmp (fun _ => ?_) (fun _ => ?_) <;> (first | (exfalso; omega) | contradiction | skip)) | (refine s_cb (fun _ => ?_) (fun _ => ?_) <;> (first | (exfalso; omega) | contradiction | skip)) | refine s_sks ?_ | (refine s_g (fun _ => ?_) (fun _ => ?_) <;> (first | (exfalso; omega) | contradiction | skip))) | (show wpO _ _ _ (⟨_, .indexAddr _ _ _, _, _, _, _⟩ :: _) _ _ _; first | refine s_rdp ?_ | refine s_idx (fun _ _ _ _ _ _ _ => ?_) | refine s_sks ?_ | (refine s_g (fun _ => ?_) (fun _ => ?_) <;> (first | (exfalso; omega) | contradiction | skip))) | (show wpO _ _ _ (⟨_, .pick _ _ _, _, _, _, _⟩ :: _) _ _ _; first | refine s_rdp ?_ | (refine s_p (fun _ => ?_) (fun _ => ?_) <;> (first | (exfalso; omega) | contradiction | skip)) | refine s_sks ?_ | (refine s_g (fun _ => ?_) (fun _ => ?_) <;> (first | (exfalso; omega) | contradiction | skip))) | (show wpO _ _ _ (⟨_, .convert _ _ _, _, _, _, _⟩ :: _) _ _ _; first | (refine s_exs ?_; refine e_mark ?_) | refine s_rdm ?_ (hr := by first | (apply rd_bytesStrO; (conv => lhs; whnf); assumption; exact Sbs.sub (self := by infer_instance); exact rfl; exact rfl; exact rfl; done) | (apply rd_bytesStr; (conv => lhs; whnf); assumption; exact Sbs.sub (self := by infer_instance); exact rfl; exact rfl; exact rfl; done)) | refine s_sks ?_ | (refine s_g (fun _ => ?_) (fun _ => ?_) <;> (first | (exfalso; omega) | contradiction | skip))) | refine s_rdp ?_ | refine s_rdm ?_ | refine s_exq ?_ | refine s_exm ?_ | refine s_sks ?_ | refine s_skn ?_ | (refine s_g (fun _ => ?_) (fun _ => ?_) <;> (first | (exfalso; omega) | contradiction | skip))) | (show Ex _ _ _ _ _; first | (show Ex _ ⟨_, .convert _ _ _, _, _, _, _⟩ _ _ _; refine e_mark ?_)) | (show wpC _ _ _ _ _ _; first | refine wpC_seq ?_ | refine wpC_region ?_ | refine c_true ?_ | refine c_false ?_ | (refine c_b (fun _ => ?_) (fun _ => ?_) <;> (first | (exfalso; omega) | contradiction | skip)) | refine wpC_block ?_ | refine wpC_ret ?_ | refine wpC_skip ?_ | refine wpC_exit ?_ | refine wpC_label ?_) | (show Then _ _ _ _ _ _ _; first | refine then_normal ?_ | refine then_ret ?_ | refine then_exit ?_) | (show InBlock _ _ _ _ _ _; first | refine inBlock_normal ?_ | refine inBlock_ret ?_ | refine inBlock_same ?_ | refine b_other ?_) | (show LoopPost _ _ _ _ _ _; first | refine loop_ret ?_ | refine loop_exit ?_) | (show RetP _ _ _ _ _ _ _ _; first | refine r_3 ?_))
        all_goals first | exact q_drop hK | (exfalso; omega) | trace_state
    · have h67 := (step64 (c := c.toNat % 128) hi hu (by omega) (by omega)).2.2
      by_cases h1 : c.toNat < 128
      · rw [parse_end hf h1] at hp
        rw [← hp] at hK
        repeat' ((fail_if_success (show wpC _ (.seq (.seq (.region 12 _ _) _) _) _ _ _ _)); first | refine s_rdm ?_ (hr := by (apply rd_u8u64; exact rfl; omega; exact rfl; exact rfl; done)) | (refine s_rdp ?_ (hr := by (apply (rd_remU (b := 128)); exact rfl; exact rfl; decide; done))) | (refine s_rdp ?_ (hr := by (apply rd_mul7; exact rfl; exact rfl; omega; done))) | (refine s_rdp ?_ (hr := by (apply rd_shlOr; exact rfl; exact rfl; omega; omega; omega; done))) | (refine s_rdp ?_ (hr := by (apply rd_add64U; exact rfl; exact rfl; exact h67; done))) | (show wpO _ _ _ _ _ _ _; first | refine wpO_nil ?_ | (show wpO _ _ _ (⟨_, .binOp _ _ _ _ _, _, _, _, _⟩ :: _) _ _ _; first | refine s_tt ?_ | refine s_ff ?_ | refine s_rdp ?_ | (refine s_cmp (fun _ => ?_) (fun _ => ?_) <;> (first | (exfalso; omega) | contradiction | skip)) | (refine s_cb (fun _ => ?_) (fun _ => ?_) <;> (first | (exfalso; omega) | contradiction | skip)) | refine s_sks ?_ | (refine s_g (fun _ => ?_) (fun _ => ?_) <;> (first | (exfalso; omega) | contradiction | skip))) | (show wpO _ _ _ (⟨_, .indexAddr _ _ _, _, _, _, _⟩ :: _) _ _ _; first | refine s_rdp ?_ | refine s_idx (fun _ _ _ _ _ _ _ => ?_) | refine s_sks ?_ | (refine s_g (fun _ => ?_) (fun _ => ?_) <;> (first | (exfalso; omega) | contradiction | skip))) | (show wpO _ _ _ (⟨_, .pick _ _ _, _, _, _, _⟩ :: _) _ _ _; first | refine s_rdp ?_ | (refine s_p (fun _ => ?_) (fun _ => ?_) <;> (first | (exfalso; omega) | contradiction | skip)) | refine s_sks ?_ | (refine s_g (fun _ => ?_) (fun _ => ?_) <;> (first | (exfalso; omega) | contradiction | skip))) | (show wpO _ _ _ (⟨_, .convert _ _ _, _, _, _, _⟩ :: _) _ _ _; first | (refine s_exs ?_; refine e_mark ?_) | refine s_rdm ?_ (hr := by first | (apply rd_bytesStrO; (conv => lhs; whnf); assumption; exact Sbs.sub (self := by infer_instance); exact rfl; exact rfl; exact rfl; done) | (apply rd_bytesStr; (conv => lhs; whnf); assumption; exact Sbs.sub (self := by infer_instance); exact rfl; exact rfl; exact rfl; done)) | refine s_sks ?_ | (refine s_g (fun _ => ?_) (fun _ => ?_) <;> (first | (exfalso; omega) | contradiction | skip))) | refine s_rdp ?_ | refine s_rdm ?_ | refine s_exq ?_ | refine s_exm ?_ | refine s_sks ?_ | refine s_skn ?_ | (refine s_g (fun _ => ?_) (fun _ => ?_) <;> (first | (exfalso; omega) | contradiction | skip))) | (show Ex _ _ _ _ _; first | (show Ex _ ⟨_, .convert _ _ _, _, _, _, _⟩ _ _ _; refine e_mark ?_)) | (show wpC _ _ _ _ _ _; first | refine wpC_seq ?_ | refine wpC_region ?_ | refine c_true ?_ | refine c_false ?_ | (refine c_b (fun _ => ?_) (fun _ => ?_) <;> (first | (exfalso; omega) | contradiction | skip)) | refine wpC_block ?_ | refine wpC_ret ?_ | refine wpC_skip ?_ | refine wpC_exit ?_ | refine wpC_label ?_) | (show Then _ _ _ _ _ _ _; first | refine then_normal ?_ | refine then_ret ?_ | refine then_exit ?_) | (show InBlock _ _ _ _ _ _; first | refine inBlock_normal ?_ | refine inBlock_ret ?_ | refine inBlock_same ?_ | refine b_other ?_) | (show LoopPost _ _ _ _ _ _; first | refine loop_ret ?_ | refine loop_exit ?_) | (show RetP _ _ _ _ _ _ _ _; first | refine r_3 ?_))
        all_goals
          simp only at hK
          generalize u + c.toNat % 128 * 2 ^ (7 * i) = U at *
          repeat' (first | (refine s_rdp ?_ (hr := by (apply (rd_remU (b := 2)); exact rfl; exact rfl; decide; done))) | (refine s_rdp ?_ (hr := by (apply (rd_quoU (b := 2)); exact rfl; exact rfl; exact rfl; exact h67; decide; done))) | refine s_rdm ?_ (hr := by (apply rd_u64i64s; exact rfl; omega; exact rfl; exact rfl; done)) | (refine s_rdp ?_ (hr := by (apply rd_neg64; exact rfl; omega; omega; done))) | (show wpO _ _ _ _ _ _ _; first | refine wpO_nil ?_ | (show wpO _ _ _ (⟨_, .binOp _ _ _ _ _, _, _, _, _⟩ :: _) _ _ _; first | refine s_tt ?_ | refine s_ff ?_ | refine s_rdp ?_ | (refine s_cmp (fun _ => ?_) (fun _ => ?_) <;> (first | (exfalso; omega) | contradiction | skip)) | (refine s_cb (fun _ => ?_) (fun _ => ?_) <;> (first | (exfalso; omega) | contradiction | skip)) | refine s_sks ?_ | (refine s_g (fun _ => ?_) (fun _ => ?_) <;> (first | (exfalso; omega) | contradiction | skip))) | (show wpO _ _ _ (⟨_, .indexAddr _ _ _, _, _, _, _⟩ :: _) _ _ _; first | refine s_rdp ?_ | refine s_idx (fun _ _ _ _ _ _ _ => ?_) | refine s_sks ?_ | (refine s_g (fun _ => ?_) (fun _ => ?_) <;> (first | (exfalso; omega) | contradiction | skip))) | (show wpO _ _ _ (⟨_, .pick _ _ _, _, _, _, _⟩ :: _) _ _ _; first | refine s_rdp ?_ | (refine s_p (fun _ => ?_) (fun _ => ?_) <;> (first | (exfalso; omega) | contradiction | skip)) | refine s_sks ?_ | (refine s_g (fun _ => ?_) (fun _ => ?_) <;> (first | (exfalso; omega) | contradiction | skip))) | (show wpO _ _ _ (⟨_, .convert _ _ _, _, _, _, _⟩ :: _) _ _ _; first | (refine s_exs ?_; refine e_mark ?_) | refine s_rdm ?_ (hr := by first | (apply rd_bytesStrO; (conv => lhs; whnf); assumption; exact Sbs.sub (self := by infer_instance); exact rfl; exact rfl; exact rfl; done) | (apply rd_bytesStr; (conv => lhs; whnf); assumption; exact Sbs.sub (self := by infer_instance); exact rfl; exact rfl; exact rfl; done)) | refine s_sks ?_ | (refine s_g (fun _ => ?_) (fun _ => ?_) <;> (first | (exfalso; omega) | contradiction | skip))) | refine s_rdp ?_ | refine s_rdm ?_ | refine s_exq ?_ | refine s_exm ?_ | refine s_sks ?_ | refine s_skn ?_ | (refine s_g (fun _ => ?_) (fun _ => ?_) <;> (first | (exfalso; omega) | contradiction | skip))) | (show Ex _ _ _ _ _; first | (show Ex _ ⟨_, .convert _ _ _, _, _, _, _⟩ _ _ _; refine e_mark ?_)) | (show wpC _ _ _ _ _ _; first | refine wpC_seq ?_ | refine wpC_region ?_ | refine c_true ?_ | refine c_false ?_ | (refine c_b (fun _ => ?_) (fun _ => ?_) <;> (first | (exfalso; omega) | contradiction | skip)) | refine wpC_block ?_ | refine wpC_ret ?_ | refine wpC_skip ?_ | refine wpC_exit ?_ | refine wpC_label ?_) | (show Then _ _ _ _ _ _ _; first | refine then_normal ?_ | refine then_ret ?_ | refine then_exit ?_) | (show InBlock _ _ _ _ _ _; first | refine inBlock_normal ?_ | refine inBlock_ret ?_ | refine inBlock_same ?_ | refine b_other ?_) | (show LoopPost _ _ _ _ _ _; first | refine loop_ret ?_ | refine loop_exit ?_) | (show RetP _ _ _ _ _ _ _ _; first | refine r_3 ?_))
          · rw [show unzz U = -((U / 2 : Nat) : Int) - 1 from if_pos (by omega)] at hK
            exact q_drop hK
          · rw [show unzz U = ((U / 2 : Nat) : Int) from if_neg (by omega)] at hK
            exact q_drop hK
      · rw [parse_more hf h1] at hp
        have hst := stepU (c := c.toNat % 128) hu (by omega)
        repeat' (first | refine s_rdm ?_ (hr := by (apply rd_u8u64; exact rfl; omega; exact rfl; exact rfl; done)) | (refine s_rdp ?_ (hr := by (apply (rd_remU (b := 128)); exact rfl; exact rfl; decide; done))) | (refine s_rdp ?_ (hr := by (apply rd_mul7; exact rfl; exact rfl; omega; done))) | (refine s_rdp ?_ (hr := by (apply rd_shlOr; exact rfl; exact rfl; omega; omega; omega; done))) | (refine s_rdp ?_ (hr := by (apply rd_add64U; exact rfl; exact rfl; exact h67; done))) | (show wpO _ _ _ _ _ _ _; first | refine wpO_nil ?_ | (show wpO _ _ _ (⟨_, .binOp _ _ _ _ _, _, _, _, _⟩ :: _) _ _ _; first | refine s_tt ?_ | refine s_ff ?_ | refine s_rdp ?_ | (refine s_cmp (fun _ => ?_) (fun _ => ?_) <;> (first | (exfalso; omega) | contradiction | skip)) | (refine s_cb (fun _ => ?_) (fun _ => ?_) <;> (first | (exfalso; omega) | contradiction | skip)) | refine s_sks ?_ | (refine s_g (fun _ => ?_) (fun _ => ?_) <;> (first | (exfalso; omega) | contradiction | skip))) | (show wpO _ _ _ (⟨_, .indexAddr _ _ _, _, _, _, _⟩ :: _) _ _ _; first | refine s_rdp ?_ | refine s_idx (fun _ _ _ _ _ _ _ => ?_) | refine s_sks ?_ | (refine s_g (fun _ => ?_) (fun _ => ?_) <;> (first | (exfalso; omega) | contradiction | skip))) | (show wpO _ _ _ (⟨_, .pick _ _ _, _, _, _, _⟩ :: _) _ _ _; first | refine s_rdp ?_ | (refine s_p (fun _ => ?_) (fun _ => ?_) <;> (first | (exfalso; omega) | contradiction | skip)) | refine s_sks ?_ | (refine s_g (fun _ => ?_) (fun _ => ?_) <;> (first | (exfalso; omega) | contradiction | skip))) | (show wpO _ _ _ (⟨_, .convert _ _ _, _, _, _, _⟩ :: _) _ _ _; first | (refine s_exs ?_; refine e_mark ?_) | refine s_rdm ?_ (hr := by first | (apply rd_bytesStrO; (conv => lhs; whnf); assumption; exact Sbs.sub (self := by infer_instance); exact rfl; exact rfl; exact rfl; done) | (apply rd_bytesStr; (conv => lhs; whnf); assumption; exact Sbs.sub (self := by infer_instance); exact rfl; exact rfl; exact rfl; done)) | refine s_sks ?_ | (refine s_g (fun _ => ?_) (fun _ => ?_) <;> (first | (exfalso; omega) | contradiction | skip))) | refine s_rdp ?_ | refine s_rdm ?_ | refine s_exq ?_ | refine s_exm ?_ | refine s_sks ?_ | refine s_skn ?_ | (refine s_g (fun _ => ?_) (fun _ => ?_) <;> (first | (exfalso; omega) | contradiction | skip))) | (show Ex _ _ _ _ _; first | (show Ex _ ⟨_, .convert _ _ _, _, _, _, _⟩ _ _ _; refine e_mark ?_)) | (show wpC _ _ _ _ _ _; first | refine wpC_seq ?_ | refine wpC_region ?_ | refine c_true ?_ | refine c_false ?_ | (refine c_b (fun _ => ?_) (fun _ => ?_) <;> (first | (exfalso; omega) | contradiction | skip)) | refine wpC_block ?_ | refine wpC_ret ?_ | refine wpC_skip ?_ | refine wpC_exit ?_ | refine wpC_label ?_) | (show Then _ _ _ _ _ _ _; first | refine then_normal ?_ | refine then_ret ?_ | refine then_exit ?_) | (show InBlock _ _ _ _ _ _; first | refine inBlock_normal ?_ | refine inBlock_ret ?_ | refine inBlock_same ?_ | refine b_other ?_) | (show LoopPost _ _ _ _ _ _; first | refine loop_ret ?_ | refine loop_exit ?_) | (show RetP _ _ _ _ _ _ _ _; first | refine r_3 ?_))
        all_goals first
          | (exfalso; omega)
          | exact lp_end ⟨i + 1, u + c.toNat % 128 * 2 ^ (7 * i)⟩ (by simp only; omega) ⟨by simp only; omega, hst, hp⟩
end Go.Vl

/-
  A part of a list of bytes; the document's Bytes, Frame, ParseBytes.
-/
namespace Go.Vl
open Go.Proofs Go.RowKit
section
variable {P : Program} {e : World} {ρ : Fr} {H : Hp} {d : Option Nat} {ty : TypeId} {pos : String} {af : Array Edge} {g : Option (Nat × Bool)} {x y z : Operand} {t el : TypeId} {n : Nat} {F : Hp} {rows : List (List Value)} {v : Value} {q r : IntKind} {i j : Nat}
set_option maxHeartbeats 4000000 in
set_option maxRecDepth 100000 in
theorem rd_sliceLH (hx : ev ρ x = v) (hy : ev ρ y = .int q (i : Int)) (hz : ev ρ z = .int r (j : Int)) (hin : InSl F n rows v) (ht : P.underlying t = some (.slice el)) (hs : sz P el = some n) (hij : i ≤ j) (hj : j ≤ rows.length) :
    ∃ v', InSl F n ((rows.take j).drop i) v' ∧ Rd P e ρ H ⟨d, .slice t x (some y) (some z) none, ty, pos, af, g⟩ v' := by
  obtain ⟨a, c, rfl, hc, hr, hw⟩ := hin
  have hlt : (rows.take j).length = j := by rw [List.length_take]; omega
  refine ⟨.slice (if c = i then a else a.map (·.add (i * n))) (j - i) (c - i), ?_, fun w _ => ?_⟩
  · refine ⟨_, _, by rw [List.length_drop, hlt], by rw [List.length_drop, hlt]; omega, fun r hr' => hr r (List.mem_of_mem_take (List.mem_of_mem_drop hr')), ?_⟩
    rcases hw with rfl | ⟨b, o, cs, T, fz, rfl, hm, hw⟩
    · exact .inl (by simp)
    · by_cases h0 : j ≤ i
      · exact .inl (List.drop_of_length_le (by rw [hlt]; exact h0))
      · refine .inr ⟨b, o + i * n, cs, T, fz, ?_, hm, ?_⟩
        · split
          · omega
          · simp [addr_add]
        · have h1 := hw.part (i * n) ((j - i) * n) (by rw [← Nat.add_mul]; exact Nat.mul_le_mul_right _ (by omega))
          have hl := fun r (hr' : r ∈ rows) => (hr r hr').1
          rw [flat_drop i (fun r hr' => hl r (List.mem_of_mem_take hr')), flat_take j hl, List.length_drop, hlt, List.drop_take, ← Nat.sub_mul]
          exact h1
  · have h0 : (Instr.sliceAt t (ev ρ x) (some (ev ρ y)) (some (ev ρ z)) none).run P w = .ok (.slice (if c = i then a else a.map (·.add (i * n))) (j - i) (c - i)) w := by
      rw [hx, hy, hz]
      have hb : (0 : Int) ≤ (j : Int) ∧ (j : Int) ≤ (c : Int) := ⟨by omega, by omega⟩
      have hb2 : (0 : Int) ≤ (i : Int) ∧ (i : Int) ≤ (j : Int) := ⟨by omega, by omega⟩
      unfold Instr.sliceAt Instr.slice Instr.sliceBounds Instr.sliceBound
      simp only [Sem.run_bind, underlying_run ht, Result.andThen_ok, asIntOf, Sem.run_pure, hb, hb2, and_self, if_true, sizeOf_run hs, Int.toNat_natCast]
    simp [execOp, h0]
end
section
variable {C : Cx} {ops : Array Oper} {Hs : Hp} {Q : Post} {pl : List Nat} {rest : List Oper} {ρ : Fr} {ds : List Nat} {H : Hp} {i : Nat}
variable {ty : TypeId} {pos : String} {af : Array Edge} {g : Option (Nat × Bool)} {d : Nat} {v : Value} {x y z : Operand} {t el : TypeId} {n : Nat} {F : Hp} {α : Type} {ws : List α} {C' : α → List Value} {q r : IntKind} {k m : Nat}
set_option maxHeartbeats 4000000 in
set_option maxRecDepth 100000 in
theorem s_sliceLH (h : ∀ v', InSl F n (((ws.take m).drop k).map C') v' → wpO C ops Q rest (upd ρ d v') ds H) (hx : ev ρ x = v := by (conv => lhs; whnf)) (hy : ev ρ y = .int q (k : Int) := by exact rfl) (hz : ev ρ z = .int r (m : Int) := by exact rfl) (hin : InSl F n (ws.map C') v := by assumption) (ht : C.P.underlying t = some (.slice el) := by exact rfl) (hs : sz C.P el = some n := by exact rfl) (hk : k ≤ m := by omega) (hi : m ≤ ws.length := by omega) (hw : wantV C.N ops ρ ⟨some d, .slice t x (some y) (some z) none, ty, pos, af, g⟩ = true := by exact rfl) (hd : Nat.blt d C.N = true := by exact rfl) : wpO C ops Q (⟨some d, .slice t x (some y) (some z) none, ty, pos, af, g⟩ :: rest) ρ ds H :=
  let ⟨v', h1, h2⟩ := rd_sliceLH hx hy hz hin ht hs hk (by simpa using hi); wpO_rds hw hd h2 (h v' (by rw [List.map_drop, List.map_take]; exact h1))
set_option maxHeartbeats 4000000 in
set_option maxRecDepth 100000 in
theorem d_sliceLH (h : ∀ v', InSl F n (((ws.take m).drop k).map C') v' → wpD C ops Hs Q pl (upd ρ d v') ds H) (ho : ops[i]? = some ⟨some d, .slice t x (some y) (some z) none, ty, pos, af, g⟩ := by exact rfl) (hx : ev ρ x = v := by (conv => lhs; whnf)) (hy : ev ρ y = .int q (k : Int) := by exact rfl) (hz : ev ρ z = .int r (m : Int) := by exact rfl) (hin : InSl F n (ws.map C') v := by assumption) (ht : C.P.underlying t = some (.slice el) := by exact rfl) (hs : sz C.P el = some n := by exact rfl) (hk : k ≤ m := by omega) (hi : m ≤ ws.length := by omega) (hw : wantV C.N ops ρ ⟨some d, .slice t x (some y) (some z) none, ty, pos, af, g⟩ = true := by exact rfl) (hd : Nat.blt d C.N = true := by exact rfl) : wpD C ops Hs Q (i :: pl) ρ ds H :=
  let ⟨v', h1, h2⟩ := rd_sliceLH hx hy hz hin ht hs hk (by simpa using hi); wpD_rds ho rfl hw hd h2 (h v' (by rw [List.map_drop, List.map_take]; exact h1))
end
/-- a list's bytes, with its length ahead; a frame -/
def lenB (bs : List UInt8) : List UInt8 := vb (zz (bs.length : Int)) ++ bs
def frameP (bs : List UInt8) : List UInt8 := lenB bs ++ fourP (sumP bs)
set_option maxHeartbeats 4000000 in
set_option maxRecDepth 100000 in
theorem zz_len (bs : List UInt8) (h : bs.length ≤ 9223372036854775807) : zz (bs.length : Int) < 18446744073709551616 := zz_lt (by omega) (by omega)
set_option maxHeartbeats 4000000 in
set_option maxRecDepth 100000 in
theorem lenB_len {bs : List UInt8} (h : bs.length ≤ 9223372036854775807) : (lenB bs).length ≤ bs.length + 10 := by
  have := vb_len10 (zz_len bs h)
  unfold lenB
  rw [List.length_append]
  omega
attribute [local irreducible] wpC wpO wpD Ex Rd callsK RetP Drop valK
set_option maxHeartbeats 4000000 in
set_option maxRecDepth 100000 in
theorem rbytes_spec (e : World) {bs : List UInt8} {v : Value} {Bs F : Hp} {K : Value → Hp → Prop} (hin : InSl Bs 1 (bs.map byC) v) (hl : bs.length ≤ 140737488355000)
    (hK : ∀ v' B', BytO v' (lenB bs) B' → K v' (B' ++ (Bs ++ F))) : callsK Try.prog e 77 #[v] (Bs ++ F) K := by
  have hin0 := hin
  obtain ⟨av, cv, rfl, _⟩ := hin0
  have hml : (bs.map byC).length = bs.length := List.length_map _
  rw [hml] at hin ⊢
  have hz := vb_len10 (zz_len bs (by omega))
  refine calls_body (N := 8) (args := [.slice av bs.length cv]) Try.func77 rfl rfl rfl (by simp) ?_
  repeat' (first | (show wpO _ _ _ _ _ _ _; first | refine wpO_nil ?_ | refine s_rdp ?_ | refine s_rdm ?_ | refine s_exq ?_ | refine s_exm ?_) | (show Ex _ _ _ _ _; first | (show Ex _ ⟨_, .call ⟨.value (.func _), _, _⟩, _, _, _, _⟩ _ _ _; refine e_call ?_; first | (apply rint_spec _ (by omega) (by omega))) | (show Ex _ ⟨_, .call ⟨.builtin .append, _, _⟩, _, _, _, _⟩ _ _ _; (first | refine e_append ?_ | refine e_appendIn ?_); intro _ _ _)) | (show wpC _ _ _ _ _ _; first | refine wpC_seq ?_ | refine wpC_region ?_ | refine wpC_ret ?_ | refine wpC_skip ?_ | refine wpC_label ?_) | (show Then _ _ _ _ _ _ _; first | refine then_normal ?_ | refine then_ret ?_) | (show RetP _ _ _ _ _ _ _ _; first | refine r_1 ?_) | assumption | intro _)
  all_goals first
    | (rename_i v1 B1 h1 v2 B2 h2
       refine q_drop (hK v2 B2 (h2.cast ?_ ?_))
       · unfold lenB; simp
       · unfold lenB; simp)
    | trace_state
end Go.Vl

/-
  The document's Frame, ParseBytes.
-/
namespace Go.Vl
open Go.Proofs
set_option maxHeartbeats 4000000 in
set_option maxRecDepth 100000 in
theorem four_cells (s : Nat) : ((fourP s).map byC).flatten = [Value.int .u8 ((s % 256 : Nat) : Int), Value.int .u8 ((s / 2 ^ 8 % 256 : Nat) : Int), Value.int .u8 ((s / 2 ^ 16 % 256 : Nat) : Int), Value.int .u8 ((s / 2 ^ 24 % 256 : Nat) : Int)] := by
  unfold fourP
  simp only [List.map_cons, List.map_nil, byC_nat, List.flatten_cons, List.flatten_nil, List.cons_append, List.nil_append, Nat.mod_mod]
set_option maxHeartbeats 4000000 in
set_option maxRecDepth 100000 in
theorem parse_le : ∀ (bs : List UInt8) (i u : Nat), (parseP bs i u).2.1 ≤ i + bs.length
  | [], _, _ => Nat.zero_le _
  | c :: bs, i, u => by
    by_cases hf : (i = 9 ∧ 1 < c.toNat) ∨ (c.toNat = 0 ∧ 0 < i)
    · rw [parse_form hf]; exact Nat.zero_le _
    · by_cases h1 : c.toNat < 128
      · rw [parse_end hf h1]; simp only [List.length_cons]; omega
      · rw [parse_more hf h1]
        have := parse_le bs (i + 1) (u + c.toNat % 128 * 2 ^ (7 * i))
        simp only [List.length_cons]
        omega
/-- what a list's bytes say -/
def pbytesP (bs : List UInt8) : List UInt8 × Nat × Int :=
  let p := parseP bs 0 0
  if p.2.2 ≠ 0 then ([], 0, p.2.2) else if p.1 < 0 then ([], 0, 11) else if p.1 > ((bs.length - p.2.1 : Nat) : Int) then ([], 0, 10)
  else ((bs.take (p.2.1 + p.1.toNat)).drop p.2.1, p.2.1 + p.1.toNat, 0)
attribute [local irreducible] wpC wpO wpD Ex Rd callsK RetP Drop valK
set_option maxHeartbeats 4000000 in
set_option maxRecDepth 100000 in
theorem rframe_spec (e : World) {bs : List UInt8} {v : Value} {Bs F : Hp} {K : Value → Hp → Prop} (hin : InSl Bs 1 (bs.map byC) v) (hl : bs.length ≤ 140737488355000)
    (h3 : 1048576 < bs.length → K (.tuple #[.slice none 0 0, .int .i64 3]) (Bs ++ F)) (h0 : bs.length ≤ 1048576 → ∀ v' B', BytO v' (frameP bs) B' → K (.tuple #[v', .int .i64 0]) (B' ++ (Bs ++ F))) : callsK Try.prog e 75 #[v] (Bs ++ F) K := by
  have hin0 := hin
  obtain ⟨av, cv, rfl, _⟩ := hin0
  have hml : (bs.map byC).length = bs.length := List.length_map _
  rw [hml] at hin ⊢
  have hlb := lenB_len (bs := bs) (by omega)
  have hsl := sumP_lt bs
  refine calls_body (N := 25) (args := [.slice av bs.length cv]) Try.func75 rfl rfl rfl (by simp) ?_
  by_cases hb : 1048576 < bs.length
  · repeat' (first | (show wpO _ _ _ _ _ _ _; first | refine wpO_nil ?_ | (show wpO _ _ _ (⟨_, .binOp _ _ _ _ _, _, _, _, _⟩ :: _) _ _ _; first | refine s_tt ?_ | refine s_ff ?_ | refine s_rdp ?_ | (refine s_cmp (fun _ => ?_) (fun _ => ?_) <;> (first | (exfalso; omega) | contradiction | skip)) | (refine s_cb (fun _ => ?_) (fun _ => ?_) <;> (first | (exfalso; omega) | contradiction | skip))) | (show wpO _ _ _ (⟨_, .convert _ _ _, _, _, _, _⟩ :: _) _ _ _; first | (refine s_exs ?_; refine e_mark ?_) | refine s_rdm ?_ (hr := by first | (apply rd_bytesStrO; (conv => lhs; whnf); assumption; exact Sbs.sub (self := by infer_instance); exact rfl; exact rfl; exact rfl; done) | (apply rd_bytesStr; (conv => lhs; whnf); assumption; exact Sbs.sub (self := by infer_instance); exact rfl; exact rfl; exact rfl; done))) | refine s_rdp ?_ | refine s_rdm ?_ | refine s_exq ?_ | refine s_exm ?_) | (show Ex _ _ _ _ _; first | (show Ex _ ⟨_, .convert _ _ _, _, _, _, _⟩ _ _ _; refine e_mark ?_) | (show Ex _ ⟨_, .buildSlice _ _ _, _, _, _, _⟩ _ _ _; first | (refine e_buildSlice ?_; intro _) | (refine e_buildNil ?_; intro _ _ _)) | (show Ex _ ⟨_, .call ⟨.builtin .append, _, _⟩, _, _, _, _⟩ _ _ _; (first | refine e_append ?_ | refine e_appendIn ?_); intro _ _ _)) | (show wpC _ _ _ _ _ _; first | refine wpC_seq ?_ | refine wpC_region ?_ | refine c_true ?_ | refine c_false ?_ | (refine c_b (fun _ => ?_) (fun _ => ?_) <;> (first | (exfalso; omega) | contradiction | skip)) | refine wpC_ret ?_ | refine wpC_skip ?_ | refine wpC_label ?_) | (show Then _ _ _ _ _ _ _; first | refine then_normal ?_ | refine then_ret ?_) | (show RetP _ _ _ _ _ _ _ _; first | refine r_2 ?_))
    all_goals first | exact q_drop (h3 hb) | (exfalso; omega) | trace_state
  · have hl' : bs.length ≤ 140737488355000 := hl
    repeat' (first | refine s_rdm ?_ (hr := by (apply rd_u32u8; exact rfl; exact rfl; exact rfl; done)) | (refine s_rdp ?_ (hr := by (apply (rd_shr32 8); exact rfl; exact rfl; decide; done))) | (refine s_rdp ?_ (hr := by (apply (rd_shr32 16); exact rfl; exact rfl; decide; done))) | (refine s_rdp ?_ (hr := by (apply (rd_shr32 24); exact rfl; exact rfl; decide; done))) | (show wpO _ _ _ _ _ _ _; first | refine wpO_nil ?_ | (show wpO _ _ _ (⟨_, .binOp _ _ _ _ _, _, _, _, _⟩ :: _) _ _ _; first | refine s_tt ?_ | refine s_ff ?_ | refine s_rdp ?_ | (refine s_cmp (fun _ => ?_) (fun _ => ?_) <;> (first | (exfalso; omega) | contradiction | skip)) | (refine s_cb (fun _ => ?_) (fun _ => ?_) <;> (first | (exfalso; omega) | contradiction | skip))) | (show wpO _ _ _ (⟨_, .convert _ _ _, _, _, _, _⟩ :: _) _ _ _; first | (refine s_exs ?_; refine e_mark ?_) | refine s_rdm ?_ (hr := by first | (apply rd_bytesStrO; (conv => lhs; whnf); assumption; exact Sbs.sub (self := by infer_instance); exact rfl; exact rfl; exact rfl; done) | (apply rd_bytesStr; (conv => lhs; whnf); assumption; exact Sbs.sub (self := by infer_instance); exact rfl; exact rfl; exact rfl; done))) | refine s_rdp ?_ | refine s_rdm ?_ | refine s_exq ?_ | refine s_exm ?_) | (show Ex _ _ _ _ _; first | (show Ex _ ⟨_, .call ⟨.value (.func _), _, _⟩, _, _, _, _⟩ _ _ _; refine e_call ?_; first | (apply p_pcs; apply rsum_spec _ hin (by omega); (try case hS => assumption); (case hpcs => (repeat (first | exact Pcs.blk (by infer_instance) | exact Pcs.nil | (apply Pcs.cons; infer_instance) | apply Pcs.app)))) | (apply p_pcs; apply rbytes_spec _ hin hl'; (try case hS => assumption); (case hpcs => (repeat (first | exact Pcs.blk (by infer_instance) | exact Pcs.nil | (apply Pcs.cons; infer_instance) | apply Pcs.app))))) | (show Ex _ ⟨_, .convert _ _ _, _, _, _, _⟩ _ _ _; refine e_mark ?_) | (show Ex _ ⟨_, .buildSlice _ _ _, _, _, _, _⟩ _ _ _; first | (refine e_buildSlice ?_; intro _) | (refine e_buildNil ?_; intro _ _ _)) | (show Ex _ ⟨_, .call ⟨.builtin .append, _, _⟩, _, _, _, _⟩ _ _ _; (first | refine e_append ?_ | refine e_appendIn ?_); intro _ _ _)) | (show wpC _ _ _ _ _ _; first | refine wpC_seq ?_ | refine wpC_region ?_ | refine c_true ?_ | refine c_false ?_ | (refine c_b (fun _ => ?_) (fun _ => ?_) <;> (first | (exfalso; omega) | contradiction | skip)) | refine wpC_ret ?_ | refine wpC_skip ?_ | refine wpC_label ?_) | (show Then _ _ _ _ _ _ _; first | refine then_normal ?_ | refine then_ret ?_) | (show RetP _ _ _ _ _ _ _ _; first | refine r_2 ?_) | assumption | intro _)
    all_goals first
      | (exfalso; omega)
      | (rename_i v1 B1 h1 bx v2 B2 h2
         refine q_drop (h0 (by omega) v2 B2 (h2.cast ?_ ?_))
         · unfold frameP; simp [fourP]
         · unfold frameP; rw [List.map_append, List.flatten_append, four_cells])
      | trace_state
set_option maxHeartbeats 4000000 in
set_option maxRecDepth 100000 in
theorem rpbytes_spec (e : World) {bs : List UInt8} {v : Value} {Bs F : Hp} {K : Value → Hp → Prop} (hin : InSl Bs 1 (bs.map byC) v) (hl : bs.length ≤ 140737488355000)
    (hK : ∀ v' B', BytO v' (pbytesP bs).1 B' → K (.tuple #[v', .int .i64 ((pbytesP bs).2.1 : Int), .int .i64 (pbytesP bs).2.2]) (B' ++ (Bs ++ F))) : callsK Try.prog e 94 #[v] (Bs ++ F) K := by
  have hin0 := hin
  obtain ⟨av, cv, rfl, _⟩ := hin0
  have hml : (bs.map byC).length = bs.length := List.length_map _
  rw [hml] at hin ⊢
  have hle := parse_le bs 0 0
  have hpl : bs.length ≤ 9223372036854775806 := by omega
  have hno : BytO (.slice none 0 0) [] [] := SlO.nil 5 1
  refine calls_body (N := 37) (args := [.slice av bs.length cv]) Try.func94 rfl rfl rfl (by simp) ?_
  repeat' ((fail_if_success (show wpC _ (.seq (.seq (.region 2 _ _) _) _) _ _ _ _)); first | (show wpO _ _ _ _ _ _ _; first | refine wpO_nil ?_ | (show wpO _ _ _ (⟨_, .binOp _ _ _ _ _, _, _, _, _⟩ :: _) _ _ _; first | refine s_tt ?_ | refine s_ff ?_ | refine s_rdp ?_ | (refine s_cmp (fun _ => ?_) (fun _ => ?_) <;> (first | (exfalso; omega) | contradiction | skip)) | (refine s_cb (fun _ => ?_) (fun _ => ?_) <;> (first | (exfalso; omega) | contradiction | skip))) | (show wpO _ _ _ (⟨_, .slice _ _ _ _ _, _, _, _, _⟩ :: _) _ _ _; first | refine s_rdp ?_ | refine s_sliceHiT (fun _ _ => ?_) | refine s_clipO (fun _ _ => ?_) | refine s_sliceHi (fun _ _ => ?_) | refine s_sliceLo (fun _ _ => ?_)) | refine s_rdp ?_ | refine s_rdm ?_ | refine s_exq ?_ | refine s_exm ?_) | (show Ex _ _ _ _ _; first | (show Ex _ ⟨_, .call ⟨.value (.func _), _, _⟩, _, _, _, _⟩ _ _ _; refine e_call ?_; first | (apply p_pcs; apply rparse_spec _ hin hpl; (try case hS => assumption); (case hpcs => (repeat (first | exact Pcs.blk (by infer_instance) | exact Pcs.nil | (apply Pcs.cons; infer_instance) | apply Pcs.app))))) | (show Ex _ ⟨_, .call ⟨.builtin .append, _, _⟩, _, _, _, _⟩ _ _ _; (first | refine e_append ?_ | refine e_appendIn ?_); intro _ _ _)) | (show wpC _ _ _ _ _ _; first | refine wpC_seq ?_ | refine wpC_region ?_ | refine c_true ?_ | refine c_false ?_ | (refine c_b (fun _ => ?_) (fun _ => ?_) <;> (first | (exfalso; omega) | contradiction | skip)) | refine wpC_ret ?_ | refine wpC_skip ?_ | refine wpC_label ?_) | (show Then _ _ _ _ _ _ _; first | refine then_normal ?_ | refine then_ret ?_) | (show RetP _ _ _ _ _ _ _ _; first | refine r_3 ?_) | assumption | intro _)
  unfold pbytesP at hK
  generalize parseP bs 0 0 = p at *
  obtain ⟨n, k, er⟩ := p
  simp only at hK hle ⊢
  by_cases h1 : er ≠ 0
  · rw [if_pos h1] at hK
    repeat' (first | (show wpO _ _ _ _ _ _ _; first | refine wpO_nil ?_ | (show wpO _ _ _ (⟨_, .binOp _ _ _ _ _, _, _, _, _⟩ :: _) _ _ _; first | refine s_tt ?_ | refine s_ff ?_ | refine s_rdp ?_ | (refine s_cmp (fun _ => ?_) (fun _ => ?_) <;> (first | (exfalso; omega) | contradiction | skip)) | (refine s_cb (fun _ => ?_) (fun _ => ?_) <;> (first | (exfalso; omega) | contradiction | skip))) | (show wpO _ _ _ (⟨_, .slice _ _ _ _ _, _, _, _, _⟩ :: _) _ _ _; first | refine s_rdp ?_ | refine s_sliceHiT (fun _ _ => ?_) | refine s_clipO (fun _ _ => ?_) | refine s_sliceHi (fun _ _ => ?_) | refine s_sliceLo (fun _ _ => ?_)) | refine s_rdp ?_ | refine s_rdm ?_ | refine s_exq ?_ | refine s_exm ?_) | (show Ex _ _ _ _ _; first | (show Ex _ ⟨_, .call ⟨.builtin .append, _, _⟩, _, _, _, _⟩ _ _ _; (first | refine e_append ?_ | refine e_appendIn ?_); intro _ _ _)) | (show wpC _ _ _ _ _ _; first | refine wpC_seq ?_ | refine wpC_region ?_ | refine c_true ?_ | refine c_false ?_ | (refine c_b (fun _ => ?_) (fun _ => ?_) <;> (first | (exfalso; omega) | contradiction | skip)) | refine wpC_ret ?_ | refine wpC_skip ?_ | refine wpC_label ?_) | (show Then _ _ _ _ _ _ _; first | refine then_normal ?_ | refine then_ret ?_) | (show RetP _ _ _ _ _ _ _ _; first | refine r_3 ?_))
    all_goals first | exact q_drop (hK _ _ hno) | (exfalso; omega) | trace_state
  · rw [if_neg h1] at hK
    by_cases h2 : n < 0
    · rw [if_pos h2] at hK
      repeat' (first | (show wpO _ _ _ _ _ _ _; first | refine wpO_nil ?_ | (show wpO _ _ _ (⟨_, .binOp _ _ _ _ _, _, _, _, _⟩ :: _) _ _ _; first | refine s_tt ?_ | refine s_ff ?_ | refine s_rdp ?_ | (refine s_cmp (fun _ => ?_) (fun _ => ?_) <;> (first | (exfalso; omega) | contradiction | skip)) | (refine s_cb (fun _ => ?_) (fun _ => ?_) <;> (first | (exfalso; omega) | contradiction | skip))) | (show wpO _ _ _ (⟨_, .slice _ _ _ _ _, _, _, _, _⟩ :: _) _ _ _; first | refine s_rdp ?_ | refine s_sliceHiT (fun _ _ => ?_) | refine s_clipO (fun _ _ => ?_) | refine s_sliceHi (fun _ _ => ?_) | refine s_sliceLo (fun _ _ => ?_)) | refine s_rdp ?_ | refine s_rdm ?_ | refine s_exq ?_ | refine s_exm ?_) | (show Ex _ _ _ _ _; first | (show Ex _ ⟨_, .call ⟨.builtin .append, _, _⟩, _, _, _, _⟩ _ _ _; (first | refine e_append ?_ | refine e_appendIn ?_); intro _ _ _)) | (show wpC _ _ _ _ _ _; first | refine wpC_seq ?_ | refine wpC_region ?_ | refine c_true ?_ | refine c_false ?_ | (refine c_b (fun _ => ?_) (fun _ => ?_) <;> (first | (exfalso; omega) | contradiction | skip)) | refine wpC_ret ?_ | refine wpC_skip ?_ | refine wpC_label ?_) | (show Then _ _ _ _ _ _ _; first | refine then_normal ?_ | refine then_ret ?_) | (show RetP _ _ _ _ _ _ _ _; first | refine r_3 ?_))
      all_goals first | exact q_drop (hK _ _ hno) | (exfalso; omega) | trace_state
    · rw [if_neg h2] at hK
      by_cases h4 : n > ((bs.length - k : Nat) : Int)
      · rw [if_pos h4] at hK
        repeat' (first | (show wpO _ _ _ _ _ _ _; first | refine wpO_nil ?_ | (show wpO _ _ _ (⟨_, .binOp _ _ _ _ _, _, _, _, _⟩ :: _) _ _ _; first | refine s_tt ?_ | refine s_ff ?_ | refine s_rdp ?_ | (refine s_cmp (fun _ => ?_) (fun _ => ?_) <;> (first | (exfalso; omega) | contradiction | skip)) | (refine s_cb (fun _ => ?_) (fun _ => ?_) <;> (first | (exfalso; omega) | contradiction | skip))) | (show wpO _ _ _ (⟨_, .slice _ _ _ _ _, _, _, _, _⟩ :: _) _ _ _; first | refine s_rdp ?_ | refine s_sliceHiT (fun _ _ => ?_) | refine s_clipO (fun _ _ => ?_) | refine s_sliceHi (fun _ _ => ?_) | refine s_sliceLo (fun _ _ => ?_)) | refine s_rdp ?_ | refine s_rdm ?_ | refine s_exq ?_ | refine s_exm ?_) | (show Ex _ _ _ _ _; first | (show Ex _ ⟨_, .call ⟨.builtin .append, _, _⟩, _, _, _, _⟩ _ _ _; (first | refine e_append ?_ | refine e_appendIn ?_); intro _ _ _)) | (show wpC _ _ _ _ _ _; first | refine wpC_seq ?_ | refine wpC_region ?_ | refine c_true ?_ | refine c_false ?_ | (refine c_b (fun _ => ?_) (fun _ => ?_) <;> (first | (exfalso; omega) | contradiction | skip)) | refine wpC_ret ?_ | refine wpC_skip ?_ | refine wpC_label ?_) | (show Then _ _ _ _ _ _ _; first | refine then_normal ?_ | refine then_ret ?_) | (show RetP _ _ _ _ _ _ _ _; first | refine r_3 ?_))
        all_goals first | exact q_drop (hK _ _ hno) | (exfalso; omega) | trace_state
      · rw [if_neg h4] at hK
        obtain ⟨m, rfl⟩ : ∃ m : Nat, n = (m : Int) := ⟨n.toNat, by omega⟩
        rw [Int.toNat_natCast] at hK
        have hnn : SlO 5 1 (.slice none 0 0) 0 [] [] := SlO.nil 5 1
        clear hno
        repeat' (first | (refine s_sliceLH (fun _ _ => ?_)) | (show wpO _ _ _ _ _ _ _; first | refine wpO_nil ?_ | (show wpO _ _ _ (⟨_, .binOp _ _ _ _ _, _, _, _, _⟩ :: _) _ _ _; first | refine s_tt ?_ | refine s_ff ?_ | refine s_rdp ?_ | (refine s_cmp (fun _ => ?_) (fun _ => ?_) <;> (first | (exfalso; omega) | contradiction | skip)) | (refine s_cb (fun _ => ?_) (fun _ => ?_) <;> (first | (exfalso; omega) | contradiction | skip))) | (show wpO _ _ _ (⟨_, .slice _ _ _ _ _, _, _, _, _⟩ :: _) _ _ _; first | refine s_rdp ?_ | refine s_sliceHiT (fun _ _ => ?_) | refine s_clipO (fun _ _ => ?_) | refine s_sliceHi (fun _ _ => ?_) | refine s_sliceLo (fun _ _ => ?_)) | refine s_rdp ?_ | refine s_rdm ?_ | refine s_exq ?_ | refine s_exm ?_) | (show Ex _ _ _ _ _; first | (show Ex _ ⟨_, .call ⟨.builtin .append, _, _⟩, _, _, _, _⟩ _ _ _; (first | refine e_append ?_ | refine e_appendIn ?_); intro _ _ _)) | (show wpC _ _ _ _ _ _; first | refine wpC_seq ?_ | refine wpC_region ?_ | refine c_true ?_ | refine c_false ?_ | (refine c_b (fun _ => ?_) (fun _ => ?_) <;> (first | (exfalso; omega) | contradiction | skip)) | refine wpC_ret ?_ | refine wpC_skip ?_ | refine wpC_label ?_) | (show Then _ _ _ _ _ _ _; first | refine then_normal ?_ | refine then_ret ?_) | (show RetP _ _ _ _ _ _ _ _; first | refine r_3 ?_))
        all_goals first
          | (exfalso; omega)
          | (rename_i v1 h5 v2 B2 h6
             refine q_drop (hK v2 B2 (h6.cast ?_ ?_))
             · simp
             · simp)
          | trace_state
end Go.Vl

/-
  The document's Unframe.
-/
namespace Go.Vl
open Go.Proofs
/-- what a frame has -/
def unframeP (bs : List UInt8) : List UInt8 × Nat × Int :=
  let p := parseP bs 0 0
  if p.2.2 ≠ 0 then ([], 0, p.2.2) else if p.1 < 0 then ([], 0, 11) else if p.1 > 1048576 then ([], 0, 3) else if p.1 + 4 > ((bs.length - p.2.1 : Nat) : Int) then ([], 0, 10)
  else if (bs.take (p.2.1 + p.1.toNat + 4)).drop (p.2.1 + p.1.toNat) ≠ fourP (sumP ((bs.take (p.2.1 + p.1.toNat)).drop p.2.1)) then ([], 0, 12)
  else ((bs.take (p.2.1 + p.1.toNat)).drop p.2.1, p.2.1 + p.1.toNat + 4, 0)
set_option maxHeartbeats 4000000 in
set_option maxRecDepth 100000 in
theorem four_at {bs : List UInt8} {a : Nat} (h : a + 4 ≤ bs.length) : ∃ b0 b1 b2 b3, bs[a]? = some b0 ∧ bs[a + 1]? = some b1 ∧ bs[a + 2]? = some b2 ∧ bs[a + 3]? = some b3 ∧ (bs.take (a + 4)).drop a = [b0, b1, b2, b3] := by
  refine ⟨bs[a], bs[a + 1], bs[a + 2], bs[a + 3], List.getElem?_eq_getElem (by omega), List.getElem?_eq_getElem (by omega), List.getElem?_eq_getElem (by omega), List.getElem?_eq_getElem (by omega), ?_⟩
  rw [List.drop_take, show a + 4 - a = 4 from by omega, List.drop_eq_getElem_cons (by omega), List.drop_eq_getElem_cons (by omega), List.drop_eq_getElem_cons (by omega), List.drop_eq_getElem_cons (by omega)]
  rfl
set_option maxHeartbeats 4000000 in
set_option maxRecDepth 100000 in
theorem u8_eq {b : UInt8} {n : Nat} : b = UInt8.ofNat n ↔ b.toNat = n % 256 := by
  constructor
  · rintro rfl; rw [UInt8.toNat_ofNat']
  · intro h; apply UInt8.toNat_inj.1; rw [h, UInt8.toNat_ofNat']
set_option maxHeartbeats 4000000 in
set_option maxRecDepth 100000 in
theorem four_eq {b0 b1 b2 b3 : UInt8} {s : Nat} : [b0, b1, b2, b3] = fourP s ↔ b0.toNat = s % 256 ∧ b1.toNat = s / 2 ^ 8 % 256 ∧ b2.toNat = s / 2 ^ 16 % 256 ∧ b3.toNat = s / 2 ^ 24 % 256 := by
  unfold fourP
  simp only [List.cons.injEq, and_true, u8_eq, Nat.mod_mod]
attribute [local irreducible] wpC wpO wpD Ex Rd callsK RetP Drop valK
set_option maxHeartbeats 4000000 in
set_option maxRecDepth 100000 in
theorem runframe_spec (e : World) {bs : List UInt8} {v : Value} {Bs F : Hp} {K : Value → Hp → Prop} (hin : InSl Bs 1 (bs.map byC) v) (hl : bs.length ≤ 140737488355000)
    (hK : ∀ v' B', BytO v' (unframeP bs).1 B' → K (.tuple #[v', .int .i64 ((unframeP bs).2.1 : Int), .int .i64 (unframeP bs).2.2]) (B' ++ (Bs ++ F))) : callsK Try.prog e 92 #[v] (Bs ++ F) K := by
  have hin0 := hin
  obtain ⟨av, cv, rfl, _⟩ := hin0
  have hml : (bs.map byC).length = bs.length := List.length_map _
  rw [hml] at hin ⊢
  have hle := parse_le bs 0 0
  have hpl : bs.length ≤ 9223372036854775806 := by omega
  have hno : BytO (.slice none 0 0) [] [] := SlO.nil 5 1
  refine calls_body (N := 87) (args := [.slice av bs.length cv]) Try.func92 rfl rfl rfl (by simp) ?_
  repeat' ((fail_if_success (show wpC _ (.seq (.seq (.region 2 _ _) _) _) _ _ _ _)); first | (show wpO _ _ _ _ _ _ _; first | refine wpO_nil ?_ | (show wpO _ _ _ (⟨_, .binOp _ _ _ _ _, _, _, _, _⟩ :: _) _ _ _; first | refine s_tt ?_ | refine s_ff ?_ | refine s_rdp ?_ | (refine s_cmp (fun _ => ?_) (fun _ => ?_) <;> (first | (exfalso; omega) | contradiction | skip)) | (refine s_cb (fun _ => ?_) (fun _ => ?_) <;> (first | (exfalso; omega) | contradiction | skip)) | refine s_sks ?_ | (refine s_g (fun _ => ?_) (fun _ => ?_) <;> (first | (exfalso; omega) | contradiction | skip))) | (show wpO _ _ _ (⟨_, .indexAddr _ _ _, _, _, _, _⟩ :: _) _ _ _; first | refine s_rdp ?_ | refine s_idx (fun _ _ _ _ _ _ _ => ?_) | refine s_sks ?_ | (refine s_g (fun _ => ?_) (fun _ => ?_) <;> (first | (exfalso; omega) | contradiction | skip))) | (show wpO _ _ _ (⟨_, .slice _ _ _ _ _, _, _, _, _⟩ :: _) _ _ _; first | refine s_rdp ?_ | refine s_sliceHiT (fun _ _ => ?_) | refine s_clipO (fun _ _ => ?_) | refine s_sliceHi (fun _ _ => ?_) | refine s_sliceLo (fun _ _ => ?_) | refine s_sks ?_ | (refine s_g (fun _ => ?_) (fun _ => ?_) <;> (first | (exfalso; omega) | contradiction | skip))) | (show wpO _ _ _ (⟨_, .pick _ _ _, _, _, _, _⟩ :: _) _ _ _; first | refine s_rdp ?_ | (refine s_p (fun _ => ?_) (fun _ => ?_) <;> (first | (exfalso; omega) | contradiction | skip)) | refine s_sks ?_ | (refine s_g (fun _ => ?_) (fun _ => ?_) <;> (first | (exfalso; omega) | contradiction | skip))) | (show wpO _ _ _ (⟨_, .convert _ _ _, _, _, _, _⟩ :: _) _ _ _; first | (refine s_exs ?_; refine e_mark ?_) | refine s_rdm ?_ (hr := by first | (apply rd_bytesStrO; (conv => lhs; whnf); assumption; exact Sbs.sub (self := by infer_instance); exact rfl; exact rfl; exact rfl; done) | (apply rd_bytesStr; (conv => lhs; whnf); assumption; exact Sbs.sub (self := by infer_instance); exact rfl; exact rfl; exact rfl; done)) | refine s_sks ?_ | (refine s_g (fun _ => ?_) (fun _ => ?_) <;> (first | (exfalso; omega) | contradiction | skip))) | refine s_rdp ?_ | refine s_rdm ?_ | refine s_exq ?_ | refine s_exm ?_ | refine s_sks ?_ | refine s_skn ?_ | (refine s_g (fun _ => ?_) (fun _ => ?_) <;> (first | (exfalso; omega) | contradiction | skip))) | (show Ex _ _ _ _ _; first | (show Ex _ ⟨_, .call ⟨.value (.func _), _, _⟩, _, _, _, _⟩ _ _ _; refine e_call ?_; first | (apply p_pcs; apply rparse_spec _ hin hpl; (try case hS => assumption); (case hpcs => (repeat (first | exact Pcs.blk (by infer_instance) | exact Pcs.nil | (apply Pcs.cons; infer_instance) | apply Pcs.app))))) | (show Ex _ ⟨_, .convert _ _ _, _, _, _, _⟩ _ _ _; refine e_mark ?_) | (show Ex _ ⟨_, .call ⟨.builtin .append, _, _⟩, _, _, _, _⟩ _ _ _; (first | refine e_append ?_ | refine e_appendIn ?_); intro _ _ _)) | (show wpC _ _ _ _ _ _; first | refine wpC_seq ?_ | refine wpC_region ?_ | refine c_true ?_ | refine c_false ?_ | (refine c_b (fun _ => ?_) (fun _ => ?_) <;> (first | (exfalso; omega) | contradiction | skip)) | refine wpC_ret ?_ | refine wpC_skip ?_ | refine wpC_label ?_) | (show Then _ _ _ _ _ _ _; first | refine then_normal ?_ | refine then_ret ?_) | (show RetP _ _ _ _ _ _ _ _; first | refine r_3 ?_) | assumption | intro _)
  unfold unframeP at hK
  generalize parseP bs 0 0 = p at *
  obtain ⟨n, k, er⟩ := p
  simp only at hK hle ⊢
  by_cases h1 : er ≠ 0
  · rw [if_pos h1] at hK
    repeat' (first | (show wpO _ _ _ _ _ _ _; first | refine wpO_nil ?_ | (show wpO _ _ _ (⟨_, .binOp _ _ _ _ _, _, _, _, _⟩ :: _) _ _ _; first | refine s_tt ?_ | refine s_ff ?_ | refine s_rdp ?_ | (refine s_cmp (fun _ => ?_) (fun _ => ?_) <;> (first | (exfalso; omega) | contradiction | skip)) | (refine s_cb (fun _ => ?_) (fun _ => ?_) <;> (first | (exfalso; omega) | contradiction | skip)) | refine s_sks ?_ | (refine s_g (fun _ => ?_) (fun _ => ?_) <;> (first | (exfalso; omega) | contradiction | skip))) | (show wpO _ _ _ (⟨_, .indexAddr _ _ _, _, _, _, _⟩ :: _) _ _ _; first | refine s_rdp ?_ | refine s_idx (fun _ _ _ _ _ _ _ => ?_) | refine s_sks ?_ | (refine s_g (fun _ => ?_) (fun _ => ?_) <;> (first | (exfalso; omega) | contradiction | skip))) | (show wpO _ _ _ (⟨_, .slice _ _ _ _ _, _, _, _, _⟩ :: _) _ _ _; first | refine s_rdp ?_ | refine s_sliceHiT (fun _ _ => ?_) | refine s_clipO (fun _ _ => ?_) | refine s_sliceHi (fun _ _ => ?_) | refine s_sliceLo (fun _ _ => ?_) | refine s_sks ?_ | (refine s_g (fun _ => ?_) (fun _ => ?_) <;> (first | (exfalso; omega) | contradiction | skip))) | (show wpO _ _ _ (⟨_, .pick _ _ _, _, _, _, _⟩ :: _) _ _ _; first | refine s_rdp ?_ | (refine s_p (fun _ => ?_) (fun _ => ?_) <;> (first | (exfalso; omega) | contradiction | skip)) | refine s_sks ?_ | (refine s_g (fun _ => ?_) (fun _ => ?_) <;> (first | (exfalso; omega) | contradiction | skip))) | (show wpO _ _ _ (⟨_, .convert _ _ _, _, _, _, _⟩ :: _) _ _ _; first | (refine s_exs ?_; refine e_mark ?_) | refine s_rdm ?_ (hr := by first | (apply rd_bytesStrO; (conv => lhs; whnf); assumption; exact Sbs.sub (self := by infer_instance); exact rfl; exact rfl; exact rfl; done) | (apply rd_bytesStr; (conv => lhs; whnf); assumption; exact Sbs.sub (self := by infer_instance); exact rfl; exact rfl; exact rfl; done)) | refine s_sks ?_ | (refine s_g (fun _ => ?_) (fun _ => ?_) <;> (first | (exfalso; omega) | contradiction | skip))) | refine s_rdp ?_ | refine s_rdm ?_ | refine s_exq ?_ | refine s_exm ?_ | refine s_sks ?_ | refine s_skn ?_ | (refine s_g (fun _ => ?_) (fun _ => ?_) <;> (first | (exfalso; omega) | contradiction | skip))) | (show Ex _ _ _ _ _; first | (show Ex _ ⟨_, .convert _ _ _, _, _, _, _⟩ _ _ _; refine e_mark ?_) | (show Ex _ ⟨_, .call ⟨.builtin .append, _, _⟩, _, _, _, _⟩ _ _ _; (first | refine e_append ?_ | refine e_appendIn ?_); intro _ _ _)) | (show wpC _ _ _ _ _ _; first | refine wpC_seq ?_ | refine wpC_region ?_ | refine c_true ?_ | refine c_false ?_ | (refine c_b (fun _ => ?_) (fun _ => ?_) <;> (first | (exfalso; omega) | contradiction | skip)) | refine wpC_ret ?_ | refine wpC_skip ?_ | refine wpC_label ?_) | (show Then _ _ _ _ _ _ _; first | refine then_normal ?_ | refine then_ret ?_) | (show RetP _ _ _ _ _ _ _ _; first | refine r_3 ?_))
    all_goals first | exact q_drop (hK _ _ hno) | (exfalso; omega) | trace_state
  · rw [if_neg h1] at hK
    by_cases h2 : n < 0
    · rw [if_pos h2] at hK
      repeat' (first | (show wpO _ _ _ _ _ _ _; first | refine wpO_nil ?_ | (show wpO _ _ _ (⟨_, .binOp _ _ _ _ _, _, _, _, _⟩ :: _) _ _ _; first | refine s_tt ?_ | refine s_ff ?_ | refine s_rdp ?_ | (refine s_cmp (fun _ => ?_) (fun _ => ?_) <;> (first | (exfalso; omega) | contradiction | skip)) | (refine s_cb (fun _ => ?_) (fun _ => ?_) <;> (first | (exfalso; omega) | contradiction | skip)) | refine s_sks ?_ | (refine s_g (fun _ => ?_) (fun _ => ?_) <;> (first | (exfalso; omega) | contradiction | skip))) | (show wpO _ _ _ (⟨_, .indexAddr _ _ _, _, _, _, _⟩ :: _) _ _ _; first | refine s_rdp ?_ | refine s_idx (fun _ _ _ _ _ _ _ => ?_) | refine s_sks ?_ | (refine s_g (fun _ => ?_) (fun _ => ?_) <;> (first | (exfalso; omega) | contradiction | skip))) | (show wpO _ _ _ (⟨_, .slice _ _ _ _ _, _, _, _, _⟩ :: _) _ _ _; first | refine s_rdp ?_ | refine s_sliceHiT (fun _ _ => ?_) | refine s_clipO (fun _ _ => ?_) | refine s_sliceHi (fun _ _ => ?_) | refine s_sliceLo (fun _ _ => ?_) | refine s_sks ?_ | (refine s_g (fun _ => ?_) (fun _ => ?_) <;> (first | (exfalso; omega) | contradiction | skip))) | (show wpO _ _ _ (⟨_, .pick _ _ _, _, _, _, _⟩ :: _) _ _ _; first | refine s_rdp ?_ | (refine s_p (fun _ => ?_) (fun _ => ?_) <;> (first | (exfalso; omega) | contradiction | skip)) | refine s_sks ?_ | (refine s_g (fun _ => ?_) (fun _ => ?_) <;> (first | (exfalso; omega) | contradiction | skip))) | (show wpO _ _ _ (⟨_, .convert _ _ _, _, _, _, _⟩ :: _) _ _ _; first | (refine s_exs ?_; refine e_mark ?_) | refine s_rdm ?_ (hr := by first | (apply rd_bytesStrO; (conv => lhs; whnf); assumption; exact Sbs.sub (self := by infer_instance); exact rfl; exact rfl; exact rfl; done) | (apply rd_bytesStr; (conv => lhs; whnf); assumption; exact Sbs.sub (self := by infer_instance); exact rfl; exact rfl; exact rfl; done)) | refine s_sks ?_ | (refine s_g (fun _ => ?_) (fun _ => ?_) <;> (first | (exfalso; omega) | contradiction | skip))) | refine s_rdp ?_ | refine s_rdm ?_ | refine s_exq ?_ | refine s_exm ?_ | refine s_sks ?_ | refine s_skn ?_ | (refine s_g (fun _ => ?_) (fun _ => ?_) <;> (first | (exfalso; omega) | contradiction | skip))) | (show Ex _ _ _ _ _; first | (show Ex _ ⟨_, .convert _ _ _, _, _, _, _⟩ _ _ _; refine e_mark ?_) | (show Ex _ ⟨_, .call ⟨.builtin .append, _, _⟩, _, _, _, _⟩ _ _ _; (first | refine e_append ?_ | refine e_appendIn ?_); intro _ _ _)) | (show wpC _ _ _ _ _ _; first | refine wpC_seq ?_ | refine wpC_region ?_ | refine c_true ?_ | refine c_false ?_ | (refine c_b (fun _ => ?_) (fun _ => ?_) <;> (first | (exfalso; omega) | contradiction | skip)) | refine wpC_ret ?_ | refine wpC_skip ?_ | refine wpC_label ?_) | (show Then _ _ _ _ _ _ _; first | refine then_normal ?_ | refine then_ret ?_) | (show RetP _ _ _ _ _ _ _ _; first | refine r_3 ?_))
      all_goals first | exact q_drop (hK _ _ hno) | (exfalso; omega) | trace_state
    · rw [if_neg h2] at hK
      by_cases h3 : n > 1048576
      · rw [if_pos h3] at hK
        repeat' (first | (show wpO _ _ _ _ _ _ _; first | refine wpO_nil ?_ | (show wpO _ _ _ (⟨_, .binOp _ _ _ _ _, _, _, _, _⟩ :: _) _ _ _; first | refine s_tt ?_ | refine s_ff ?_ | refine s_rdp ?_ | (refine s_cmp (fun _ => ?_) (fun _ => ?_) <;> (first | (exfalso; omega) | contradiction | skip)) | (refine s_cb (fun _ => ?_) (fun _ => ?_) <;> (first | (exfalso; omega) | contradiction | skip)) | refine s_sks ?_ | (refine s_g (fun _ => ?_) (fun _ => ?_) <;> (first | (exfalso; omega) | contradiction | skip))) | (show wpO _ _ _ (⟨_, .indexAddr _ _ _, _, _, _, _⟩ :: _) _ _ _; first | refine s_rdp ?_ | refine s_idx (fun _ _ _ _ _ _ _ => ?_) | refine s_sks ?_ | (refine s_g (fun _ => ?_) (fun _ => ?_) <;> (first | (exfalso; omega) | contradiction | skip))) | (show wpO _ _ _ (⟨_, .slice _ _ _ _ _, _, _, _, _⟩ :: _) _ _ _; first | refine s_rdp ?_ | refine s_sliceHiT (fun _ _ => ?_) | refine s_clipO (fun _ _ => ?_) | refine s_sliceHi (fun _ _ => ?_) | refine s_sliceLo (fun _ _ => ?_) | refine s_sks ?_ | (refine s_g (fun _ => ?_) (fun _ => ?_) <;> (first | (exfalso; omega) | contradiction | skip))) | (show wpO _ _ _ (⟨_, .pick _ _ _, _, _, _, _⟩ :: _) _ _ _; first | refine s_rdp ?_ | (refine s_p (fun _ => ?_) (fun _ => ?_) <;> (first | (exfalso; omega) | contradiction | skip)) | refine s_sks ?_ | (refine s_g (fun _ => ?_) (fun _ => ?_) <;> (first | (exfalso; omega) | contradiction | skip))) | (show wpO _ _ _ (⟨_, .convert _ _ _, _, _, _, _⟩ :: _) _ _ _; first | (refine s_exs ?_; refine e_mark ?_) | refine s_rdm ?_ (hr := by first | (apply rd_bytesStrO; (conv => lhs; whnf); assumption; exact Sbs.sub (self := by infer_instance); exact rfl; exact rfl; exact rfl; done) | (apply rd_bytesStr; (conv => lhs; whnf); assumption; exact Sbs.sub (self := by infer_instance); exact rfl; exact rfl; exact rfl; done)) | refine s_sks ?_ | (refine s_g (fun _ => ?_) (fun _ => ?_) <;> (first | (exfalso; omega) | contradiction | skip))) | refine s_rdp ?_ | refine s_rdm ?_ | refine s_exq ?_ | refine s_exm ?_ | refine s_sks ?_ | refine s_skn ?_ | (refine s_g (fun _ => ?_) (fun _ => ?_) <;> (first | (exfalso; omega) | contradiction | skip))) | (show Ex _ _ _ _ _; first | (show Ex _ ⟨_, .convert _ _ _, _, _, _, _⟩ _ _ _; refine e_mark ?_) | (show Ex _ ⟨_, .call ⟨.builtin .append, _, _⟩, _, _, _, _⟩ _ _ _; (first | refine e_append ?_ | refine e_appendIn ?_); intro _ _ _)) | (show wpC _ _ _ _ _ _; first | refine wpC_seq ?_ | refine wpC_region ?_ | refine c_true ?_ | refine c_false ?_ | (refine c_b (fun _ => ?_) (fun _ => ?_) <;> (first | (exfalso; omega) | contradiction | skip)) | refine wpC_ret ?_ | refine wpC_skip ?_ | refine wpC_label ?_) | (show Then _ _ _ _ _ _ _; first | refine then_normal ?_ | refine then_ret ?_) | (show RetP _ _ _ _ _ _ _ _; first | refine r_3 ?_))
        all_goals first | exact q_drop (hK _ _ hno) | (exfalso; omega) | trace_state
      · rw [if_neg h3] at hK
        by_cases h4 : n + 4 > ((bs.length - k : Nat) : Int)
        · rw [if_pos h4] at hK
          repeat' (first | (show wpO _ _ _ _ _ _ _; first | refine wpO_nil ?_ | (show wpO _ _ _ (⟨_, .binOp _ _ _ _ _, _, _, _, _⟩ :: _) _ _ _; first | refine s_tt ?_ | refine s_ff ?_ | refine s_rdp ?_ | (refine s_cmp (fun _ => ?_) (fun _ => ?_) <;> (first | (exfalso; omega) | contradiction | skip)) | (refine s_cb (fun _ => ?_) (fun _ => ?_) <;> (first | (exfalso; omega) | contradiction | skip)) | refine s_sks ?_ | (refine s_g (fun _ => ?_) (fun _ => ?_) <;> (first | (exfalso; omega) | contradiction | skip))) | (show wpO _ _ _ (⟨_, .indexAddr _ _ _, _, _, _, _⟩ :: _) _ _ _; first | refine s_rdp ?_ | refine s_idx (fun _ _ _ _ _ _ _ => ?_) | refine s_sks ?_ | (refine s_g (fun _ => ?_) (fun _ => ?_) <;> (first | (exfalso; omega) | contradiction | skip))) | (show wpO _ _ _ (⟨_, .slice _ _ _ _ _, _, _, _, _⟩ :: _) _ _ _; first | refine s_rdp ?_ | refine s_sliceHiT (fun _ _ => ?_) | refine s_clipO (fun _ _ => ?_) | refine s_sliceHi (fun _ _ => ?_) | refine s_sliceLo (fun _ _ => ?_) | refine s_sks ?_ | (refine s_g (fun _ => ?_) (fun _ => ?_) <;> (first | (exfalso; omega) | contradiction | skip))) | (show wpO _ _ _ (⟨_, .pick _ _ _, _, _, _, _⟩ :: _) _ _ _; first | refine s_rdp ?_ | (refine s_p (fun _ => ?_) (fun _ => ?_) <;> (first | (exfalso; omega) | contradiction | skip)) | refine s_sks ?_ | (refine s_g (fun _ => ?_) (fun _ => ?_) <;> (first | (exfalso; omega) | contradiction | skip))) | (show wpO _ _ _ (⟨_, .convert _ _ _, _, _, _, _⟩ :: _) _ _ _; first | (refine s_exs ?_; refine e_mark ?_) | refine s_rdm ?_ (hr := by first | (apply rd_bytesStrO; (conv => lhs; whnf); assumption; exact Sbs.sub (self := by infer_instance); exact rfl; exact rfl; exact rfl; done) | (apply rd_bytesStr; (conv => lhs; whnf); assumption; exact Sbs.sub (self := by infer_instance); exact rfl; exact rfl; exact rfl; done)) | refine s_sks ?_ | (refine s_g (fun _ => ?_) (fun _ => ?_) <;> (first | (exfalso; omega) | contradiction | skip))) | refine s_rdp ?_ | refine s_rdm ?_ | refine s_exq ?_ | refine s_exm ?_ | refine s_sks ?_ | refine s_skn ?_ | (refine s_g (fun _ => ?_) (fun _ => ?_) <;> (first | (exfalso; omega) | contradiction | skip))) | (show Ex _ _ _ _ _; first | (show Ex _ ⟨_, .convert _ _ _, _, _, _, _⟩ _ _ _; refine e_mark ?_) | (show Ex _ ⟨_, .call ⟨.builtin .append, _, _⟩, _, _, _, _⟩ _ _ _; (first | refine e_append ?_ | refine e_appendIn ?_); intro _ _ _)) | (show wpC _ _ _ _ _ _; first | refine wpC_seq ?_ | refine wpC_region ?_ | refine c_true ?_ | refine c_false ?_ | (refine c_b (fun _ => ?_) (fun _ => ?_) <;> (first | (exfalso; omega) | contradiction | skip)) | refine wpC_ret ?_ | refine wpC_skip ?_ | refine wpC_label ?_) | (show Then _ _ _ _ _ _ _; first | refine then_normal ?_ | refine then_ret ?_) | (show RetP _ _ _ _ _ _ _ _; first | refine r_3 ?_))
          all_goals first | exact q_drop (hK _ _ hno) | (exfalso; omega) | trace_state
        · rw [if_neg h4] at hK
          obtain ⟨m, rfl⟩ : ∃ m : Nat, n = (m : Int) := ⟨n.toNat, by omega⟩
          rw [Int.toNat_natCast] at hK
          have hnn : SlO 5 1 (.slice none 0 0) 0 [] [] := SlO.nil 5 1
          obtain ⟨b0, b1, b2, b3, g0, g1, g2, g3, g4⟩ := four_at (bs := bs) (a := k + m) (by omega)
          rw [g4] at hK
          have hlx : ((bs.take (k + m)).drop k).length = m := by rw [List.length_drop, List.length_take]; omega
          clear hno
          repeat' ((fail_if_success (show wpC _ (.seq (.region 13 _ _) _) _ _ _ _)); first | (refine s_sliceLH (m := k + m) (fun _ _ => ?_) (hz := by (conv => lhs; whnf); exact congrArg (Value.int .i64) (by omega))) | (show wpO _ _ _ _ _ _ _; first | refine wpO_nil ?_ | (show wpO _ _ _ (⟨_, .binOp _ _ _ _ _, _, _, _, _⟩ :: _) _ _ _; first | refine s_tt ?_ | refine s_ff ?_ | refine s_rdp ?_ | (refine s_cmp (fun _ => ?_) (fun _ => ?_) <;> (first | (exfalso; omega) | contradiction | skip)) | (refine s_cb (fun _ => ?_) (fun _ => ?_) <;> (first | (exfalso; omega) | contradiction | skip)) | refine s_sks ?_ | (refine s_g (fun _ => ?_) (fun _ => ?_) <;> (first | (exfalso; omega) | contradiction | skip))) | (show wpO _ _ _ (⟨_, .indexAddr _ _ _, _, _, _, _⟩ :: _) _ _ _; first | refine s_rdp ?_ | refine s_idx (fun _ _ _ _ _ _ _ => ?_) | refine s_sks ?_ | (refine s_g (fun _ => ?_) (fun _ => ?_) <;> (first | (exfalso; omega) | contradiction | skip))) | (show wpO _ _ _ (⟨_, .slice _ _ _ _ _, _, _, _, _⟩ :: _) _ _ _; first | refine s_rdp ?_ | refine s_sliceHiT (fun _ _ => ?_) | refine s_clipO (fun _ _ => ?_) | refine s_sliceHi (fun _ _ => ?_) | refine s_sliceLo (fun _ _ => ?_) | refine s_sks ?_ | (refine s_g (fun _ => ?_) (fun _ => ?_) <;> (first | (exfalso; omega) | contradiction | skip))) | (show wpO _ _ _ (⟨_, .pick _ _ _, _, _, _, _⟩ :: _) _ _ _; first | refine s_rdp ?_ | (refine s_p (fun _ => ?_) (fun _ => ?_) <;> (first | (exfalso; omega) | contradiction | skip)) | refine s_sks ?_ | (refine s_g (fun _ => ?_) (fun _ => ?_) <;> (first | (exfalso; omega) | contradiction | skip))) | (show wpO _ _ _ (⟨_, .convert _ _ _, _, _, _, _⟩ :: _) _ _ _; first | (refine s_exs ?_; refine e_mark ?_) | refine s_rdm ?_ (hr := by first | (apply rd_bytesStrO; (conv => lhs; whnf); assumption; exact Sbs.sub (self := by infer_instance); exact rfl; exact rfl; exact rfl; done) | (apply rd_bytesStr; (conv => lhs; whnf); assumption; exact Sbs.sub (self := by infer_instance); exact rfl; exact rfl; exact rfl; done)) | refine s_sks ?_ | (refine s_g (fun _ => ?_) (fun _ => ?_) <;> (first | (exfalso; omega) | contradiction | skip))) | refine s_rdp ?_ | refine s_rdm ?_ | refine s_exq ?_ | refine s_exm ?_ | refine s_sks ?_ | refine s_skn ?_ | (refine s_g (fun _ => ?_) (fun _ => ?_) <;> (first | (exfalso; omega) | contradiction | skip))) | (show Ex _ _ _ _ _; first | (show Ex _ ⟨_, .convert _ _ _, _, _, _, _⟩ _ _ _; refine e_mark ?_) | (show Ex _ ⟨_, .call ⟨.builtin .append, _, _⟩, _, _, _, _⟩ _ _ _; (first | refine e_append ?_ | refine e_appendIn ?_); intro _ _ _)) | (show wpC _ _ _ _ _ _; first | refine wpC_seq ?_ | refine wpC_region ?_ | refine c_true ?_ | refine c_false ?_ | (refine c_b (fun _ => ?_) (fun _ => ?_) <;> (first | (exfalso; omega) | contradiction | skip)) | refine wpC_ret ?_ | refine wpC_skip ?_ | refine wpC_label ?_) | (show Then _ _ _ _ _ _ _; first | refine then_normal ?_ | refine then_ret ?_) | (show RetP _ _ _ _ _ _ _ _; first | refine r_3 ?_))
          rename_i v1 h5 v2 B2 h6
          have h7 : BytO v2 ((bs.take (k + m)).drop k) B2 := h6.cast (by simp) (by simp)
          have h8 : InSl B2 1 (((bs.take (k + m)).drop k).map byC) v2 := SlO.inB (by rw [List.length_map]; exact h7) (fun r hr => by obtain ⟨u, _, rfl⟩ := List.mem_map.1 hr; exact ⟨rfl, rfl⟩)
          have h9 : ((bs.take (k + m)).drop k).length ≤ 9223372036854775806 := by omega
          have hfe := four_eq (b0 := b0) (b1 := b1) (b2 := b2) (b3 := b3) (s := sumP ((bs.take (k + m)).drop k))
          have hsl := sumP_lt ((bs.take (k + m)).drop k)
          clear h6 hnn h5
          generalize (bs.take (k + m)).drop k = X at *
          repeat' ((fail_if_success (show wpC _ (.seq (.seq (.region 14 _ _) _) _) _ _ _ _)); first | (show wpO _ _ _ _ _ _ _; first | refine wpO_nil ?_ | (show wpO _ _ _ (⟨_, .binOp _ _ _ _ _, _, _, _, _⟩ :: _) _ _ _; first | refine s_tt ?_ | refine s_ff ?_ | refine s_rdp ?_ | (refine s_cmp (fun _ => ?_) (fun _ => ?_) <;> (first | (exfalso; omega) | contradiction | skip)) | (refine s_cb (fun _ => ?_) (fun _ => ?_) <;> (first | (exfalso; omega) | contradiction | skip)) | refine s_sks ?_ | (refine s_g (fun _ => ?_) (fun _ => ?_) <;> (first | (exfalso; omega) | contradiction | skip))) | (show wpO _ _ _ (⟨_, .indexAddr _ _ _, _, _, _, _⟩ :: _) _ _ _; first | refine s_rdp ?_ | refine s_idx (fun _ _ _ _ _ _ _ => ?_) | refine s_sks ?_ | (refine s_g (fun _ => ?_) (fun _ => ?_) <;> (first | (exfalso; omega) | contradiction | skip))) | (show wpO _ _ _ (⟨_, .slice _ _ _ _ _, _, _, _, _⟩ :: _) _ _ _; first | refine s_rdp ?_ | refine s_sliceHiT (fun _ _ => ?_) | refine s_clipO (fun _ _ => ?_) | refine s_sliceHi (fun _ _ => ?_) | refine s_sliceLo (fun _ _ => ?_) | refine s_sks ?_ | (refine s_g (fun _ => ?_) (fun _ => ?_) <;> (first | (exfalso; omega) | contradiction | skip))) | (show wpO _ _ _ (⟨_, .pick _ _ _, _, _, _, _⟩ :: _) _ _ _; first | refine s_rdp ?_ | (refine s_p (fun _ => ?_) (fun _ => ?_) <;> (first | (exfalso; omega) | contradiction | skip)) | refine s_sks ?_ | (refine s_g (fun _ => ?_) (fun _ => ?_) <;> (first | (exfalso; omega) | contradiction | skip))) | (show wpO _ _ _ (⟨_, .convert _ _ _, _, _, _, _⟩ :: _) _ _ _; first | (refine s_exs ?_; refine e_mark ?_) | refine s_rdm ?_ (hr := by first | (apply rd_bytesStrO; (conv => lhs; whnf); assumption; exact Sbs.sub (self := by infer_instance); exact rfl; exact rfl; exact rfl; done) | (apply rd_bytesStr; (conv => lhs; whnf); assumption; exact Sbs.sub (self := by infer_instance); exact rfl; exact rfl; exact rfl; done)) | refine s_sks ?_ | (refine s_g (fun _ => ?_) (fun _ => ?_) <;> (first | (exfalso; omega) | contradiction | skip))) | refine s_rdp ?_ | refine s_rdm ?_ | refine s_exq ?_ | refine s_exm ?_ | refine s_sks ?_ | refine s_skn ?_ | (refine s_g (fun _ => ?_) (fun _ => ?_) <;> (first | (exfalso; omega) | contradiction | skip))) | (show Ex _ _ _ _ _; first | (show Ex _ ⟨_, .call ⟨.value (.func _), _, _⟩, _, _, _, _⟩ _ _ _; refine e_call ?_; first | (apply p_pcs; apply rsum_spec _ h8 h9; (try case hS => assumption); (case hpcs => (repeat (first | exact Pcs.blk (by infer_instance) | exact Pcs.nil | (apply Pcs.cons; infer_instance) | apply Pcs.app))))) | (show Ex _ ⟨_, .convert _ _ _, _, _, _, _⟩ _ _ _; refine e_mark ?_) | (show Ex _ ⟨_, .call ⟨.builtin .append, _, _⟩, _, _, _, _⟩ _ _ _; (first | refine e_append ?_ | refine e_appendIn ?_); intro _ _ _)) | (show wpC _ _ _ _ _ _; first | refine wpC_seq ?_ | refine wpC_region ?_ | refine c_true ?_ | refine c_false ?_ | (refine c_b (fun _ => ?_) (fun _ => ?_) <;> (first | (exfalso; omega) | contradiction | skip)) | refine wpC_ret ?_ | refine wpC_skip ?_ | refine wpC_label ?_) | (show Then _ _ _ _ _ _ _; first | refine then_normal ?_ | refine then_ret ?_) | (show RetP _ _ _ _ _ _ _ _; first | refine r_3 ?_) | assumption | intro _)
          generalize sumP X = S at *
          have g0' : bs[k + m + 4 - 4]? = some b0 := by rw [show k + m + 4 - 4 = k + m from by omega]; exact g0
          have g1' : bs[k + m + 4 - 3]? = some b1 := by rw [show k + m + 4 - 3 = k + m + 1 from by omega]; exact g1
          have g2' : bs[k + m + 4 - 2]? = some b2 := by rw [show k + m + 4 - 2 = k + m + 2 from by omega]; exact g2
          have g3' : bs[k + m + 4 - 1]? = some b3 := by rw [show k + m + 4 - 1 = k + m + 3 from by omega]; exact g3
          by_cases hq : [b0, b1, b2, b3] = fourP S
          · rw [if_neg (fun h => h hq)] at hK
            obtain ⟨q0, q1, q2, q3⟩ := hfe.1 hq
            have hk := hK v2 B2 h7
            clear hK
            repeat' (first | (refine s_rdp ?_ (hr := by (apply (rd_subNN (a := k + m + 4) (b := 4)); (first | exact rfl | ((conv => lhs; whnf); exact congrArg (Value.int .i64) (by omega))); exact rfl; omega; omega; done))) | (refine s_rdp ?_ (hr := by (apply (rd_subNN (a := k + m + 4) (b := 3)); (first | exact rfl | ((conv => lhs; whnf); exact congrArg (Value.int .i64) (by omega))); exact rfl; omega; omega; done))) | (refine s_rdp ?_ (hr := by (apply (rd_subNN (a := k + m + 4) (b := 2)); (first | exact rfl | ((conv => lhs; whnf); exact congrArg (Value.int .i64) (by omega))); exact rfl; omega; omega; done))) | (refine s_rdp ?_ (hr := by (apply (rd_subNN (a := k + m + 4) (b := 1)); (first | exact rfl | ((conv => lhs; whnf); exact congrArg (Value.int .i64) (by omega))); exact rfl; omega; omega; done))) | refine s_rdm ?_ (hr := by (apply rd_u32u8; exact rfl; exact rfl; exact rfl; done)) | (refine s_rdp ?_ (hr := by (apply (rd_shr32 8); exact rfl; exact rfl; decide; done))) | (refine s_rdp ?_ (hr := by (apply (rd_shr32 16); exact rfl; exact rfl; decide; done))) | (refine s_rdp ?_ (hr := by (apply (rd_shr32 24); exact rfl; exact rfl; decide; done))) | (show wpO _ _ _ _ _ _ _; first | refine wpO_nil ?_ | (show wpO _ _ _ (⟨_, .binOp _ _ _ _ _, _, _, _, _⟩ :: _) _ _ _; first | refine s_tt ?_ | refine s_ff ?_ | refine s_rdp ?_ | (refine s_cmp (fun _ => ?_) (fun _ => ?_) <;> (first | (exfalso; omega) | contradiction | skip)) | (refine s_cb (fun _ => ?_) (fun _ => ?_) <;> (first | (exfalso; omega) | contradiction | skip)) | refine s_sks ?_ | (refine s_g (fun _ => ?_) (fun _ => ?_) <;> (first | (exfalso; omega) | contradiction | skip))) | (show wpO _ _ _ (⟨_, .indexAddr _ _ _, _, _, _, _⟩ :: _) _ _ _; first | refine s_rdp ?_ | refine s_idx (fun _ _ _ _ _ _ _ => ?_) | refine s_sks ?_ | (refine s_g (fun _ => ?_) (fun _ => ?_) <;> (first | (exfalso; omega) | contradiction | skip))) | (show wpO _ _ _ (⟨_, .slice _ _ _ _ _, _, _, _, _⟩ :: _) _ _ _; first | refine s_rdp ?_ | refine s_sliceHiT (fun _ _ => ?_) | refine s_clipO (fun _ _ => ?_) | refine s_sliceHi (fun _ _ => ?_) | refine s_sliceLo (fun _ _ => ?_) | refine s_sks ?_ | (refine s_g (fun _ => ?_) (fun _ => ?_) <;> (first | (exfalso; omega) | contradiction | skip))) | (show wpO _ _ _ (⟨_, .pick _ _ _, _, _, _, _⟩ :: _) _ _ _; first | refine s_rdp ?_ | (refine s_p (fun _ => ?_) (fun _ => ?_) <;> (first | (exfalso; omega) | contradiction | skip)) | refine s_sks ?_ | (refine s_g (fun _ => ?_) (fun _ => ?_) <;> (first | (exfalso; omega) | contradiction | skip))) | (show wpO _ _ _ (⟨_, .convert _ _ _, _, _, _, _⟩ :: _) _ _ _; first | (refine s_exs ?_; refine e_mark ?_) | refine s_rdm ?_ (hr := by first | (apply rd_bytesStrO; (conv => lhs; whnf); assumption; exact Sbs.sub (self := by infer_instance); exact rfl; exact rfl; exact rfl; done) | (apply rd_bytesStr; (conv => lhs; whnf); assumption; exact Sbs.sub (self := by infer_instance); exact rfl; exact rfl; exact rfl; done)) | refine s_sks ?_ | (refine s_g (fun _ => ?_) (fun _ => ?_) <;> (first | (exfalso; omega) | contradiction | skip))) | refine s_rdp ?_ | refine s_rdm ?_ | refine s_exq ?_ | refine s_exm ?_ | refine s_sks ?_ | refine s_skn ?_ | (refine s_g (fun _ => ?_) (fun _ => ?_) <;> (first | (exfalso; omega) | contradiction | skip))) | (show Ex _ _ _ _ _; first | (show Ex _ ⟨_, .convert _ _ _, _, _, _, _⟩ _ _ _; refine e_mark ?_) | (show Ex _ ⟨_, .call ⟨.builtin .append, _, _⟩, _, _, _, _⟩ _ _ _; (first | refine e_append ?_ | refine e_appendIn ?_); intro _ _ _)) | (show wpC _ _ _ _ _ _; first | refine wpC_seq ?_ | refine wpC_region ?_ | refine c_true ?_ | refine c_false ?_ | (refine c_b (fun _ => ?_) (fun _ => ?_) <;> (first | (exfalso; omega) | contradiction | skip)) | refine wpC_ret ?_ | refine wpC_skip ?_ | refine wpC_label ?_) | (show Then _ _ _ _ _ _ _; first | refine then_normal ?_ | refine then_ret ?_) | (show RetP _ _ _ _ _ _ _ _; first | refine r_3 ?_))
            all_goals first | exact q_drop hk | (exfalso; omega) | trace_state
          · rw [if_pos hq] at hK
            have hk := hK _ _ (SlO.nil 5 1)
            clear hK
            have hne : ¬ (b0.toNat = S % 256 ∧ b1.toNat = S / 2 ^ 8 % 256 ∧ b2.toNat = S / 2 ^ 16 % 256 ∧ b3.toNat = S / 2 ^ 24 % 256) := fun h => hq (hfe.2 h)
            repeat' (first | (refine s_rdp ?_ (hr := by (apply (rd_subNN (a := k + m + 4) (b := 4)); (first | exact rfl | ((conv => lhs; whnf); exact congrArg (Value.int .i64) (by omega))); exact rfl; omega; omega; done))) | (refine s_rdp ?_ (hr := by (apply (rd_subNN (a := k + m + 4) (b := 3)); (first | exact rfl | ((conv => lhs; whnf); exact congrArg (Value.int .i64) (by omega))); exact rfl; omega; omega; done))) | (refine s_rdp ?_ (hr := by (apply (rd_subNN (a := k + m + 4) (b := 2)); (first | exact rfl | ((conv => lhs; whnf); exact congrArg (Value.int .i64) (by omega))); exact rfl; omega; omega; done))) | (refine s_rdp ?_ (hr := by (apply (rd_subNN (a := k + m + 4) (b := 1)); (first | exact rfl | ((conv => lhs; whnf); exact congrArg (Value.int .i64) (by omega))); exact rfl; omega; omega; done))) | refine s_rdm ?_ (hr := by (apply rd_u32u8; exact rfl; exact rfl; exact rfl; done)) | (refine s_rdp ?_ (hr := by (apply (rd_shr32 8); exact rfl; exact rfl; decide; done))) | (refine s_rdp ?_ (hr := by (apply (rd_shr32 16); exact rfl; exact rfl; decide; done))) | (refine s_rdp ?_ (hr := by (apply (rd_shr32 24); exact rfl; exact rfl; decide; done))) | (show wpO _ _ _ _ _ _ _; first | refine wpO_nil ?_ | (show wpO _ _ _ (⟨_, .binOp _ _ _ _ _, _, _, _, _⟩ :: _) _ _ _; first | refine s_tt ?_ | refine s_ff ?_ | refine s_rdp ?_ | (refine s_cmp (fun _ => ?_) (fun _ => ?_) <;> (first | (exfalso; omega) | contradiction | skip)) | (refine s_cb (fun _ => ?_) (fun _ => ?_) <;> (first | (exfalso; omega) | contradiction | skip)) | refine s_sks ?_ | (refine s_g (fun _ => ?_) (fun _ => ?_) <;> (first | (exfalso; omega) | contradiction | skip))) | (show wpO _ _ _ (⟨_, .indexAddr _ _ _, _, _, _, _⟩ :: _) _ _ _; first | refine s_rdp ?_ | refine s_idx (fun _ _ _ _ _ _ _ => ?_) | refine s_sks ?_ | (refine s_g (fun _ => ?_) (fun _ => ?_) <;> (first | (exfalso; omega) | contradiction | skip))) | (show wpO _ _ _ (⟨_, .slice _ _ _ _ _, _, _, _, _⟩ :: _) _ _ _; first | refine s_rdp ?_ | refine s_sliceHiT (fun _ _ => ?_) | refine s_clipO (fun _ _ => ?_) | refine s_sliceHi (fun _ _ => ?_) | refine s_sliceLo (fun _ _ => ?_) | refine s_sks ?_ | (refine s_g (fun _ => ?_) (fun _ => ?_) <;> (first | (exfalso; omega) | contradiction | skip))) | (show wpO _ _ _ (⟨_, .pick _ _ _, _, _, _, _⟩ :: _) _ _ _; first | refine s_rdp ?_ | (refine s_p (fun _ => ?_) (fun _ => ?_) <;> (first | (exfalso; omega) | contradiction | skip)) | refine s_sks ?_ | (refine s_g (fun _ => ?_) (fun _ => ?_) <;> (first | (exfalso; omega) | contradiction | skip))) | (show wpO _ _ _ (⟨_, .convert _ _ _, _, _, _, _⟩ :: _) _ _ _; first | (refine s_exs ?_; refine e_mark ?_) | refine s_rdm ?_ (hr := by first | (apply rd_bytesStrO; (conv => lhs; whnf); assumption; exact Sbs.sub (self := by infer_instance); exact rfl; exact rfl; exact rfl; done) | (apply rd_bytesStr; (conv => lhs; whnf); assumption; exact Sbs.sub (self := by infer_instance); exact rfl; exact rfl; exact rfl; done)) | refine s_sks ?_ | (refine s_g (fun _ => ?_) (fun _ => ?_) <;> (first | (exfalso; omega) | contradiction | skip))) | refine s_rdp ?_ | refine s_rdm ?_ | refine s_exq ?_ | refine s_exm ?_ | refine s_sks ?_ | refine s_skn ?_ | (refine s_g (fun _ => ?_) (fun _ => ?_) <;> (first | (exfalso; omega) | contradiction | skip))) | (show Ex _ _ _ _ _; first | (show Ex _ ⟨_, .convert _ _ _, _, _, _, _⟩ _ _ _; refine e_mark ?_) | (show Ex _ ⟨_, .call ⟨.builtin .append, _, _⟩, _, _, _, _⟩ _ _ _; (first | refine e_append ?_ | refine e_appendIn ?_); intro _ _ _)) | (show wpC _ _ _ _ _ _; first | refine wpC_seq ?_ | refine wpC_region ?_ | refine c_true ?_ | refine c_false ?_ | (refine c_b (fun _ => ?_) (fun _ => ?_) <;> (first | (exfalso; omega) | contradiction | skip)) | refine wpC_ret ?_ | refine wpC_skip ?_ | refine wpC_label ?_) | (show Then _ _ _ _ _ _ _; first | refine then_normal ?_ | refine then_ret ?_) | (show RetP _ _ _ _ _ _ _ _; first | refine r_3 ?_))
            all_goals first | exact q_drop hk | (exfalso; omega) | trace_state
end Go.Vl

/-
  The document's checkpoint's bytes.
-/
namespace Go.Vl
open Go.Proofs
def encP (slot : Int) (data : List UInt8) : List UInt8 × Int :=
  if slot < 0 ∨ 1099511627776 < slot then ([], 1) else if 524288 < data.length then ([], 3) else (frameP (vb (zz slot) ++ lenB data), 0)
def decP (b : List UInt8) : Int × List UInt8 × Int :=
  let u := unframeP b
  if u.2.2 ≠ 0 ∨ u.2.1 < b.length then (0, [], 60) else
  let p := parseP u.1 0 0
  if p.2.2 ≠ 0 then (0, [], 60) else
  let q := pbytesP (u.1.drop p.2.1)
  if q.2.2 ≠ 0 ∨ p.2.1 + q.2.1 < u.1.length ∨ p.1 < 0 ∨ 1099511627776 < p.1 ∨ 524288 < q.1.length then (0, [], 60) else (p.1, q.1, 0)
set_option maxHeartbeats 4000000 in
set_option maxRecDepth 100000 in
theorem enc_len {slot : Int} {data : List UInt8} (h1 : 0 ≤ slot) (h2 : slot ≤ 1099511627776) (h3 : data.length ≤ 524288) : (vb (zz slot) ++ lenB data).length ≤ 1048576 := by
  have h4 := vb_len10 (zz_lt (n := slot) (by omega) (by omega))
  have h5 := lenB_len (bs := data) (by omega)
  rw [List.length_append]
  omega
set_option maxHeartbeats 4000000 in
set_option maxRecDepth 100000 in
theorem unframe_len (b : List UInt8) : (unframeP b).1.length ≤ b.length := by
  unfold unframeP
  simp only
  split
  · exact Nat.zero_le _
  · split
    · exact Nat.zero_le _
    · split
      · exact Nat.zero_le _
      · split
        · exact Nat.zero_le _
        · split
          · exact Nat.zero_le _
          · rw [List.length_drop, List.length_take]; omega
set_option maxHeartbeats 4000000 in
set_option maxRecDepth 100000 in
theorem pbytes_le (bs : List UInt8) : (pbytesP bs).2.1 ≤ bs.length := by
  have hle := parse_le bs 0 0
  unfold pbytesP
  simp only
  split
  · exact Nat.zero_le _
  · split
    · exact Nat.zero_le _
    · split
      · exact Nat.zero_le _
      · show (parseP bs 0 0).2.1 + (parseP bs 0 0).1.toNat ≤ bs.length
        omega
set_option maxHeartbeats 4000000 in
set_option maxRecDepth 100000 in
theorem bytIn {v : Value} {bs : List UInt8} {B : Hp} (h : BytO v bs B) : InSl B 1 (bs.map byC) v := SlO.inB (by rw [List.length_map]; exact h) (fun r hr => by obtain ⟨u, _, rfl⟩ := List.mem_map.1 hr; exact ⟨rfl, rfl⟩)
attribute [local irreducible] wpC wpO wpD Ex Rd callsK RetP Drop valK
set_option maxHeartbeats 4000000 in
set_option maxRecDepth 100000 in
theorem rencode_spec (e : World) {slot : Int} {bs : List UInt8} {v : Value} {Bs F : Hp} {K : Value → Hp → Prop} (hin : InSl Bs 1 (bs.map byC) v) (hl : bs.length ≤ 140737488355000)
    (hK : ∀ v' B', BytO v' (encP slot bs).1 B' → K (.tuple #[v', .int .i64 (encP slot bs).2]) (B' ++ (Bs ++ F))) : callsK Try.prog e 40 #[.int .i64 slot, v] (Bs ++ F) K := by
  have hin0 := hin
  obtain ⟨av, cv, rfl, _⟩ := hin0
  have hml : (bs.map byC).length = bs.length := List.length_map _
  rw [hml] at hin ⊢
  have hno : BytO (.slice none 0 0) [] [] := SlO.nil 5 1
  unfold encP at hK
  refine calls_body (N := 23) (args := [.int .i64 slot, .slice av bs.length cv]) Try.func40 rfl rfl rfl (by simp) ?_
  by_cases h1 : slot < 0 ∨ 1099511627776 < slot
  · rw [if_pos h1] at hK
    repeat' (first | (show wpO _ _ _ _ _ _ _; first | refine wpO_nil ?_ | (show wpO _ _ _ (⟨_, .binOp _ _ _ _ _, _, _, _, _⟩ :: _) _ _ _; first | refine s_tt ?_ | refine s_ff ?_ | refine s_rdp ?_ | (refine s_cmp (fun _ => ?_) (fun _ => ?_) <;> (first | (exfalso; omega) | contradiction | skip)) | (refine s_cb (fun _ => ?_) (fun _ => ?_) <;> (first | (exfalso; omega) | contradiction | skip)) | refine s_sks ?_ | (refine s_g (fun _ => ?_) (fun _ => ?_) <;> (first | (exfalso; omega) | contradiction | skip))) | (show wpO _ _ _ (⟨_, .pick _ _ _, _, _, _, _⟩ :: _) _ _ _; first | refine s_rdp ?_ | (refine s_p (fun _ => ?_) (fun _ => ?_) <;> (first | (exfalso; omega) | contradiction | skip)) | refine s_sks ?_ | (refine s_g (fun _ => ?_) (fun _ => ?_) <;> (first | (exfalso; omega) | contradiction | skip))) | refine s_rdp ?_ | refine s_rdm ?_ | refine s_exq ?_ | refine s_exm ?_ | refine s_sks ?_ | refine s_skn ?_ | (refine s_g (fun _ => ?_) (fun _ => ?_) <;> (first | (exfalso; omega) | contradiction | skip))) | (show Ex _ _ _ _ _; first | (show Ex _ ⟨_, .call ⟨.builtin .append, _, _⟩, _, _, _, _⟩ _ _ _; (first | refine e_append ?_ | refine e_appendIn ?_); intro _ _ _)) | (show wpC _ _ _ _ _ _; first | refine wpC_seq ?_ | refine wpC_region ?_ | refine c_true ?_ | refine c_false ?_ | (refine c_b (fun _ => ?_) (fun _ => ?_) <;> (first | (exfalso; omega) | contradiction | skip)) | refine wpC_ret ?_ | refine wpC_skip ?_ | refine wpC_label ?_) | (show Then _ _ _ _ _ _ _; first | refine then_normal ?_ | refine then_ret ?_) | (show RetP _ _ _ _ _ _ _ _; first | refine r_2 ?_))
    all_goals first | exact q_drop (hK _ _ hno) | (exfalso; omega) | trace_state
  · rw [if_neg h1] at hK
    by_cases h2 : 524288 < bs.length
    · rw [if_pos h2] at hK
      repeat' (first | (show wpO _ _ _ _ _ _ _; first | refine wpO_nil ?_ | (show wpO _ _ _ (⟨_, .binOp _ _ _ _ _, _, _, _, _⟩ :: _) _ _ _; first | refine s_tt ?_ | refine s_ff ?_ | refine s_rdp ?_ | (refine s_cmp (fun _ => ?_) (fun _ => ?_) <;> (first | (exfalso; omega) | contradiction | skip)) | (refine s_cb (fun _ => ?_) (fun _ => ?_) <;> (first | (exfalso; omega) | contradiction | skip)) | refine s_sks ?_ | (refine s_g (fun _ => ?_) (fun _ => ?_) <;> (first | (exfalso; omega) | contradiction | skip))) | (show wpO _ _ _ (⟨_, .pick _ _ _, _, _, _, _⟩ :: _) _ _ _; first | refine s_rdp ?_ | (refine s_p (fun _ => ?_) (fun _ => ?_) <;> (first | (exfalso; omega) | contradiction | skip)) | refine s_sks ?_ | (refine s_g (fun _ => ?_) (fun _ => ?_) <;> (first | (exfalso; omega) | contradiction | skip))) | refine s_rdp ?_ | refine s_rdm ?_ | refine s_exq ?_ | refine s_exm ?_ | refine s_sks ?_ | refine s_skn ?_ | (refine s_g (fun _ => ?_) (fun _ => ?_) <;> (first | (exfalso; omega) | contradiction | skip))) | (show Ex _ _ _ _ _; first | (show Ex _ ⟨_, .call ⟨.builtin .append, _, _⟩, _, _, _, _⟩ _ _ _; (first | refine e_append ?_ | refine e_appendIn ?_); intro _ _ _)) | (show wpC _ _ _ _ _ _; first | refine wpC_seq ?_ | refine wpC_region ?_ | refine c_true ?_ | refine c_false ?_ | (refine c_b (fun _ => ?_) (fun _ => ?_) <;> (first | (exfalso; omega) | contradiction | skip)) | refine wpC_ret ?_ | refine wpC_skip ?_ | refine wpC_label ?_) | (show Then _ _ _ _ _ _ _; first | refine then_normal ?_ | refine then_ret ?_) | (show RetP _ _ _ _ _ _ _ _; first | refine r_2 ?_))
      all_goals first | exact q_drop (hK _ _ hno) | (exfalso; omega) | trace_state
    · rw [if_neg h2] at hK
      have hel := enc_len (slot := slot) (data := bs) (by omega) (by omega) (by omega)
      have hlb := lenB_len (bs := bs) (by omega)
      have hvb := vb_len10 (zz_lt (n := slot) (by omega) (by omega))
      clear hno
      repeat' ((fail_if_success (show wpO _ _ _ (⟨some 19, _, _, _, _, _⟩ :: _) _ _ _)); first | (show wpO _ _ _ _ _ _ _; first | refine wpO_nil ?_ | (show wpO _ _ _ (⟨_, .binOp _ _ _ _ _, _, _, _, _⟩ :: _) _ _ _; first | refine s_tt ?_ | refine s_ff ?_ | refine s_rdp ?_ | (refine s_cmp (fun _ => ?_) (fun _ => ?_) <;> (first | (exfalso; omega) | contradiction | skip)) | (refine s_cb (fun _ => ?_) (fun _ => ?_) <;> (first | (exfalso; omega) | contradiction | skip)) | refine s_sks ?_ | (refine s_g (fun _ => ?_) (fun _ => ?_) <;> (first | (exfalso; omega) | contradiction | skip))) | (show wpO _ _ _ (⟨_, .pick _ _ _, _, _, _, _⟩ :: _) _ _ _; first | refine s_rdp ?_ | (refine s_p (fun _ => ?_) (fun _ => ?_) <;> (first | (exfalso; omega) | contradiction | skip)) | refine s_sks ?_ | (refine s_g (fun _ => ?_) (fun _ => ?_) <;> (first | (exfalso; omega) | contradiction | skip))) | refine s_rdp ?_ | refine s_rdm ?_ | refine s_exq ?_ | refine s_exm ?_ | refine s_sks ?_ | refine s_skn ?_ | (refine s_g (fun _ => ?_) (fun _ => ?_) <;> (first | (exfalso; omega) | contradiction | skip))) | (show Ex _ _ _ _ _; first | (show Ex _ ⟨_, .call ⟨.value (.func _), _, _⟩, _, _, _, _⟩ _ _ _; refine e_call ?_; first | (apply rint_spec _ (by omega) (by omega)) | (apply p_pcs; apply rbytes_spec _ hin hl; (try case hS => assumption); (case hpcs => (repeat (first | exact Pcs.blk (by infer_instance) | exact Pcs.nil | (apply Pcs.cons; infer_instance) | apply Pcs.app))))) | (show Ex _ ⟨_, .call ⟨.builtin .append, _, _⟩, _, _, _, _⟩ _ _ _; (first | refine e_append ?_ | refine e_appendIn ?_); intro _ _ _)) | (show wpC _ _ _ _ _ _; first | refine wpC_seq ?_ | refine wpC_region ?_ | refine c_true ?_ | refine c_false ?_ | (refine c_b (fun _ => ?_) (fun _ => ?_) <;> (first | (exfalso; omega) | contradiction | skip)) | refine wpC_ret ?_ | refine wpC_skip ?_ | refine wpC_label ?_) | (show Then _ _ _ _ _ _ _; first | refine then_normal ?_ | refine then_ret ?_) | (show RetP _ _ _ _ _ _ _ _; first | refine r_2 ?_) | assumption | intro _)
      all_goals first | (exfalso; omega) | skip
      rename_i v1 B1 h3 v2 B2 h4
      have h5 := bytIn h4
      repeat' ((fail_if_success (show wpO _ _ _ (⟨some 20, _, _, _, _, _⟩ :: _) _ _ _)); first | (show wpO _ _ _ _ _ _ _; first | refine wpO_nil ?_ | (show wpO _ _ _ (⟨_, .binOp _ _ _ _ _, _, _, _, _⟩ :: _) _ _ _; first | refine s_tt ?_ | refine s_ff ?_ | refine s_rdp ?_ | (refine s_cmp (fun _ => ?_) (fun _ => ?_) <;> (first | (exfalso; omega) | contradiction | skip)) | (refine s_cb (fun _ => ?_) (fun _ => ?_) <;> (first | (exfalso; omega) | contradiction | skip)) | refine s_sks ?_ | (refine s_g (fun _ => ?_) (fun _ => ?_) <;> (first | (exfalso; omega) | contradiction | skip))) | (show wpO _ _ _ (⟨_, .pick _ _ _, _, _, _, _⟩ :: _) _ _ _; first | refine s_rdp ?_ | (refine s_p (fun _ => ?_) (fun _ => ?_) <;> (first | (exfalso; omega) | contradiction | skip)) | refine s_sks ?_ | (refine s_g (fun _ => ?_) (fun _ => ?_) <;> (first | (exfalso; omega) | contradiction | skip))) | refine s_rdp ?_ | refine s_rdm ?_ | refine s_exq ?_ | refine s_exm ?_ | refine s_sks ?_ | refine s_skn ?_ | (refine s_g (fun _ => ?_) (fun _ => ?_) <;> (first | (exfalso; omega) | contradiction | skip))) | (show Ex _ _ _ _ _; first | (show Ex _ ⟨_, .call ⟨.builtin .append, _, _⟩, _, _, _, _⟩ _ _ _; (first | refine e_append ?_ | refine e_appendIn ?_); intro _ _ _)) | (show wpC _ _ _ _ _ _; first | refine wpC_seq ?_ | refine wpC_region ?_ | refine c_true ?_ | refine c_false ?_ | (refine c_b (fun _ => ?_) (fun _ => ?_) <;> (first | (exfalso; omega) | contradiction | skip)) | refine wpC_ret ?_ | refine wpC_skip ?_ | refine wpC_label ?_) | (show Then _ _ _ _ _ _ _; first | refine then_normal ?_ | refine then_ret ?_) | (show RetP _ _ _ _ _ _ _ _; first | refine r_2 ?_))
      rename_i v3 B3 h6
      have h7 : BytO v3 (vb (zz slot) ++ lenB bs) B3 := h6.cast (by simp) (by simp)
      have h8 := bytIn h7
      have h9 : (vb (zz slot) ++ lenB bs).length ≤ 140737488355000 := by omega
      clear h6
      repeat' (first | (show wpO _ _ _ _ _ _ _; first | refine wpO_nil ?_ | (show wpO _ _ _ (⟨_, .binOp _ _ _ _ _, _, _, _, _⟩ :: _) _ _ _; first | refine s_tt ?_ | refine s_ff ?_ | refine s_rdp ?_ | (refine s_cmp (fun _ => ?_) (fun _ => ?_) <;> (first | (exfalso; omega) | contradiction | skip)) | (refine s_cb (fun _ => ?_) (fun _ => ?_) <;> (first | (exfalso; omega) | contradiction | skip)) | refine s_sks ?_ | (refine s_g (fun _ => ?_) (fun _ => ?_) <;> (first | (exfalso; omega) | contradiction | skip))) | (show wpO _ _ _ (⟨_, .pick _ _ _, _, _, _, _⟩ :: _) _ _ _; first | refine s_rdp ?_ | (refine s_p (fun _ => ?_) (fun _ => ?_) <;> (first | (exfalso; omega) | contradiction | skip)) | refine s_sks ?_ | (refine s_g (fun _ => ?_) (fun _ => ?_) <;> (first | (exfalso; omega) | contradiction | skip))) | refine s_rdp ?_ | refine s_rdm ?_ | refine s_exq ?_ | refine s_exm ?_ | refine s_sks ?_ | refine s_skn ?_ | (refine s_g (fun _ => ?_) (fun _ => ?_) <;> (first | (exfalso; omega) | contradiction | skip))) | (show Ex _ _ _ _ _; first | (show Ex _ ⟨_, .call ⟨.value (.func _), _, _⟩, _, _, _, _⟩ _ _ _; refine e_call ?_; first | (apply p_pcs; apply rframe_spec _ h8 h9; (try case hS => assumption); (case hpcs => (repeat (first | exact Pcs.blk (by infer_instance) | exact Pcs.nil | (apply Pcs.cons; infer_instance) | apply Pcs.app))))) | (show Ex _ ⟨_, .call ⟨.builtin .append, _, _⟩, _, _, _, _⟩ _ _ _; (first | refine e_append ?_ | refine e_appendIn ?_); intro _ _ _)) | (show wpC _ _ _ _ _ _; first | refine wpC_seq ?_ | refine wpC_region ?_ | refine c_true ?_ | refine c_false ?_ | (refine c_b (fun _ => ?_) (fun _ => ?_) <;> (first | (exfalso; omega) | contradiction | skip)) | refine wpC_ret ?_ | refine wpC_skip ?_ | refine wpC_label ?_) | (show Then _ _ _ _ _ _ _; first | refine then_normal ?_ | refine then_ret ?_) | (show RetP _ _ _ _ _ _ _ _; first | refine r_2 ?_) | assumption | intro _)
      all_goals first
        | (exfalso; omega)
        | (rename_i v4 B4 h10
           exact q_drop (hK v4 B4 h10))
        | trace_state
set_option maxHeartbeats 4000000 in
set_option maxRecDepth 100000 in
theorem rdecode_spec (e : World) {bs : List UInt8} {v : Value} {Bs F : Hp} {K : Value → Hp → Prop} (hin : InSl Bs 1 (bs.map byC) v) (hl : bs.length ≤ 140737488355000)
    (hK : ∀ v' B', BytO v' (decP bs).2.1 B' → K (.tuple #[.int .i64 (decP bs).1, v', .int .i64 (decP bs).2.2]) (B' ++ (Bs ++ F))) : callsK Try.prog e 44 #[v] (Bs ++ F) K := by
  have hin0 := hin
  obtain ⟨av, cv, rfl, _⟩ := hin0
  have hml : (bs.map byC).length = bs.length := List.length_map _
  rw [hml] at hin ⊢
  have hno : BytO (.slice none 0 0) [] [] := SlO.nil 5 1
  have hul := unframe_len bs
  unfold decP at hK
  simp only at hK
  refine calls_body (N := 67) (args := [.slice av bs.length cv]) Try.func44 rfl rfl rfl (by simp) ?_
  repeat' ((fail_if_success (show wpC _ (.seq (.seq (.region 2 _ _) _) _) _ _ _ _)); first | (show wpO _ _ _ _ _ _ _; first | refine wpO_nil ?_ | (show wpO _ _ _ (⟨_, .binOp _ _ _ _ _, _, _, _, _⟩ :: _) _ _ _; first | refine s_tt ?_ | refine s_ff ?_ | refine s_rdp ?_ | (refine s_cmp (fun _ => ?_) (fun _ => ?_) <;> (first | (exfalso; omega) | contradiction | skip)) | (refine s_cb (fun _ => ?_) (fun _ => ?_) <;> (first | (exfalso; omega) | contradiction | skip)) | refine s_sks ?_ | (refine s_g (fun _ => ?_) (fun _ => ?_) <;> (first | (exfalso; omega) | contradiction | skip))) | (show wpO _ _ _ (⟨_, .slice _ _ _ _ _, _, _, _, _⟩ :: _) _ _ _; first | refine s_rdp ?_ | refine s_sliceHiT (fun _ _ => ?_) | refine s_clipO (fun _ _ => ?_) | refine s_sliceHi (fun _ _ => ?_) | refine s_sliceLo (fun _ _ => ?_) | refine s_sks ?_ | (refine s_g (fun _ => ?_) (fun _ => ?_) <;> (first | (exfalso; omega) | contradiction | skip))) | (show wpO _ _ _ (⟨_, .pick _ _ _, _, _, _, _⟩ :: _) _ _ _; first | refine s_rdp ?_ | (refine s_p (fun _ => ?_) (fun _ => ?_) <;> (first | (exfalso; omega) | contradiction | skip)) | refine s_sks ?_ | (refine s_g (fun _ => ?_) (fun _ => ?_) <;> (first | (exfalso; omega) | contradiction | skip))) | refine s_rdp ?_ | refine s_rdm ?_ | refine s_exq ?_ | refine s_exm ?_ | refine s_sks ?_ | refine s_skn ?_ | (refine s_g (fun _ => ?_) (fun _ => ?_) <;> (first | (exfalso; omega) | contradiction | skip))) | (show Ex _ _ _ _ _; first | (show Ex _ ⟨_, .call ⟨.value (.func _), _, _⟩, _, _, _, _⟩ _ _ _; refine e_call ?_; first | (apply p_pcs; apply runframe_spec _ hin hl; (try case hS => assumption); (case hpcs => (repeat (first | exact Pcs.blk (by infer_instance) | exact Pcs.nil | (apply Pcs.cons; infer_instance) | apply Pcs.app)))))) | (show wpC _ _ _ _ _ _; first | refine wpC_seq ?_ | refine wpC_region ?_ | refine c_true ?_ | refine c_false ?_ | (refine c_b (fun _ => ?_) (fun _ => ?_) <;> (first | (exfalso; omega) | contradiction | skip)) | refine wpC_ret ?_ | refine wpC_skip ?_ | refine wpC_label ?_) | (show Then _ _ _ _ _ _ _; first | refine then_normal ?_ | refine then_ret ?_) | (show RetP _ _ _ _ _ _ _ _; first | refine r_3 ?_) | assumption | intro _)
  rename_i vx Bx hx
  generalize unframeP bs = u at *
  obtain ⟨x, n, er⟩ := u
  simp only at hK hul hx ⊢
  by_cases h1 : er ≠ 0 ∨ n < bs.length
  · rw [if_pos h1] at hK
    repeat' (first | (show wpO _ _ _ _ _ _ _; first | refine wpO_nil ?_ | (show wpO _ _ _ (⟨_, .binOp _ _ _ _ _, _, _, _, _⟩ :: _) _ _ _; first | refine s_tt ?_ | refine s_ff ?_ | refine s_rdp ?_ | (refine s_cmp (fun _ => ?_) (fun _ => ?_) <;> (first | (exfalso; omega) | contradiction | skip)) | (refine s_cb (fun _ => ?_) (fun _ => ?_) <;> (first | (exfalso; omega) | contradiction | skip)) | refine s_sks ?_ | (refine s_g (fun _ => ?_) (fun _ => ?_) <;> (first | (exfalso; omega) | contradiction | skip))) | (show wpO _ _ _ (⟨_, .slice _ _ _ _ _, _, _, _, _⟩ :: _) _ _ _; first | refine s_rdp ?_ | refine s_sliceHiT (fun _ _ => ?_) | refine s_clipO (fun _ _ => ?_) | refine s_sliceHi (fun _ _ => ?_) | refine s_sliceLo (fun _ _ => ?_) | refine s_sks ?_ | (refine s_g (fun _ => ?_) (fun _ => ?_) <;> (first | (exfalso; omega) | contradiction | skip))) | (show wpO _ _ _ (⟨_, .pick _ _ _, _, _, _, _⟩ :: _) _ _ _; first | refine s_rdp ?_ | (refine s_p (fun _ => ?_) (fun _ => ?_) <;> (first | (exfalso; omega) | contradiction | skip)) | refine s_sks ?_ | (refine s_g (fun _ => ?_) (fun _ => ?_) <;> (first | (exfalso; omega) | contradiction | skip))) | refine s_rdp ?_ | refine s_rdm ?_ | refine s_exq ?_ | refine s_exm ?_ | refine s_sks ?_ | refine s_skn ?_ | (refine s_g (fun _ => ?_) (fun _ => ?_) <;> (first | (exfalso; omega) | contradiction | skip))) | (show wpC _ _ _ _ _ _; first | refine wpC_seq ?_ | refine wpC_region ?_ | refine c_true ?_ | refine c_false ?_ | (refine c_b (fun _ => ?_) (fun _ => ?_) <;> (first | (exfalso; omega) | contradiction | skip)) | refine wpC_ret ?_ | refine wpC_skip ?_ | refine wpC_label ?_) | (show Then _ _ _ _ _ _ _; first | refine then_normal ?_ | refine then_ret ?_) | (show RetP _ _ _ _ _ _ _ _; first | refine r_3 ?_))
    all_goals first | exact q_drop (hK _ _ hno) | (exfalso; omega) | trace_state
  · rw [if_neg h1] at hK
    have hxi := bytIn hx
    have hxl : x.length ≤ 9223372036854775806 := by omega
    have hxl' : x.length ≤ 140737488355000 := by omega
    have hle := parse_le x 0 0
    repeat' ((fail_if_success (show wpC _ (.seq (.seq (.region 5 _ _) _) _) _ _ _ _)); first | (show wpO _ _ _ _ _ _ _; first | refine wpO_nil ?_ | (show wpO _ _ _ (⟨_, .binOp _ _ _ _ _, _, _, _, _⟩ :: _) _ _ _; first | refine s_tt ?_ | refine s_ff ?_ | refine s_rdp ?_ | (refine s_cmp (fun _ => ?_) (fun _ => ?_) <;> (first | (exfalso; omega) | contradiction | skip)) | (refine s_cb (fun _ => ?_) (fun _ => ?_) <;> (first | (exfalso; omega) | contradiction | skip)) | refine s_sks ?_ | (refine s_g (fun _ => ?_) (fun _ => ?_) <;> (first | (exfalso; omega) | contradiction | skip))) | (show wpO _ _ _ (⟨_, .slice _ _ _ _ _, _, _, _, _⟩ :: _) _ _ _; first | refine s_rdp ?_ | refine s_sliceHiT (fun _ _ => ?_) | refine s_clipO (fun _ _ => ?_) | refine s_sliceHi (fun _ _ => ?_) | refine s_sliceLo (fun _ _ => ?_) | refine s_sks ?_ | (refine s_g (fun _ => ?_) (fun _ => ?_) <;> (first | (exfalso; omega) | contradiction | skip))) | (show wpO _ _ _ (⟨_, .pick _ _ _, _, _, _, _⟩ :: _) _ _ _; first | refine s_rdp ?_ | (refine s_p (fun _ => ?_) (fun _ => ?_) <;> (first | (exfalso; omega) | contradiction | skip)) | refine s_sks ?_ | (refine s_g (fun _ => ?_) (fun _ => ?_) <;> (first | (exfalso; omega) | contradiction | skip))) | refine s_rdp ?_ | refine s_rdm ?_ | refine s_exq ?_ | refine s_exm ?_ | refine s_sks ?_ | refine s_skn ?_ | (refine s_g (fun _ => ?_) (fun _ => ?_) <;> (first | (exfalso; omega) | contradiction | skip))) | (show Ex _ _ _ _ _; first | (show Ex _ ⟨_, .call ⟨.value (.func _), _, _⟩, _, _, _, _⟩ _ _ _; refine e_call ?_; first | (apply p_pcs; apply rparse_spec _ hxi hxl; (try case hS => assumption); (case hpcs => (repeat (first | exact Pcs.blk (by infer_instance) | exact Pcs.nil | (apply Pcs.cons; infer_instance) | apply Pcs.app)))))) | (show wpC _ _ _ _ _ _; first | refine wpC_seq ?_ | refine wpC_region ?_ | refine c_true ?_ | refine c_false ?_ | (refine c_b (fun _ => ?_) (fun _ => ?_) <;> (first | (exfalso; omega) | contradiction | skip)) | refine wpC_ret ?_ | refine wpC_skip ?_ | refine wpC_label ?_) | (show Then _ _ _ _ _ _ _; first | refine then_normal ?_ | refine then_ret ?_) | (show RetP _ _ _ _ _ _ _ _; first | refine r_3 ?_) | assumption | intro _)
    generalize parseP x 0 0 = p at *
    obtain ⟨slot, k, er2⟩ := p
    simp only at hK hle ⊢
    by_cases h2 : er2 ≠ 0
    · rw [if_pos h2] at hK
      repeat' (first | (show wpO _ _ _ _ _ _ _; first | refine wpO_nil ?_ | (show wpO _ _ _ (⟨_, .binOp _ _ _ _ _, _, _, _, _⟩ :: _) _ _ _; first | refine s_tt ?_ | refine s_ff ?_ | refine s_rdp ?_ | (refine s_cmp (fun _ => ?_) (fun _ => ?_) <;> (first | (exfalso; omega) | contradiction | skip)) | (refine s_cb (fun _ => ?_) (fun _ => ?_) <;> (first | (exfalso; omega) | contradiction | skip)) | refine s_sks ?_ | (refine s_g (fun _ => ?_) (fun _ => ?_) <;> (first | (exfalso; omega) | contradiction | skip))) | (show wpO _ _ _ (⟨_, .slice _ _ _ _ _, _, _, _, _⟩ :: _) _ _ _; first | refine s_rdp ?_ | refine s_sliceHiT (fun _ _ => ?_) | refine s_clipO (fun _ _ => ?_) | refine s_sliceHi (fun _ _ => ?_) | refine s_sliceLo (fun _ _ => ?_) | refine s_sks ?_ | (refine s_g (fun _ => ?_) (fun _ => ?_) <;> (first | (exfalso; omega) | contradiction | skip))) | (show wpO _ _ _ (⟨_, .pick _ _ _, _, _, _, _⟩ :: _) _ _ _; first | refine s_rdp ?_ | (refine s_p (fun _ => ?_) (fun _ => ?_) <;> (first | (exfalso; omega) | contradiction | skip)) | refine s_sks ?_ | (refine s_g (fun _ => ?_) (fun _ => ?_) <;> (first | (exfalso; omega) | contradiction | skip))) | refine s_rdp ?_ | refine s_rdm ?_ | refine s_exq ?_ | refine s_exm ?_ | refine s_sks ?_ | refine s_skn ?_ | (refine s_g (fun _ => ?_) (fun _ => ?_) <;> (first | (exfalso; omega) | contradiction | skip))) | (show wpC _ _ _ _ _ _; first | refine wpC_seq ?_ | refine wpC_region ?_ | refine c_true ?_ | refine c_false ?_ | (refine c_b (fun _ => ?_) (fun _ => ?_) <;> (first | (exfalso; omega) | contradiction | skip)) | refine wpC_ret ?_ | refine wpC_skip ?_ | refine wpC_label ?_) | (show Then _ _ _ _ _ _ _; first | refine then_normal ?_ | refine then_ret ?_) | (show RetP _ _ _ _ _ _ _ _; first | refine r_3 ?_))
      all_goals first | exact q_drop (hK _ _ hno) | (exfalso; omega) | trace_state
    · rw [if_neg h2] at hK
      repeat' ((fail_if_success (show wpO _ _ _ (⟨some 38, _, _, _, _, _⟩ :: _) _ _ _)); first | (refine s_sliceLo (hin := hxi) (k := k) (fun _ _ => ?_)) | (show wpO _ _ _ _ _ _ _; first | refine wpO_nil ?_ | (show wpO _ _ _ (⟨_, .binOp _ _ _ _ _, _, _, _, _⟩ :: _) _ _ _; first | refine s_tt ?_ | refine s_ff ?_ | refine s_rdp ?_ | (refine s_cmp (fun _ => ?_) (fun _ => ?_) <;> (first | (exfalso; omega) | contradiction | skip)) | (refine s_cb (fun _ => ?_) (fun _ => ?_) <;> (first | (exfalso; omega) | contradiction | skip)) | refine s_sks ?_ | (refine s_g (fun _ => ?_) (fun _ => ?_) <;> (first | (exfalso; omega) | contradiction | skip))) | (show wpO _ _ _ (⟨_, .slice _ _ _ _ _, _, _, _, _⟩ :: _) _ _ _; first | refine s_rdp ?_ | refine s_sliceHiT (fun _ _ => ?_) | refine s_clipO (fun _ _ => ?_) | refine s_sliceHi (fun _ _ => ?_) | refine s_sliceLo (fun _ _ => ?_) | refine s_sks ?_ | (refine s_g (fun _ => ?_) (fun _ => ?_) <;> (first | (exfalso; omega) | contradiction | skip))) | (show wpO _ _ _ (⟨_, .pick _ _ _, _, _, _, _⟩ :: _) _ _ _; first | refine s_rdp ?_ | (refine s_p (fun _ => ?_) (fun _ => ?_) <;> (first | (exfalso; omega) | contradiction | skip)) | refine s_sks ?_ | (refine s_g (fun _ => ?_) (fun _ => ?_) <;> (first | (exfalso; omega) | contradiction | skip))) | refine s_rdp ?_ | refine s_rdm ?_ | refine s_exq ?_ | refine s_exm ?_ | refine s_sks ?_ | refine s_skn ?_ | (refine s_g (fun _ => ?_) (fun _ => ?_) <;> (first | (exfalso; omega) | contradiction | skip))) | (show wpC _ _ _ _ _ _; first | refine wpC_seq ?_ | refine wpC_region ?_ | refine c_true ?_ | refine c_false ?_ | (refine c_b (fun _ => ?_) (fun _ => ?_) <;> (first | (exfalso; omega) | contradiction | skip)) | refine wpC_ret ?_ | refine wpC_skip ?_ | refine wpC_label ?_) | (show Then _ _ _ _ _ _ _; first | refine then_normal ?_ | refine then_ret ?_) | (show RetP _ _ _ _ _ _ _ _; first | refine r_3 ?_))
      all_goals first | (exfalso; omega) | skip
      rename_i v3 h3
      have h4 : (x.drop k).length ≤ 140737488355000 := by rw [List.length_drop]; omega
      repeat' ((fail_if_success (show wpC _ (.seq (.seq (.region 8 _ _) _) _) _ _ _ _)); first | (show wpO _ _ _ _ _ _ _; first | refine wpO_nil ?_ | (show wpO _ _ _ (⟨_, .binOp _ _ _ _ _, _, _, _, _⟩ :: _) _ _ _; first | refine s_tt ?_ | refine s_ff ?_ | refine s_rdp ?_ | (refine s_cmp (fun _ => ?_) (fun _ => ?_) <;> (first | (exfalso; omega) | contradiction | skip)) | (refine s_cb (fun _ => ?_) (fun _ => ?_) <;> (first | (exfalso; omega) | contradiction | skip)) | refine s_sks ?_ | (refine s_g (fun _ => ?_) (fun _ => ?_) <;> (first | (exfalso; omega) | contradiction | skip))) | (show wpO _ _ _ (⟨_, .slice _ _ _ _ _, _, _, _, _⟩ :: _) _ _ _; first | refine s_rdp ?_ | refine s_sliceHiT (fun _ _ => ?_) | refine s_clipO (fun _ _ => ?_) | refine s_sliceHi (fun _ _ => ?_) | refine s_sliceLo (fun _ _ => ?_) | refine s_sks ?_ | (refine s_g (fun _ => ?_) (fun _ => ?_) <;> (first | (exfalso; omega) | contradiction | skip))) | (show wpO _ _ _ (⟨_, .pick _ _ _, _, _, _, _⟩ :: _) _ _ _; first | refine s_rdp ?_ | (refine s_p (fun _ => ?_) (fun _ => ?_) <;> (first | (exfalso; omega) | contradiction | skip)) | refine s_sks ?_ | (refine s_g (fun _ => ?_) (fun _ => ?_) <;> (first | (exfalso; omega) | contradiction | skip))) | refine s_rdp ?_ | refine s_rdm ?_ | refine s_exq ?_ | refine s_exm ?_ | refine s_sks ?_ | refine s_skn ?_ | (refine s_g (fun _ => ?_) (fun _ => ?_) <;> (first | (exfalso; omega) | contradiction | skip))) | (show Ex _ _ _ _ _; first | (show Ex _ ⟨_, .call ⟨.value (.func _), _, _⟩, _, _, _, _⟩ _ _ _; refine e_call ?_; first | (apply p_pcs; apply rpbytes_spec _ h3 h4; (try case hS => assumption); (case hpcs => (repeat (first | exact Pcs.blk (by infer_instance) | exact Pcs.nil | (apply Pcs.cons; infer_instance) | apply Pcs.app)))))) | (show wpC _ _ _ _ _ _; first | refine wpC_seq ?_ | refine wpC_region ?_ | refine c_true ?_ | refine c_false ?_ | (refine c_b (fun _ => ?_) (fun _ => ?_) <;> (first | (exfalso; omega) | contradiction | skip)) | refine wpC_ret ?_ | refine wpC_skip ?_ | refine wpC_label ?_) | (show Then _ _ _ _ _ _ _; first | refine then_normal ?_ | refine then_ret ?_) | (show RetP _ _ _ _ _ _ _ _; first | refine r_3 ?_) | assumption | intro _)
      rename_i v5 B5 h5
      have hpb := pbytes_le (x.drop k)
      generalize pbytesP (x.drop k) = q at *
      obtain ⟨data, m, er3⟩ := q
      simp only at hK h5 hpb ⊢
      have hkm : k + m ≤ 140737488355000 := by rw [List.length_drop] at hpb; omega
      clear hpb
      obtain ⟨a5, c5, hv5⟩ := SlO.val h5
      subst hv5
      have h5' := bytIn h5
      by_cases h6 : er3 ≠ 0 ∨ k + m < x.length ∨ slot < 0 ∨ 1099511627776 < slot ∨ 524288 < data.length
      · rw [if_pos h6] at hK
        have hk := hK _ _ hno
        clear hK hno
        repeat' (first | (show wpO _ _ _ _ _ _ _; first | refine wpO_nil ?_ | (show wpO _ _ _ (⟨_, .binOp _ _ _ _ _, _, _, _, _⟩ :: _) _ _ _; first | refine s_tt ?_ | refine s_ff ?_ | refine s_rdp ?_ | (refine s_cmp (fun _ => ?_) (fun _ => ?_) <;> (first | (exfalso; omega) | contradiction | skip)) | (refine s_cb (fun _ => ?_) (fun _ => ?_) <;> (first | (exfalso; omega) | contradiction | skip)) | refine s_sks ?_ | (refine s_g (fun _ => ?_) (fun _ => ?_) <;> (first | (exfalso; omega) | contradiction | skip))) | (show wpO _ _ _ (⟨_, .slice _ _ _ _ _, _, _, _, _⟩ :: _) _ _ _; first | refine s_rdp ?_ | refine s_sliceHiT (fun _ _ => ?_) | refine s_clipO (fun _ _ => ?_) | refine s_sliceHi (fun _ _ => ?_) | refine s_sliceLo (fun _ _ => ?_) | refine s_sks ?_ | (refine s_g (fun _ => ?_) (fun _ => ?_) <;> (first | (exfalso; omega) | contradiction | skip))) | (show wpO _ _ _ (⟨_, .pick _ _ _, _, _, _, _⟩ :: _) _ _ _; first | refine s_rdp ?_ | (refine s_p (fun _ => ?_) (fun _ => ?_) <;> (first | (exfalso; omega) | contradiction | skip)) | refine s_sks ?_ | (refine s_g (fun _ => ?_) (fun _ => ?_) <;> (first | (exfalso; omega) | contradiction | skip))) | refine s_rdp ?_ | refine s_rdm ?_ | refine s_exq ?_ | refine s_exm ?_ | refine s_sks ?_ | refine s_skn ?_ | (refine s_g (fun _ => ?_) (fun _ => ?_) <;> (first | (exfalso; omega) | contradiction | skip))) | (show wpC _ _ _ _ _ _; first | refine wpC_seq ?_ | refine wpC_region ?_ | refine c_true ?_ | refine c_false ?_ | (refine c_b (fun _ => ?_) (fun _ => ?_) <;> (first | (exfalso; omega) | contradiction | skip)) | refine wpC_ret ?_ | refine wpC_skip ?_ | refine wpC_label ?_) | (show Then _ _ _ _ _ _ _; first | refine then_normal ?_ | refine then_ret ?_) | (show RetP _ _ _ _ _ _ _ _; first | refine r_3 ?_))
        all_goals first | exact q_drop hk | (exfalso; omega) | trace_state
      · rw [if_neg h6] at hK
        have hk := hK _ _ h5
        clear hK hno
        repeat' (first | (show wpO _ _ _ _ _ _ _; first | refine wpO_nil ?_ | (show wpO _ _ _ (⟨_, .binOp _ _ _ _ _, _, _, _, _⟩ :: _) _ _ _; first | refine s_tt ?_ | refine s_ff ?_ | refine s_rdp ?_ | (refine s_cmp (fun _ => ?_) (fun _ => ?_) <;> (first | (exfalso; omega) | contradiction | skip)) | (refine s_cb (fun _ => ?_) (fun _ => ?_) <;> (first | (exfalso; omega) | contradiction | skip)) | refine s_sks ?_ | (refine s_g (fun _ => ?_) (fun _ => ?_) <;> (first | (exfalso; omega) | contradiction | skip))) | (show wpO _ _ _ (⟨_, .slice _ _ _ _ _, _, _, _, _⟩ :: _) _ _ _; first | refine s_rdp ?_ | refine s_sliceHiT (fun _ _ => ?_) | refine s_clipO (fun _ _ => ?_) | refine s_sliceHi (fun _ _ => ?_) | refine s_sliceLo (fun _ _ => ?_) | refine s_sks ?_ | (refine s_g (fun _ => ?_) (fun _ => ?_) <;> (first | (exfalso; omega) | contradiction | skip))) | (show wpO _ _ _ (⟨_, .pick _ _ _, _, _, _, _⟩ :: _) _ _ _; first | refine s_rdp ?_ | (refine s_p (fun _ => ?_) (fun _ => ?_) <;> (first | (exfalso; omega) | contradiction | skip)) | refine s_sks ?_ | (refine s_g (fun _ => ?_) (fun _ => ?_) <;> (first | (exfalso; omega) | contradiction | skip))) | refine s_rdp ?_ | refine s_rdm ?_ | refine s_exq ?_ | refine s_exm ?_ | refine s_sks ?_ | refine s_skn ?_ | (refine s_g (fun _ => ?_) (fun _ => ?_) <;> (first | (exfalso; omega) | contradiction | skip))) | (show wpC _ _ _ _ _ _; first | refine wpC_seq ?_ | refine wpC_region ?_ | refine c_true ?_ | refine c_false ?_ | (refine c_b (fun _ => ?_) (fun _ => ?_) <;> (first | (exfalso; omega) | contradiction | skip)) | refine wpC_ret ?_ | refine wpC_skip ?_ | refine wpC_label ?_) | (show Then _ _ _ _ _ _ _; first | refine then_normal ?_ | refine then_ret ?_) | (show RetP _ _ _ _ _ _ _ _; first | refine r_3 ?_))
        all_goals first | exact q_drop hk | (exfalso; omega) | trace_state
end Go.Vl

/-
  The program's Concat, four, Frame.
-/
namespace Go.Vl
open Go.Proofs Go.RowKit
abbrev prC (p : Value × List UInt8) : List Value := [p.1]
def flB (ps : List (Value × List UInt8)) : List UInt8 := ps.flatMap fun p => p.2
set_option maxHeartbeats 4000000 in
set_option maxRecDepth 100000 in
theorem flB_take {ps : List (Value × List UInt8)} {k : Nat} {p : Value × List UInt8} (h : ps[k]? = some p) : flB (ps.take (k + 1)) = flB (ps.take k) ++ p.2 := by
  unfold flB
  rw [List.take_add_one, h, List.flatMap_append]
  simp
set_option maxHeartbeats 4000000 in
set_option maxRecDepth 100000 in
theorem inSl_valB {F : Hp} {bs : List UInt8} {v : Value} (h : InSl F 1 (bs.map byC) v) : ∃ a c, v = .slice a bs.length c := by
  obtain ⟨a, c, h1, _⟩ := h
  rw [List.length_map] at h1
  exact ⟨a, c, h1⟩
set_option maxHeartbeats 4000000 in
set_option maxRecDepth 100000 in
theorem flB_le (ps : List (Value × List UInt8)) (k : Nat) : (flB (ps.take k)).length ≤ (flB ps).length := by
  unfold flB
  conv => rhs; rw [← List.take_append_drop k ps, List.flatMap_append, List.length_append]
  omega
attribute [local irreducible] wpC wpO wpD Ex Rd callsK RetP Drop valK
set_option maxHeartbeats 4000000 in
set_option maxRecDepth 100000 in
theorem grow_spec (e : World) {n : Nat} {F : Hp} {K : Value → Hp → Prop} (hn : n ≤ 140737488355000) (hK : ∀ v' B', BytO v' [] B' → K v' (B' ++ F)) : callsK Try.prog e 119 #[.slice none 0 0, .int .i64 (n : Int)] F K := by
  refine calls_body (N := 27) (args := [.slice none 0 0, .int .i64 (n : Int)]) Try.func119 rfl rfl rfl (by simp) ?_
  have hno : SlO 5 1 (.slice none 0 0) 0 [] [] := SlO.nil 5 1
  repeat' (first | refine s_rdm ?_ (hr := by (apply rd_cap; exact rfl; exact rfl; exact rfl; done)) | (refine s_rdp ?_ (hr := by (apply rd_sliceNil; exact rfl; exact rfl; exact rfl; exact rfl; done))) | (refine s_sliceHiO (k := 0) (fun _ _ => ?_)) | (show wpO _ _ _ _ _ _ _; first | refine wpO_nil ?_ | (show wpO _ _ _ (⟨_, .binOp _ _ _ _ _, _, _, _, _⟩ :: _) _ _ _; first | refine s_tt ?_ | refine s_ff ?_ | refine s_rdp ?_ | (refine s_cmp (fun _ => ?_) (fun _ => ?_) <;> (first | (exfalso; omega) | contradiction | skip)) | (refine s_cb (fun _ => ?_) (fun _ => ?_) <;> (first | (exfalso; omega) | contradiction | skip))) | (show wpO _ _ _ (⟨_, .slice _ _ _ _ _, _, _, _, _⟩ :: _) _ _ _; first | refine s_rdp ?_ | refine s_sliceHiT (fun _ _ => ?_) | refine s_clipO (fun _ _ => ?_) | refine s_sliceHi (fun _ _ => ?_) | refine s_sliceLo (fun _ _ => ?_)) | refine s_rdp ?_ | refine s_rdm ?_ | refine s_exq ?_ | refine s_exm ?_) | (show Ex _ _ _ _ _; first | (refine e_appendMk ?_) | (show Ex _ ⟨_, .call ⟨.builtin .append, _, _⟩, _, _, _, _⟩ _ _ _; (first | refine e_append ?_ | refine e_appendIn ?_); intro _ _ _)) | (show wpC _ _ _ _ _ _; first | refine wpC_seq ?_ | refine wpC_region ?_ | refine c_true ?_ | refine c_false ?_ | (refine c_b (fun _ => ?_) (fun _ => ?_) <;> (first | (exfalso; omega) | contradiction | skip)) | refine wpC_ret ?_ | refine wpC_skip ?_ | refine wpC_label ?_) | (show Then _ _ _ _ _ _ _; first | refine then_normal ?_ | refine then_ret ?_) | (show RetP _ _ _ _ _ _ _ _; first | refine r_1 ?_) | assumption | intro _)
  all_goals first | exact q_drop (hK _ _ hno) | (exfalso; omega) | exact q_drop (hK _ _ ‹_›) | trace_state
set_option maxHeartbeats 4000000 in
set_option maxRecDepth 100000 in
theorem concat_spec (e : World) {bk : Nat} {ps : List (Value × List UInt8)} {Bs F : Hp} {K : Value → Hp → Prop} (h1 : ∀ p ∈ ps, p.1.oneCell' = true) (hin : ∀ p ∈ ps, InSl Bs 1 (p.2.map byC) p.1) (hl : (flB ps).length ≤ 140737488355000)  (hpl : ps.length ≤ 100000)
    (hK : ∀ v' B', BytO v' (flB ps) B' → K v' (B' ++ (([(bk, cellsO (ps.map Prod.fst) 22)] ++ Bs) ++ F))) : callsK Try.prog e 109 #[.slice (some ⟨bk, 0, none⟩) ps.length ps.length] (([(bk, cellsO (ps.map Prod.fst) 22)] ++ Bs) ++ F) K := by
  have hix := inSl_vals bk ps Prod.fst h1 22
  generalize cellsO (ps.map Prod.fst) 22 = o at *
  generalize (some (⟨bk, 0, none⟩ : Addr)) = av at *
  refine calls_body (N := 36) (args := [.slice av ps.length ps.length]) Try.func109 rfl rfl rfl (by simp) ?_
  repeat' ((fail_if_success (show wpC _ (.loop _) _ _ _ _)); first | (show wpO _ _ _ _ _ _ _; first | refine wpO_nil ?_ | (show wpO _ _ _ (⟨_, .binOp _ _ _ _ _, _, _, _, _⟩ :: _) _ _ _; first | refine s_tt ?_ | refine s_ff ?_ | refine s_rdp ?_ | (refine s_cmp (fun _ => ?_) (fun _ => ?_) <;> (first | (exfalso; omega) | contradiction | skip)) | (refine s_cb (fun _ => ?_) (fun _ => ?_) <;> (first | (exfalso; omega) | contradiction | skip))) | (show wpO _ _ _ (⟨_, .indexAddr _ _ _, _, _, _, _⟩ :: _) _ _ _; first | refine s_rdp ?_ | refine s_idx (fun _ _ _ _ _ _ _ => ?_)) | refine s_rdp ?_ | refine s_rdm ?_ | refine s_exq ?_ | refine s_exm ?_) | (show Ex _ _ _ _ _; first | (show Ex _ ⟨_, .call ⟨.builtin .append, _, _⟩, _, _, _, _⟩ _ _ _; (first | refine e_append ?_ | refine e_appendIn ?_); intro _ _ _)) | (show wpC _ _ _ _ _ _; first | refine wpC_seq ?_ | refine wpC_region ?_ | refine c_true ?_ | refine c_false ?_ | (refine c_b (fun _ => ?_) (fun _ => ?_) <;> (first | (exfalso; omega) | contradiction | skip)) | refine wpC_block ?_ | refine wpC_ret ?_ | refine wpC_skip ?_ | refine wpC_exit ?_ | refine wpC_label ?_) | (show Then _ _ _ _ _ _ _; first | refine then_normal ?_ | refine then_ret ?_ | refine then_exit ?_) | (show InBlock _ _ _ _ _ _; first | refine inBlock_normal ?_ | refine inBlock_ret ?_ | refine inBlock_same ?_ | refine b_other ?_) | (show LoopPost _ _ _ _ _ _; first | refine loop_ret ?_ | refine loop_exit ?_) | (show RetP _ _ _ _ _ _ _ _; first | refine r_1 ?_))
  refine wpC_loopA (κ := Nat) [3, 5, 11, 12, 13, 14, 15, 16, 17, 18, 19, 20, 21, 22] (fun k => [(3, .int .i64 ((flB (ps.take k)).length : Int)), (11, .int .i64 (k : Int))]) (fun _ => ([(bk, o)] ++ Bs) ++ F) (fun k => k ≤ ps.length) (fun k => ps.length - k) 0 (Nat.zero_le _) ⟨rfl, rfl, trivial⟩ q_drp ?_
  rintro k ρx hk
  have hle := flB_le ps k
  cases hr : ps[k]? with
  | some p =>
    have hlt := (List.getElem?_eq_some_iff.1 hr).1
    obtain ⟨a1, c1, hv1⟩ := inSl_valB (hin p (List.mem_of_getElem? hr))
    obtain ⟨v, bs⟩ := p
    simp only at hv1
    subst hv1
    have hft := congrArg List.length (flB_take hr)
    rw [List.length_append] at hft
    simp only at hft
    have hle2 := flB_le ps (k + 1)
    repeat' (first | (show wpO _ _ _ _ _ _ _; first | refine wpO_nil ?_ | (show wpO _ _ _ (⟨_, .binOp _ _ _ _ _, _, _, _, _⟩ :: _) _ _ _; first | refine s_tt ?_ | refine s_ff ?_ | refine s_rdp ?_ | (refine s_cmp (fun _ => ?_) (fun _ => ?_) <;> (first | (exfalso; omega) | contradiction | skip)) | (refine s_cb (fun _ => ?_) (fun _ => ?_) <;> (first | (exfalso; omega) | contradiction | skip))) | (show wpO _ _ _ (⟨_, .indexAddr _ _ _, _, _, _, _⟩ :: _) _ _ _; first | refine s_rdp ?_ | refine s_idx (fun _ _ _ _ _ _ _ => ?_)) | refine s_rdp ?_ | refine s_rdm ?_ | refine s_exq ?_ | refine s_exm ?_) | (show Ex _ _ _ _ _; first | (show Ex _ ⟨_, .call ⟨.builtin .append, _, _⟩, _, _, _, _⟩ _ _ _; (first | refine e_append ?_ | refine e_appendIn ?_); intro _ _ _)) | (show wpC _ _ _ _ _ _; first | refine wpC_seq ?_ | refine wpC_region ?_ | refine c_true ?_ | refine c_false ?_ | (refine c_b (fun _ => ?_) (fun _ => ?_) <;> (first | (exfalso; omega) | contradiction | skip)) | refine wpC_block ?_ | refine wpC_ret ?_ | refine wpC_skip ?_ | refine wpC_exit ?_ | refine wpC_label ?_) | (show Then _ _ _ _ _ _ _; first | refine then_normal ?_ | refine then_ret ?_ | refine then_exit ?_) | (show InBlock _ _ _ _ _ _; first | refine inBlock_normal ?_ | refine inBlock_ret ?_ | refine inBlock_same ?_ | refine b_other ?_) | (show LoopPost _ _ _ _ _ _; first | refine loop_ret ?_ | refine loop_exit ?_) | (show RetP _ _ _ _ _ _ _ _; first | refine r_1 ?_))
    all_goals first | (exfalso; omega) | exact lp_end (k + 1) (by omega) (by omega) (h3 := ⟨congrArg (fun n : Nat => Value.int .i64 (n : Int)) hft.symm, rfl, trivial⟩) | trace_state
  | none =>
    have hge : ps.length ≤ k := List.getElem?_eq_none_iff.1 hr
    rw [List.take_of_length_le hge] at *
    repeat' ((fail_if_success (show wpC _ (.loop _) _ _ _ _)); first | (show wpO _ _ _ _ _ _ _; first | refine wpO_nil ?_ | (show wpO _ _ _ (⟨_, .binOp _ _ _ _ _, _, _, _, _⟩ :: _) _ _ _; first | refine s_tt ?_ | refine s_ff ?_ | refine s_rdp ?_ | (refine s_cmp (fun _ => ?_) (fun _ => ?_) <;> (first | (exfalso; omega) | contradiction | skip)) | (refine s_cb (fun _ => ?_) (fun _ => ?_) <;> (first | (exfalso; omega) | contradiction | skip))) | (show wpO _ _ _ (⟨_, .indexAddr _ _ _, _, _, _, _⟩ :: _) _ _ _; first | refine s_rdp ?_ | refine s_idx (fun _ _ _ _ _ _ _ => ?_)) | refine s_rdp ?_ | refine s_rdm ?_ | refine s_exq ?_ | refine s_exm ?_) | (show Ex _ _ _ _ _; first | (show Ex _ ⟨_, .call ⟨.value (.func _), _, _⟩, _, _, _, _⟩ _ _ _; refine e_call ?_; first | (apply grow_spec _ hl)) | (show Ex _ ⟨_, .call ⟨.builtin .append, _, _⟩, _, _, _, _⟩ _ _ _; (first | refine e_append ?_ | refine e_appendIn ?_); intro _ _ _)) | (show wpC _ _ _ _ _ _; first | refine wpC_seq ?_ | refine wpC_region ?_ | refine c_true ?_ | refine c_false ?_ | (refine c_b (fun _ => ?_) (fun _ => ?_) <;> (first | (exfalso; omega) | contradiction | skip)) | refine wpC_block ?_ | refine wpC_ret ?_ | refine wpC_skip ?_ | refine wpC_exit ?_ | refine wpC_label ?_) | (show Then _ _ _ _ _ _ _; first | refine then_normal ?_ | refine then_ret ?_ | refine then_exit ?_) | (show InBlock _ _ _ _ _ _; first | refine inBlock_normal ?_ | refine inBlock_ret ?_ | refine inBlock_same ?_ | refine b_other ?_) | (show LoopPost _ _ _ _ _ _; first | refine loop_ret ?_ | refine loop_exit ?_) | (show RetP _ _ _ _ _ _ _ _; first | refine r_1 ?_) | assumption | intro _)
    rename_i v0 B0 h0
    refine wpC_loopA (κ := Nat × Value × Hp) [6, 8, 27, 28, 29, 30, 31, 32, 33, 34] (fun k => [(6, k.2.1), (27, .int .i64 (k.1 : Int))]) (fun k => k.2.2 ++ (([(bk, o)] ++ Bs) ++ F)) (fun k => k.1 ≤ ps.length ∧ BytO k.2.1 (flB (ps.take k.1)) k.2.2) (fun k => ps.length - k.1) (0, v0, B0) ⟨Nat.zero_le _, h0⟩ ⟨rfl, rfl, trivial⟩ q_drp ?_
    rintro ⟨j, vj, Bj⟩ ρy ⟨hj, hS⟩
    simp only at hj hS ⊢
    have hle := flB_le ps j
    cases hr : ps[j]? with
    | none =>
      have hge : ps.length ≤ j := List.getElem?_eq_none_iff.1 hr
      rw [List.take_of_length_le hge] at *
      repeat' (first | (show wpO _ _ _ _ _ _ _; first | refine wpO_nil ?_ | (show wpO _ _ _ (⟨_, .binOp _ _ _ _ _, _, _, _, _⟩ :: _) _ _ _; first | refine s_tt ?_ | refine s_ff ?_ | refine s_rdp ?_ | (refine s_cmp (fun _ => ?_) (fun _ => ?_) <;> (first | (exfalso; omega) | contradiction | skip)) | (refine s_cb (fun _ => ?_) (fun _ => ?_) <;> (first | (exfalso; omega) | contradiction | skip))) | (show wpO _ _ _ (⟨_, .indexAddr _ _ _, _, _, _, _⟩ :: _) _ _ _; first | refine s_rdp ?_ | refine s_idx (fun _ _ _ _ _ _ _ => ?_)) | refine s_rdp ?_ | refine s_rdm ?_ | refine s_exq ?_ | refine s_exm ?_) | (show Ex _ _ _ _ _; first | (show Ex _ ⟨_, .call ⟨.builtin .append, _, _⟩, _, _, _, _⟩ _ _ _; (first | refine e_append ?_ | refine e_appendIn ?_); intro _ _ _)) | (show wpC _ _ _ _ _ _; first | refine wpC_seq ?_ | refine wpC_region ?_ | refine c_true ?_ | refine c_false ?_ | (refine c_b (fun _ => ?_) (fun _ => ?_) <;> (first | (exfalso; omega) | contradiction | skip)) | refine wpC_block ?_ | refine wpC_ret ?_ | refine wpC_skip ?_ | refine wpC_exit ?_ | refine wpC_label ?_) | (show Then _ _ _ _ _ _ _; first | refine then_normal ?_ | refine then_ret ?_ | refine then_exit ?_) | (show InBlock _ _ _ _ _ _; first | refine inBlock_normal ?_ | refine inBlock_ret ?_ | refine inBlock_same ?_ | refine b_other ?_) | (show LoopPost _ _ _ _ _ _; first | refine loop_ret ?_ | refine loop_exit ?_) | (show RetP _ _ _ _ _ _ _ _; first | refine r_1 ?_))
      all_goals first | (exfalso; omega) | exact q_drop (hK _ _ hS) | trace_state
    | some p =>
      have hlt := (List.getElem?_eq_some_iff.1 hr).1
      have hip := hin p (List.mem_of_getElem? hr)
      obtain ⟨a1, c1, hv1⟩ := inSl_valB hip
      obtain ⟨v, bs⟩ := p
      simp only at hv1 hip
      subst hv1
      have hft := flB_take hr
      have hftl := congrArg List.length hft
      rw [List.length_append] at hftl
      have hle2 := flB_le ps (j + 1)
      simp only at hft hftl
      repeat' (first | (show wpO _ _ _ _ _ _ _; first | refine wpO_nil ?_ | (show wpO _ _ _ (⟨_, .binOp _ _ _ _ _, _, _, _, _⟩ :: _) _ _ _; first | refine s_tt ?_ | refine s_ff ?_ | refine s_rdp ?_ | (refine s_cmp (fun _ => ?_) (fun _ => ?_) <;> (first | (exfalso; omega) | contradiction | skip)) | (refine s_cb (fun _ => ?_) (fun _ => ?_) <;> (first | (exfalso; omega) | contradiction | skip))) | (show wpO _ _ _ (⟨_, .indexAddr _ _ _, _, _, _, _⟩ :: _) _ _ _; first | refine s_rdp ?_ | refine s_idx (fun _ _ _ _ _ _ _ => ?_)) | refine s_rdp ?_ | refine s_rdm ?_ | refine s_exq ?_ | refine s_exm ?_) | (show Ex _ _ _ _ _; first | (show Ex _ ⟨_, .call ⟨.builtin .append, _, _⟩, _, _, _, _⟩ _ _ _; (first | refine e_append ?_ | refine e_appendIn ?_); intro _ _ _)) | (show wpC _ _ _ _ _ _; first | refine wpC_seq ?_ | refine wpC_region ?_ | refine c_true ?_ | refine c_false ?_ | (refine c_b (fun _ => ?_) (fun _ => ?_) <;> (first | (exfalso; omega) | contradiction | skip)) | refine wpC_block ?_ | refine wpC_ret ?_ | refine wpC_skip ?_ | refine wpC_exit ?_ | refine wpC_label ?_) | (show Then _ _ _ _ _ _ _; first | refine then_normal ?_ | refine then_ret ?_ | refine then_exit ?_) | (show InBlock _ _ _ _ _ _; first | refine inBlock_normal ?_ | refine inBlock_ret ?_ | refine inBlock_same ?_ | refine b_other ?_) | (show LoopPost _ _ _ _ _ _; first | refine loop_ret ?_ | refine loop_exit ?_) | (show RetP _ _ _ _ _ _ _ _; first | refine r_1 ?_))
      all_goals first
        | (exfalso; omega)
        | (rename_i v2 B2 h2
           exact lp_end (j + 1, v2, B2) (by simp only; omega) ⟨by simp only; omega, h2.cast (by rw [hft, List.length_append]) (by rw [hft, List.map_append, List.flatten_append])⟩)
        | trace_state
end Go.Vl

/-
  The program's four, Frame.
-/
namespace Go.Vl
open Go.Proofs Go.RowKit
set_option maxHeartbeats 4000000 in
set_option maxRecDepth 100000 in
theorem four_O (b s : Nat) : BytO (.slice (some ⟨b, 0, none⟩) 4 4) (fourP s) [(b, cellsO [Value.int .u8 ((s % 256 : Nat) : Int), Value.int .u8 ((s / 2 ^ 8 % 256 : Nat) : Int), Value.int .u8 ((s / 2 ^ 16 % 256 : Nat) : Int), Value.int .u8 ((s / 2 ^ 24 % 256 : Nat) : Int)] 5)] :=
  ⟨by rw [four_cells]; rfl, .inr ⟨b, 4, _, rfl, rfl, by simp [fourP], by decide, by simp, by rw [four_cells]; simp [fourP]⟩⟩
attribute [local irreducible] wpC wpO wpD Ex Rd callsK RetP Drop valK
set_option maxHeartbeats 4000000 in
set_option maxRecDepth 100000 in
theorem four_spec (e : World) {s : Nat} {F : Hp} {K : Value → Hp → Prop} (hK : ∀ v' B', BytO v' (fourP s) B' → K v' (B' ++ F)) : callsK Try.prog e 110 #[.int .u32 (s : Int)] F K := by
  refine calls_body (N := 15) (args := [.int .u32 (s : Int)]) Try.func110 rfl rfl rfl (by simp) ?_
  repeat' (first | refine s_rdm ?_ (hr := by (apply rd_u32u8; exact rfl; exact rfl; exact rfl; done)) | (refine s_rdp ?_ (hr := by (apply (rd_shr32 8); exact rfl; exact rfl; decide; done))) | (refine s_rdp ?_ (hr := by (apply (rd_shr32 16); exact rfl; exact rfl; decide; done))) | (refine s_rdp ?_ (hr := by (apply (rd_shr32 24); exact rfl; exact rfl; decide; done))) | (show wpO _ _ _ _ _ _ _; first | refine wpO_nil ?_ | (show wpO _ _ _ (⟨_, .binOp _ _ _ _ _, _, _, _, _⟩ :: _) _ _ _; first | refine s_tt ?_ | refine s_ff ?_ | refine s_rdp ?_ | (refine s_cmp (fun _ => ?_) (fun _ => ?_) <;> (first | (exfalso; omega) | contradiction | skip)) | (refine s_cb (fun _ => ?_) (fun _ => ?_) <;> (first | (exfalso; omega) | contradiction | skip))) | (show wpO _ _ _ (⟨_, .convert _ _ _, _, _, _, _⟩ :: _) _ _ _; first | (refine s_exs ?_; refine e_mark ?_) | refine s_rdm ?_ (hr := by first | (apply rd_bytesStrO; (conv => lhs; whnf); assumption; exact Sbs.sub (self := by infer_instance); exact rfl; exact rfl; exact rfl; done) | (apply rd_bytesStr; (conv => lhs; whnf); assumption; exact Sbs.sub (self := by infer_instance); exact rfl; exact rfl; exact rfl; done))) | refine s_rdp ?_ | refine s_rdm ?_ | refine s_exq ?_ | refine s_exm ?_) | (show Ex _ _ _ _ _; first | (show Ex _ ⟨_, .convert _ _ _, _, _, _, _⟩ _ _ _; refine e_mark ?_) | (show Ex _ ⟨_, .buildSlice _ _ _, _, _, _, _⟩ _ _ _; first | (refine e_buildSlice ?_; intro _) | (refine e_buildNil ?_; intro _ _ _))) | (show wpC _ _ _ _ _ _; first | refine wpC_seq ?_ | refine wpC_region ?_ | refine wpC_ret ?_ | refine wpC_skip ?_ | refine wpC_label ?_) | (show Then _ _ _ _ _ _ _; first | refine then_normal ?_ | refine then_ret ?_) | (show RetP _ _ _ _ _ _ _ _; first | refine r_1 ?_))
  exact q_drop (hK _ _ (four_O _ s))
set_option maxHeartbeats 4000000 in
set_option maxRecDepth 100000 in
theorem frame_spec (e : World) {bs : List UInt8} {v : Value} {Bs F : Hp} {K : Value → Hp → Prop} (hin : InSl Bs 1 (bs.map byC) v) (hl : bs.length ≤ 140737488355000)
    (h3 : 1048576 < bs.length → K (.tuple #[.slice none 0 0, .int .i64 3]) (Bs ++ F)) (h0 : bs.length ≤ 1048576 → ∀ v' B', BytO v' (frameP bs) B' → K (.tuple #[v', .int .i64 0]) (B' ++ (Bs ++ F))) : callsK Try.prog e 85 #[v] (Bs ++ F) K := by
  have hin0 := hin
  obtain ⟨av, cv, rfl, _⟩ := hin0
  have hml : (bs.map byC).length = bs.length := List.length_map _
  rw [hml] at hin ⊢
  refine calls_body (N := 17) (args := [.slice av bs.length cv]) Try.func85 rfl rfl rfl (by simp) ?_
  by_cases hb : 1048576 < bs.length
  · repeat' (first | (show wpO _ _ _ _ _ _ _; first | refine wpO_nil ?_ | (show wpO _ _ _ (⟨_, .binOp _ _ _ _ _, _, _, _, _⟩ :: _) _ _ _; first | refine s_tt ?_ | refine s_ff ?_ | refine s_rdp ?_ | (refine s_cmp (fun _ => ?_) (fun _ => ?_) <;> (first | (exfalso; omega) | contradiction | skip)) | (refine s_cb (fun _ => ?_) (fun _ => ?_) <;> (first | (exfalso; omega) | contradiction | skip))) | refine s_rdp ?_ | refine s_rdm ?_ | refine s_exq ?_ | refine s_exm ?_) | (show Ex _ _ _ _ _; first | (show Ex _ ⟨_, .buildSlice _ _ _, _, _, _, _⟩ _ _ _; first | (refine e_buildSlice ?_; intro _) | (refine e_buildNil ?_; intro _ _ _))) | (show wpC _ _ _ _ _ _; first | refine wpC_seq ?_ | refine wpC_region ?_ | refine c_true ?_ | refine c_false ?_ | (refine c_b (fun _ => ?_) (fun _ => ?_) <;> (first | (exfalso; omega) | contradiction | skip)) | refine wpC_ret ?_ | refine wpC_skip ?_ | refine wpC_label ?_) | (show Then _ _ _ _ _ _ _; first | refine then_normal ?_ | refine then_ret ?_) | (show RetP _ _ _ _ _ _ _ _; first | refine r_2 ?_))
    all_goals first | exact q_drop (h3 hb) | (exfalso; omega) | trace_state
  · have hz := zz_len bs (by omega)
    have hvb := vb_len10 hz
    repeat' ((fail_if_success (show Ex _ ⟨some 15, _, _, _, _, _⟩ _ _ _)); first | (show wpO _ _ _ _ _ _ _; first | refine wpO_nil ?_ | (show wpO _ _ _ (⟨_, .binOp _ _ _ _ _, _, _, _, _⟩ :: _) _ _ _; first | refine s_tt ?_ | refine s_ff ?_ | refine s_rdp ?_ | (refine s_cmp (fun _ => ?_) (fun _ => ?_) <;> (first | (exfalso; omega) | contradiction | skip)) | (refine s_cb (fun _ => ?_) (fun _ => ?_) <;> (first | (exfalso; omega) | contradiction | skip))) | refine s_rdp ?_ | refine s_rdm ?_ | refine s_exq ?_ | refine s_exm ?_) | (show Ex _ _ _ _ _; first | (show Ex _ ⟨_, .call ⟨.value (.func _), _, _⟩, _, _, _, _⟩ _ _ _; refine e_call ?_; first | (apply number_spec _ (by omega) (by omega)) | (apply p_pcs; apply sum_spec _ hin (by omega); (try case hS => assumption); (case hpcs => (repeat (first | exact Pcs.blk (by infer_instance) | exact Pcs.nil | (apply Pcs.cons; infer_instance) | apply Pcs.app)))) | (apply four_spec _)) | (show Ex _ ⟨_, .buildSlice _ _ _, _, _, _, _⟩ _ _ _; first | (refine e_buildSlice ?_; intro _) | (refine e_buildNil ?_; intro _ _ _))) | (show wpC _ _ _ _ _ _; first | refine wpC_seq ?_ | refine wpC_region ?_ | refine c_true ?_ | refine c_false ?_ | (refine c_b (fun _ => ?_) (fun _ => ?_) <;> (first | (exfalso; omega) | contradiction | skip)) | refine wpC_ret ?_ | refine wpC_skip ?_ | refine wpC_label ?_) | (show Then _ _ _ _ _ _ _; first | refine then_normal ?_ | refine then_ret ?_) | (show RetP _ _ _ _ _ _ _ _; first | refine r_2 ?_) | assumption | intro _)
    rename_i v1 B1 h1 b0 v2 B2 h2
    obtain ⟨a1, c1, rfl⟩ := SlO.val h1
    obtain ⟨a2, c2, rfl⟩ := SlO.val h2
    have h1i := bytIn h1
    have h2i := bytIn h2
    have hfl : flB [(.slice a1 (vb (zz (bs.length : Int))).length c1, vb (zz (bs.length : Int))), (.slice av bs.length cv, bs), (.slice a2 (fourP (sumP bs)).length c2, fourP (sumP bs))] = frameP bs := by simp [flB, frameP, lenB]
    generalize hps : [((.slice a1 (vb (zz (bs.length : Int))).length c1 : Value), vb (zz (bs.length : Int))), (.slice av bs.length cv, bs), (.slice a2 (fourP (sumP bs)).length c2, fourP (sumP bs))] = ps at *
    have hp1 : ∀ p ∈ ps, p.1.oneCell' = true := by
      rw [← hps]
      intro p hp
      simp only [List.mem_cons, List.not_mem_nil, or_false] at hp
      rcases hp with rfl | rfl | rfl <;> rfl
    have hp2 : ∀ p ∈ ps, InSl (B1 ++ (Bs ++ B2)) 1 (p.2.map byC) p.1 := by
      rw [← hps]
      intro p hp
      simp only [List.mem_cons, List.not_mem_nil, or_false] at hp
      rcases hp with rfl | rfl | rfl
      · exact h1i.more fun x hx => List.mem_append_left _ hx
      · exact hin.more fun x hx => List.mem_append_right _ (List.mem_append_left _ hx)
      · exact h2i.more fun x hx => List.mem_append_right _ (List.mem_append_right _ hx)
    have hp3 : (flB ps).length ≤ 140737488355000 := by rw [hfl]; unfold frameP lenB; simp only [List.length_append]; have : (fourP (sumP bs)).length = 4 := rfl; omega
    have hp4 : ps.length = 3 := by rw [← hps]; rfl
    have key := fun {bk : Nat} {F : Hp} {K : Value → Hp → Prop} hK => concat_spec (bk := bk) (F := F) (K := K) e hp1 hp2 hp3 (by omega) hK
    rw [hp4, hfl, ← hps] at key
    repeat' (first | (show wpO _ _ _ _ _ _ _; first | refine wpO_nil ?_ | (show wpO _ _ _ (⟨_, .binOp _ _ _ _ _, _, _, _, _⟩ :: _) _ _ _; first | refine s_tt ?_ | refine s_ff ?_ | refine s_rdp ?_ | (refine s_cmp (fun _ => ?_) (fun _ => ?_) <;> (first | (exfalso; omega) | contradiction | skip)) | (refine s_cb (fun _ => ?_) (fun _ => ?_) <;> (first | (exfalso; omega) | contradiction | skip))) | refine s_rdp ?_ | refine s_rdm ?_ | refine s_exq ?_ | refine s_exm ?_) | (show Ex _ _ _ _ _; first | (show Ex _ ⟨_, .call ⟨.value (.func _), _, _⟩, _, _, _, _⟩ _ _ _; refine e_call ?_; first | (apply p_pcs; apply key; (try case hS => assumption); (case hpcs => (repeat (first | exact Pcs.blk (by infer_instance) | exact Pcs.nil | (apply Pcs.cons; infer_instance) | apply Pcs.app))))) | (show Ex _ ⟨_, .buildSlice _ _ _, _, _, _, _⟩ _ _ _; first | (refine e_buildSlice ?_; intro _) | (refine e_buildNil ?_; intro _ _ _))) | (show wpC _ _ _ _ _ _; first | refine wpC_seq ?_ | refine wpC_region ?_ | refine c_true ?_ | refine c_false ?_ | (refine c_b (fun _ => ?_) (fun _ => ?_) <;> (first | (exfalso; omega) | contradiction | skip)) | refine wpC_ret ?_ | refine wpC_skip ?_ | refine wpC_label ?_) | (show Then _ _ _ _ _ _ _; first | refine then_normal ?_ | refine then_ret ?_) | (show RetP _ _ _ _ _ _ _ _; first | refine r_2 ?_) | assumption | intro _)
    all_goals first | (exfalso; omega) | (rename_i v4 B4 h4; exact q_drop (h0 (by omega) v4 B4 h4)) | trace_state
end Go.Vl

