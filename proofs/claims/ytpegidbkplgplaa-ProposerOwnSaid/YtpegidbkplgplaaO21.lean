/-
  Steps of the proof: HA, Vc, HB, HC, HD.
-/
import Derived.Test.YtpegidbkplgplaaO19
import Derived.Test.YtpegidbkplgplaaO20
import Derived.Test.YtpegidbkplgplaaO07
namespace Go.Vl
open Go.Proofs Classical
structure Rep where
  prom : Bal
  v : Value
  ls : List SlR
  B : Hp
def repL (R : Nat → Rep) : Nat → List Value
  | 0 => []
  | n + 1 => repL R n ++ [.int .i64 (R n).prom.r, .int .i64 (R n).prom.p, (R n).v]
def updR (R : Nat → Rep) (i : Nat) (x : Rep) : Nat → Rep := fun j => if j = i then x else R j
set_option maxHeartbeats 4000000 in
set_option maxRecDepth 100000 in
theorem updR_same (R : Nat → Rep) (i : Nat) (x : Rep) : updR R i x i = x := if_pos rfl
set_option maxHeartbeats 4000000 in
set_option maxRecDepth 100000 in
theorem updR_ne {R : Nat → Rep} {i j : Nat} {x : Rep} (h : j ≠ i) : updR R i x j = R j := if_neg h
set_option maxHeartbeats 4000000 in
set_option maxRecDepth 100000 in
theorem repL_succ (R : Nat → Rep) (n : Nat) : repL R (n + 1) = repL R n ++ [.int .i64 (R n).prom.r, .int .i64 (R n).prom.p, (R n).v] := rfl
set_option maxHeartbeats 4000000 in
set_option maxRecDepth 100000 in
theorem repL_len (R : Nat → Rep) : ∀ n, (repL R n).length = n * 3
  | 0 => rfl
  | n + 1 => by unfold repL; rw [List.length_append, repL_len R n]; simp; omega
set_option maxHeartbeats 4000000 in
set_option maxRecDepth 100000 in
theorem repL_keep {R : Nat → Rep} {i : Nat} {x : Rep} : ∀ {n : Nat}, n ≤ i → repL (updR R i x) n = repL R n
  | 0, _ => rfl
  | n + 1, h => by
    unfold repL
    rw [repL_keep (by omega), updR_ne (by omega)]
set_option maxHeartbeats 4000000 in
set_option maxRecDepth 100000 in
theorem repL_at {R : Nat → Rep} {i : Nat} : ∀ {n : Nat}, i < n → ∃ A B : List Value, repL R n = A ++ ([.int .i64 (R i).prom.r, .int .i64 (R i).prom.p, (R i).v] ++ B) ∧ A.length = i * 3 ∧ ∀ x, repL (updR R i x) n = A ++ ([.int .i64 x.prom.r, .int .i64 x.prom.p, x.v] ++ B)
  | 0, h => absurd h (Nat.not_lt_zero _)
  | n + 1, h => by
    by_cases hi : i < n
    · obtain ⟨A, B, h1, h2, h3⟩ := repL_at hi
      refine ⟨A, B ++ [.int .i64 (R n).prom.r, .int .i64 (R n).prom.p, (R n).v], by unfold repL; rw [h1]; simp, h2, fun x => ?_⟩
      unfold repL
      rw [h3 x, updR_ne (by omega)]
      simp
    · obtain rfl : i = n := by omega
      refine ⟨repL R i, [], by rw [repL_succ]; simp, repL_len R i, fun x => ?_⟩
      rw [repL_succ, repL_keep (Nat.le_refl _), updR_same]
      simp
set_option maxHeartbeats 4000000 in
set_option maxRecDepth 100000 in
theorem rep_bal {R : Nat → Rep} {i n : Nat} (h : i < n) : RowAt (repL R n).toArray (i * 3 + 0) 2 [.int .i64 (R i).prom.r, .int .i64 (R i).prom.p] := by
  obtain ⟨A, B, h1, h2, _⟩ := repL_at (R := R) h
  refine ⟨rfl, fun j v hj => ?_⟩
  rw [h1]
  rcases (by have := (List.getElem?_eq_some_iff.1 hj).1; simp at this; omega : j = 0 ∨ j = 1) with rfl | rfl
  · simp only [List.getElem?_toArray]
    rw [List.getElem?_append_right (by omega), show i * 3 + 0 + 0 - A.length = 0 by omega]
    exact hj
  · simp only [List.getElem?_toArray]
    rw [List.getElem?_append_right (by omega), show i * 3 + 0 + 1 - A.length = 1 by omega]
    exact hj
set_option maxHeartbeats 4000000 in
set_option maxRecDepth 100000 in
theorem rep_sl {R : Nat → Rep} {i n : Nat} (h : i < n) : (repL R n)[i * 3 + 2]? = some (R i).v := by
  obtain ⟨A, B, h1, h2, _⟩ := repL_at (R := R) h
  rw [h1, List.getElem?_append_right (by omega), show i * 3 + 2 - A.length = 2 by omega]
  rfl
set_option maxHeartbeats 4000000 in
set_option maxRecDepth 100000 in
theorem rep_putb {R : Nat → Rep} {i n : Nat} (h : i < n) (b : Bal) : putL (repL R n) (i * 3 + 0) [.int .i64 b.r, .int .i64 b.p] = repL (updR R i ⟨b, (R i).v, (R i).ls, (R i).B⟩) n := by
  obtain ⟨A, B, h1, h2, h3⟩ := repL_at (R := R) h
  rw [h1, h3]
  unfold putL
  simp only [putL]
  rw [List.set_append_right _ _ (by omega), show i * 3 + 0 - A.length = 0 by omega]
  rw [List.set_append_right _ _ (by omega), show i * 3 + 0 + 1 - A.length = 1 by omega]
  rfl
set_option maxHeartbeats 4000000 in
set_option maxRecDepth 100000 in
theorem rep_puts {R : Nat → Rep} {i n : Nat} (h : i < n) (v : Value) (ls : List SlR) (B : Hp) : (repL R n).set (i * 3 + 2) v = repL (updR R i ⟨(R i).prom, v, ls, B⟩) n := by
  obtain ⟨A, B', h1, h2, h3⟩ := repL_at (R := R) h
  rw [h1, h3, List.set_append_right _ _ (by omega), show i * 3 + 2 - A.length = 2 by omega]
  rfl
attribute [local irreducible] eqW eqV wpC wpO wpD Ex Rd callsK RetP Drop valK
set_option maxHeartbeats 4000000 in
set_option maxRecDepth 100000 in
theorem lless (e : World) {a b : Bal} {F : Hp} {K : Value → Hp → Prop} (h1 : a.lt b → K (.bool true) F) (h0 : ¬ a.lt b → K (.bool false) F) : callsK Try.prog e 50 #[.agg a.cells.toArray, .agg b.cells.toArray] F K := by
  refine calls_body (N := 24) (args := [.agg a.cells.toArray, .agg b.cells.toArray]) Try.func50 rfl rfl rfl (by simp) ?_
  repeat' (first | (show wpO _ _ _ _ _ _ _; first | refine wpO_nil ?_ | (show wpO _ _ _ (⟨_, .binOp _ _ _ _ _, _, _, _, _⟩ :: _) _ _ _; first | refine s_tt ?_ | refine s_ff ?_ | refine s_rdp ?_ | (refine s_cmp (fun _ => ?_) (fun _ => ?_) <;> (first | (exfalso; omega) | contradiction | skip)) | (refine s_cb (fun _ => ?_) (fun _ => ?_) <;> (first | (exfalso; omega) | contradiction | skip)) | refine s_sks ?_ | (refine s_g (fun _ => ?_) (fun _ => ?_) <;> (first | (exfalso; omega) | contradiction | skip))) | (show wpO _ _ _ (⟨_, .pick _ _ _, _, _, _, _⟩ :: _) _ _ _; first | refine s_rdp ?_ | (refine s_p (fun _ => ?_) (fun _ => ?_) <;> (first | (exfalso; omega) | contradiction | skip)) | refine s_sks ?_ | (refine s_g (fun _ => ?_) (fun _ => ?_) <;> (first | (exfalso; omega) | contradiction | skip))) | refine s_rdp ?_ | refine s_rdm ?_ | refine s_exq ?_ | refine s_exm ?_ | refine s_sks ?_ | refine s_skn ?_ | (refine s_g (fun _ => ?_) (fun _ => ?_) <;> (first | (exfalso; omega) | contradiction | skip))) | (show Ex _ _ _ _ _; first | (show Ex _ ⟨_, .box _ _, _, _, _, _⟩ _ _ _; first | (refine e_boxA ?_; intro _) | (refine e_box1 ?_; intro _))) | (show wpC _ _ _ _ _ _; first | refine wpC_seq ?_ | refine wpC_region ?_ | refine wpC_ret ?_ | refine wpC_skip ?_ | refine wpC_label ?_) | (show Then _ _ _ _ _ _ _; first | refine then_normal ?_ | refine then_ret ?_) | (show RetP _ _ _ _ _ _ _ _; first | refine r_1 ?_))
  all_goals first
    | exact q_drop (h1 (by unfold Bal.lt; omega))
    | exact q_drop (h0 (fun h => by unfold Bal.lt at h; omega))
    | trace_state
set_option maxHeartbeats 4000000 in
set_option maxRecDepth 100000 in
theorem rcheck8 (e : World) {x : EnR} {P F : Hp} {K : Value → Hp → Prop} (hx : EnIn P x) (hz : x.c.ops.length ≤ 9223372036854775806) (h1 : mayE x.c → K (.int .i64 0) (P ++ F)) (h0 : ¬ mayE x.c → K (.int .i64 40) (P ++ F)) :
    callsK Try.prog e 20 #[.agg x.cells.toArray] (P ++ F) K := by
  have hE1 : ∀ {F : Hp} {K : Value → Hp → Prop}, K (.int .i64 0) F → callsK Try.prog e 49 #[.bool true] F K := by
    intro F K hK
    refine calls_body (N := 4) (args := [.bool true]) Try.func49 rfl rfl rfl (by simp) ?_
    repeat' (first | (show wpO _ _ _ _ _ _ _; first | refine wpO_nil ?_ | refine s_rdp ?_ | refine s_rdm ?_ | refine s_exq ?_ | refine s_exm ?_) | (show wpC _ _ _ _ _ _; first | refine wpC_seq ?_ | refine wpC_region ?_ | refine c_true ?_ | refine c_false ?_ | (refine c_b (fun _ => ?_) (fun _ => ?_) <;> (first | (exfalso; omega) | contradiction | skip)) | refine wpC_ret ?_ | refine wpC_skip ?_ | refine wpC_label ?_) | (show Then _ _ _ _ _ _ _; first | refine then_normal ?_ | refine then_ret ?_) | (show RetP _ _ _ _ _ _ _ _; first | refine r_1 ?_))
    all_goals exact q_drop hK
  have hE0 : ∀ {F : Hp} {K : Value → Hp → Prop}, K (.int .i64 40) F → callsK Try.prog e 49 #[.bool false] F K := by
    intro F K hK
    refine calls_body (N := 4) (args := [.bool false]) Try.func49 rfl rfl rfl (by simp) ?_
    repeat' (first | (show wpO _ _ _ _ _ _ _; first | refine wpO_nil ?_ | refine s_rdp ?_ | refine s_rdm ?_ | refine s_exq ?_ | refine s_exm ?_) | (show wpC _ _ _ _ _ _; first | refine wpC_seq ?_ | refine wpC_region ?_ | refine c_true ?_ | refine c_false ?_ | (refine c_b (fun _ => ?_) (fun _ => ?_) <;> (first | (exfalso; omega) | contradiction | skip)) | refine wpC_ret ?_ | refine wpC_skip ?_ | refine wpC_label ?_) | (show Then _ _ _ _ _ _ _; first | refine then_normal ?_ | refine then_ret ?_) | (show RetP _ _ _ _ _ _ _ _; first | refine r_1 ?_))
    all_goals exact q_drop hK
  refine calls_body (N := 6) (args := [.agg x.cells.toArray]) Try.func20 rfl rfl rfl (by simp) ?_
  repeat' (first | (show wpO _ _ _ _ _ _ _; first | refine wpO_nil ?_ | refine s_rdp ?_ | refine s_rdm ?_ | refine s_exq ?_ | refine s_exm ?_) | (show Ex _ _ _ _ _; first | (show Ex _ ⟨_, .call ⟨.value (.func _), _, _⟩, _, _, _, _⟩ _ _ _; refine e_call ?_; first | (apply p_pcs; apply rmayEntry _ hx hz; (try case hS => assumption); (case hpcs => (repeat (first | exact Pcs.blk (by infer_instance) | exact Pcs.nil | (apply Pcs.cons; infer_instance) | apply Pcs.app)))) | (apply hE1) | (apply hE0)) | (show Ex _ ⟨_, .box _ _, _, _, _, _⟩ _ _ _; first | (refine e_boxA ?_; intro _) | (refine e_box1 ?_; intro _))) | (show wpC _ _ _ _ _ _; first | refine wpC_seq ?_ | refine wpC_region ?_ | refine wpC_ret ?_ | refine wpC_skip ?_ | refine wpC_label ?_) | (show Then _ _ _ _ _ _ _; first | refine then_normal ?_ | refine then_ret ?_) | (show RetP _ _ _ _ _ _ _ _; first | refine r_1 ?_) | assumption | intro _)
  all_goals first | exact q_drop (h1 (by assumption)) | exact q_drop (h0 (by assumption)) | trace_state
end Go.Vl

namespace Go.Vl
open Go.RowKit
theorem putL_eq : ∀ (r l : List Value) (o : Nat), o + r.length ≤ l.length → putL l o r = l.take o ++ (r ++ l.drop (o + r.length))
  | [], l, o, h => by simp [putL]
  | v :: r, l, o, h => by
    have h : o + (r.length + 1) ≤ l.length := by simpa using h
    rw [putL, putL_eq r (l.set o v) (o + 1) (by rw [List.length_set]; omega)]
    have h1 : (l.set o v).take (o + 1) = l.take o ++ [v] := by
      rw [List.take_set, List.take_add_one, List.set_append_right _ _ (by rw [List.length_take]; omega)]
      rw [show o - (l.take o).length = 0 by rw [List.length_take]; omega, List.getElem?_eq_getElem (by omega)]
      rfl
    have h2 : (l.set o v).drop (o + 1 + r.length) = l.drop (o + (v :: r).length) := by
      rw [List.drop_set_of_lt (by omega)]
      congr 1
      simp; omega
    rw [h1, h2]
    simp
theorem flat_put {sz : Nat} : ∀ {rows : List (List Value)} {i : Nat} {r : List Value}, (∀ x ∈ rows, x.length = sz) → r.length = sz → i < rows.length → rows.flatten.take (i * sz) ++ (r ++ rows.flatten.drop (i * sz + sz)) = (rows.set i r).flatten
  | [], i, r, _, _, h => by simp at h
  | x :: rows, 0, r, h, hr, _ => by
    have hx : x.length = sz := h x (by simp)
    simp only [Nat.zero_mul, List.take_zero, List.nil_append, Nat.zero_add, List.flatten_cons, List.set_cons_zero]
    rw [List.drop_append_of_le_length (by omega), ← hx, List.drop_length, List.nil_append]
  | x :: rows, i + 1, r, h, hr, hi => by
    have hx : x.length = sz := h x (by simp)
    have ih := flat_put (rows := rows) (i := i) (r := r) (fun y hy => h y (List.mem_cons_of_mem _ hy)) hr (by simpa using hi)
    rw [List.set_cons_succ, List.flatten_cons, List.flatten_cons, ← ih]
    have e1 : (i + 1) * sz = x.length + i * sz := by rw [Nat.succ_mul]; omega
    rw [e1, List.take_length_add_append, show x.length + i * sz + sz = x.length + (i * sz + sz) by omega, List.drop_length_add_append, List.append_assoc]
section
variable {C : Cx} {ρ : Fr} {H : Hp} {d : Option Nat} {ty : TypeId} {pos : String} {af : Array Edge} {K : Value → Hp → Prop}
theorem e_storeRowR {t g n cap i sz : Nat} {x y : Operand} {cur : Array Value} {rows : List (List Value)} {r : List Value} {T : TypeId} {f : Obj → Hp} {gd : Option (Nat × Bool)} (h : ∀ cur', SlO T sz (.slice (some ⟨g, 0, none⟩) n cap) n (rows.set i r).flatten [(g, .cells cur' T (0, 0))] → K undef (f (.cells cur' T (0, 0))))
    (hx : ev ρ x = .pointer (some ⟨g, 0 + i * sz, none⟩)) (hy : ev ρ y = .agg r.toArray) (hs : Go.Vl.sz C.P t = some r.length) (ho : ones r = true)
    (hS : SlO T sz (.slice (some ⟨g, 0, none⟩) n cap) n rows.flatten [(g, .cells cur T (0, 0))]) (hl : r.length = sz) (hrl : ∀ x ∈ rows, x.length = sz) (hrn : rows.length = n) (hi : i < n) (hz : Zp H g (.cells cur T (0, 0)) f) : Ex C ⟨d, .store t x y, ty, pos, af, gd⟩ K ρ H := by
  obtain ⟨hlen, hw⟩ := hS
  rcases hw with ⟨a, ha, _⟩ | ⟨g', cap', cur', hv, hB, hn, hc, hcs, ht⟩
  · cases ha
    omega
  · cases hv
    cases hB
    have hin : i * sz + sz ≤ n * sz := by
      have := Nat.mul_le_mul_right sz (show i + 1 ≤ n by omega)
      rw [Nat.succ_mul] at this
      exact this
    have hcap : n * sz ≤ cap * sz := Nat.mul_le_mul_right _ hn
    have hz' : Zip H g (cellsO cur.toList T) f := by simpa using hz.zip
    refine ex_storeA hx hy hs ho hz' (by simp [Nat.ble_eq]; omega) rfl ?_
    have hp := putL_eq r cur.toList (0 + i * sz) (by simp; omega)
    have hfin : (putL cur.toList (0 + i * sz) r).take (n * sz) = (rows.set i r).flatten := by
      rw [← flat_put hrl hl (by omega), ← ht, hp, Nat.zero_add, hl]
      rw [List.take_append, List.take_take, List.length_take, List.take_append, hl]
      have e1 : min (i * sz) cur.toList.length = i * sz := by simp; omega
      rw [e1, Nat.min_eq_right (by omega : i * sz ≤ n * sz), List.take_of_length_le (show r.length ≤ _ by omega)]
      rw [List.take_take, Nat.min_eq_left (by omega : i * sz ≤ n * sz), List.drop_take]
      congr 3
      omega
    refine h (putL cur.toList (0 + i * sz) r).toArray ⟨?_, .inr ⟨g, cap, _, rfl, rfl, hn, hc, ?_, ?_⟩⟩
    · rw [← hfin, List.length_take, putL_length]; simp; omega
    · simp [putL_length]; exact hcs
    · simpa using hfin
end
end Go.Vl

namespace Go.Vl
open Go.Proofs Classical
set_option maxHeartbeats 4000000 in
set_option maxRecDepth 100000 in
theorem repL_eq {R S : Nat → Rep} : ∀ {n : Nat}, (∀ j, (R j).prom = (S j).prom ∧ (R j).v = (S j).v) → repL R n = repL S n
  | 0, _ => rfl
  | n + 1, h => by rw [repL_succ, repL_succ, repL_eq (n := n) h, (h n).1, (h n).2]
set_option maxHeartbeats 4000000 in
set_option maxRecDepth 100000 in
theorem slInn {v : Value} {ls : List SlR} {B : Hp} (h : SlO 51 59 v ls.length (ls.map SlR.cells).flatten B) : InSl B 59 (ls.map SlR.cells) v :=
  SlO.inB (by rw [List.length_map]; exact h) (fun r hr => by obtain ⟨x, _, rfl⟩ := List.mem_map.1 hr; exact ⟨rfl, rfl⟩)
attribute [local irreducible] eqW eqV wpC wpO wpD Ex Rd callsK RetP Drop valK
set_option maxHeartbeats 4000000 in
set_option maxRecDepth 100000 in
theorem raccept (e : World) {rb i n : Nat} {R : Nat → Rep} {s : SlR} {prom : Bal} {v : Value} {ls : List SlR} {B F : Hp} {K : Value → Hp → Prop} (hi : i < n) (hR : R i = ⟨prom, v, ls, B⟩) (hS : SlO 51 59 v ls.length (ls.map SlR.cells).flatten B) (hlen : ls.length * 528 + 528 ≤ 140737488355328)
    (h0 : s.bal.lt prom → K (.bool false) (([(rb, cellsO (repL R n) 72)] ++ B) ++ F))
    (h1 : ¬ s.bal.lt prom → (∀ t ∈ ls, t.slot ≠ s.slot) → ∀ v' B', SlO 51 59 v' (ls ++ [s]).length ((ls ++ [s]).map SlR.cells).flatten B' → K (.bool true) (([(rb, cellsO (repL (updR R i ⟨s.bal, v', ls ++ [s], B'⟩) n) 72)] ++ B') ++ F))
    (h2 : ¬ s.bal.lt prom → ∀ k t, ls[k]? = some t → t.slot = s.slot → (∀ u ∈ ls.take k, u.slot ≠ s.slot) → ∀ B', SlO 51 59 v (ls.set k s).length ((ls.set k s).map SlR.cells).flatten B' → K (.bool true) (([(rb, cellsO (repL (updR R i ⟨s.bal, v, ls.set k s, B'⟩) n) 72)] ++ B') ++ F)) :
    callsK Try.prog e 21 #[.pointer (some ⟨rb, i * 3, none⟩), slV s] (([(rb, cellsO (repL R n) 72)] ++ B) ++ F) K := by
  have hb0 : RowAt (repL R n).toArray (i * 3 + 0) 2 [.int .i64 prom.r, .int .i64 prom.p] := by have := rep_bal (R := R) hi; rw [hR] at this; exact this
  have hput := rep_putb (R := R) hi s.bal
  have hble : Nat.ble (i * 3 + 0 + [Value.int .i64 s.bal.r, Value.int .i64 s.bal.p].length) (repL R n).length = true := by rw [repL_len]; simp only [List.length_cons, List.length_nil]; exact Nat.ble_eq_true_of_le (by omega)
  rw [hR] at hput
  simp only at hput
  have hs1 : (repL (updR R i ⟨s.bal, v, ls, B⟩) n)[i * 3 + 2]? = some v := by
    have := rep_sl (R := updR R i ⟨s.bal, v, ls, B⟩) hi
    rwa [updR_same] at this
  have hin := slInn hS
  have hml : (ls.map SlR.cells).length = ls.length := List.length_map _
  have hpv : ∀ v' : Value, (repL (updR R i ⟨s.bal, v, ls, B⟩) n).set (i * 3 + 2) v' = repL (updR R i ⟨s.bal, v', ls ++ [s], []⟩) n := fun v' => by
    rw [rep_puts hi v' (ls ++ [s]) []]
    refine repL_eq fun j => ?_
    by_cases hj : j = i
    · subst hj; rw [updR_same, updR_same, updR_same]; exact ⟨rfl, rfl⟩
    · rw [updR_ne hj, updR_ne hj, updR_ne hj]; exact ⟨rfl, rfl⟩
  have hble2 : Nat.ble (i * 3 + 2 + 1) (repL (updR R i ⟨s.bal, v, ls, B⟩) n).length = true := by rw [repL_len]; exact Nat.ble_eq_true_of_le (by omega)
  have hfin : ∀ v' B' l, repL (updR R i ⟨s.bal, v', l, B'⟩) n = repL (updR R i ⟨s.bal, v', l, []⟩) n := fun v' B' l => repL_eq fun j => by
    by_cases hj : j = i
    · subst hj; rw [updR_same, updR_same]; exact ⟨rfl, rfl⟩
    · rw [updR_ne hj, updR_ne hj]; exact ⟨rfl, rfl⟩
  refine calls_body (N := 55) (args := [.pointer (some ⟨rb, i * 3, none⟩), slV s]) Try.func21 rfl rfl rfl (by simp) ?_
  repeat' ((fail_if_success (show wpC _ (.loop _) _ _ _ _)); first | refine s_rdm ?_ (hr := by (apply rd_loadI; exact rfl; exact rfl; infer_instance; exact hs1; done)) | refine d_rdm ?_ (hr := by (apply rd_loadI; exact rfl; exact rfl; infer_instance; exact hs1; done)) | (show wpO _ _ _ _ _ _ _; first | refine wpO_nil ?_ | (show wpO _ _ _ (⟨_, .binOp _ _ _ _ _, _, _, _, _⟩ :: _) _ _ _; first | refine s_tt ?_ | refine s_ff ?_ | refine s_rdp ?_ | (refine s_cmp (fun _ => ?_) (fun _ => ?_) <;> (first | (exfalso; omega) | contradiction | skip)) | (refine s_cb (fun _ => ?_) (fun _ => ?_) <;> (first | (exfalso; omega) | contradiction | skip))) | (show wpO _ _ _ (⟨_, .indexAddr _ _ _, _, _, _, _⟩ :: _) _ _ _; first | refine s_rdp ?_ | refine s_idx (fun _ _ _ _ _ _ _ => ?_)) | refine s_rdp ?_ | refine s_rdm ?_ | refine s_exq ?_ | refine s_exm ?_) | (show Ex _ _ _ _ _; first | (refine e_storeA (l' := repL (updR R i ⟨s.bal, v, ls, B⟩) n) ?_ (hlen := hble) (hl' := hput)) | (show Ex _ ⟨_, .call ⟨.value (.func _), _, _⟩, _, _, _, _⟩ _ _ _; refine e_call ?_; first | (apply lless _ (a := s.bal) (b := prom))) | (show Ex _ ⟨_, .box _ _, _, _, _, _⟩ _ _ _; first | (refine e_boxA ?_; intro _) | (refine e_box1 ?_; intro _)) | (show Ex _ ⟨_, .store _ _ _, _, _, _, _⟩ _ _ _; first | refine e_store1 ?_ | refine e_storeA ?_ | (refine e_storeO ?_; intro _ _)) | (show Ex _ ⟨_, .buildSlice _ _ _, _, _, _, _⟩ _ _ _; first | (refine e_buildSlice ?_; intro _) | (refine e_buildNil ?_; intro _ _ _)) | (show Ex _ ⟨_, .call ⟨.builtin .append, _, _⟩, _, _, _, _⟩ _ _ _; (first | refine e_append ?_ | refine e_appendIn ?_); intro _ _ _)) | (show wpC _ _ _ _ _ _; first | refine wpC_seq ?_ | refine wpC_region ?_ | refine c_true ?_ | refine c_false ?_ | (refine c_b (fun _ => ?_) (fun _ => ?_) <;> (first | (exfalso; omega) | contradiction | skip)) | refine wpC_block ?_ | refine wpC_ret ?_ | refine wpC_skip ?_ | refine wpC_exit ?_ | refine wpC_label ?_ | (apply wpC_drawX (id := 1) ([]) [0, 1, 2, 3, 4, 5, 6] rfl (by kernel_rfl); (case hpk => (repeat (first | exact Pcs.blk (by infer_instance) | exact Pcs.nil | (apply Pcs.cons; infer_instance) | apply Pcs.app)))) | (apply wpC_drawX (id := 7) ([]) [0, 1, 2, 3, 4, 5, 6, 7, 8, 9, 10] rfl (by kernel_rfl); (case hpk => (repeat (first | exact Pcs.blk (by infer_instance) | exact Pcs.nil | (apply Pcs.cons; infer_instance) | apply Pcs.app)))) | (apply wpC_drawX (id := 8) ([]) [0, 1, 2, 3, 4, 5, 6, 7] rfl (by kernel_rfl); (case hpk => (repeat (first | exact Pcs.blk (by infer_instance) | exact Pcs.nil | (apply Pcs.cons; infer_instance) | apply Pcs.app)))) | (apply wpC_drawX (id := 11) ([]) [0, 1, 2, 3, 4, 5, 6, 7, 8, 9, 10] rfl (by kernel_rfl); (case hpk => (repeat (first | exact Pcs.blk (by infer_instance) | exact Pcs.nil | (apply Pcs.cons; infer_instance) | apply Pcs.app))))) | (show Then _ _ _ _ _ _ _; first | refine then_normal ?_ | refine then_ret ?_ | refine then_exit ?_) | (show InBlock _ _ _ _ _ _; first | refine inBlock_normal ?_ | refine inBlock_ret ?_ | refine inBlock_same ?_ | refine b_other ?_) | (show LoopPost _ _ _ _ _ _; first | refine loop_ret ?_ | refine loop_exit ?_) | (show wpD _ _ _ _ _ _ _ _; first | refine wpD_nil ?_ | refine d_rdp ?_ | refine d_rdm ?_ | refine d_tt ?_ | refine d_ff ?_ | (refine d_cmp (fun _ => ?_) (fun _ => ?_) <;> (first | (exfalso; omega) | contradiction | skip)) | (refine d_cb (fun _ => ?_) (fun _ => ?_) <;> (first | (exfalso; omega) | contradiction | skip)) | refine d_idx (fun _ _ _ _ _ _ _ => ?_) | refine d_exs ?_ | refine d_exn ?_) | (show (_ ∨ Subs _ _) ∧ _; first | refine d_sub ?_ | refine d_cov ?_) | (show RetP _ _ _ _ _ _ _ _; first | refine r_1 ?_) | assumption | intro _)
  · exact q_drop (h0 (by assumption))
  rename_i b3 hlt
  generalize hR1 : repL (updR R i ⟨s.bal, v, ls, B⟩) n = R1 at *
  refine wpC_loopA (κ := Nat) [4, 5, 23, 24, 25, 26, 27, 28, 29, 30, 31, 32, 33, 34, 35, 36, 37, 38, 39, 40, 41, 42, 43, 44] (fun k => [(23, .int .i64 (k : Int))]) (fun _ => ([(b3, cellsO s.cells 51), (rb, cellsO R1 72)] ++ B) ++ F) (fun k => k ≤ ls.length ∧ ∀ t ∈ ls.take k, t.slot ≠ s.slot) (fun k => ls.length - k) 0 ⟨Nat.zero_le _, by simp⟩ ⟨rfl, trivial⟩ q_drp ?_
  rintro k ρx ⟨hk, hno⟩
  cases hr : ls[k]? with
  | some t =>
    have hkl := (List.getElem?_eq_some_iff.1 hr).1
    have hrc : (ls.map SlR.cells)[k]? = some t.cells := by rw [List.getElem?_map, hr]; rfl
    by_cases hts : t.slot = s.slot
    · rcases hS.2 with ⟨a, rfl, hn, rfl⟩ | ⟨g, cap, cur, rfl, rfl, hnc, hcm, hcs, ht⟩
      · omega
      · have hra : RowAt cur (0 + k * 59) 59 t.cells := by
          refine ⟨rfl, fun j w hj => ?_⟩
          have h9 := flat_get (n := 59) (fun r hr => by obtain ⟨x, _, rfl⟩ := List.mem_map.1 hr; rfl) hrc j w hj
          rw [← ht] at h9
          have := take_some h9
          simpa using this
        repeat' (first | refine s_rdm ?_ (hr := by (apply rd_loadI; exact rfl; exact rfl; infer_instance; exact hs1; done)) | refine d_rdm ?_ (hr := by (apply rd_loadI; exact rfl; exact rfl; infer_instance; exact hs1; done)) | (show wpO _ _ _ _ _ _ _; first | refine wpO_nil ?_ | (show wpO _ _ _ (⟨_, .binOp _ _ _ _ _, _, _, _, _⟩ :: _) _ _ _; first | refine s_tt ?_ | refine s_ff ?_ | refine s_rdp ?_ | (refine s_cmp (fun _ => ?_) (fun _ => ?_) <;> (first | (exfalso; omega) | contradiction | skip)) | (refine s_cb (fun _ => ?_) (fun _ => ?_) <;> (first | (exfalso; omega) | contradiction | skip))) | (show wpO _ _ _ (⟨_, .indexAddr _ _ _, _, _, _, _⟩ :: _) _ _ _; first | refine s_rdp ?_ | refine s_idx (fun _ _ _ _ _ _ _ => ?_)) | refine s_rdp ?_ | refine s_rdm ?_ | refine s_exq ?_ | refine s_exm ?_) | (show Ex _ _ _ _ _; first | (refine e_storeRowR (rows := ls.map SlR.cells) (r := s.cells) (i := k) (sz := 59) ?_ rfl rfl rfl rfl hS rfl (fun r hr => by obtain ⟨x, _, rfl⟩ := List.mem_map.1 hr; rfl) hml hkl (by infer_instance)) | (show Ex _ ⟨_, .box _ _, _, _, _, _⟩ _ _ _; first | (refine e_boxA ?_; intro _) | (refine e_box1 ?_; intro _)) | (show Ex _ ⟨_, .store _ _ _, _, _, _, _⟩ _ _ _; first | refine e_store1 ?_ | refine e_storeA ?_ | (refine e_storeO ?_; intro _ _)) | (show Ex _ ⟨_, .buildSlice _ _ _, _, _, _, _⟩ _ _ _; first | (refine e_buildSlice ?_; intro _) | (refine e_buildNil ?_; intro _ _ _)) | (show Ex _ ⟨_, .call ⟨.builtin .append, _, _⟩, _, _, _, _⟩ _ _ _; (first | refine e_append ?_ | refine e_appendIn ?_); intro _ _ _)) | (show wpC _ _ _ _ _ _; first | refine wpC_seq ?_ | refine wpC_region ?_ | refine c_true ?_ | refine c_false ?_ | (refine c_b (fun _ => ?_) (fun _ => ?_) <;> (first | (exfalso; omega) | contradiction | skip)) | refine wpC_block ?_ | refine wpC_ret ?_ | refine wpC_skip ?_ | refine wpC_exit ?_ | refine wpC_label ?_ | (apply wpC_drawX (id := 1) ([]) [0, 1, 2, 3, 4, 5, 6] rfl (by kernel_rfl); (case hpk => (repeat (first | exact Pcs.blk (by infer_instance) | exact Pcs.nil | (apply Pcs.cons; infer_instance) | apply Pcs.app)))) | (apply wpC_drawX (id := 7) ([]) [0, 1, 2, 3, 4, 5, 6, 7, 8, 9, 10] rfl (by kernel_rfl); (case hpk => (repeat (first | exact Pcs.blk (by infer_instance) | exact Pcs.nil | (apply Pcs.cons; infer_instance) | apply Pcs.app)))) | (apply wpC_drawX (id := 8) ([]) [0, 1, 2, 3, 4, 5, 6, 7] rfl (by kernel_rfl); (case hpk => (repeat (first | exact Pcs.blk (by infer_instance) | exact Pcs.nil | (apply Pcs.cons; infer_instance) | apply Pcs.app)))) | (apply wpC_drawX (id := 11) ([]) [0, 1, 2, 3, 4, 5, 6, 7, 8, 9, 10] rfl (by kernel_rfl); (case hpk => (repeat (first | exact Pcs.blk (by infer_instance) | exact Pcs.nil | (apply Pcs.cons; infer_instance) | apply Pcs.app))))) | (show Then _ _ _ _ _ _ _; first | refine then_normal ?_ | refine then_ret ?_ | refine then_exit ?_) | (show InBlock _ _ _ _ _ _; first | refine inBlock_normal ?_ | refine inBlock_ret ?_ | refine inBlock_same ?_ | refine b_other ?_) | (show LoopPost _ _ _ _ _ _; first | refine loop_ret ?_ | refine loop_exit ?_) | (show wpD _ _ _ _ _ _ _ _; first | refine wpD_nil ?_ | refine d_rdp ?_ | refine d_rdm ?_ | refine d_tt ?_ | refine d_ff ?_ | (refine d_cmp (fun _ => ?_) (fun _ => ?_) <;> (first | (exfalso; omega) | contradiction | skip)) | (refine d_cb (fun _ => ?_) (fun _ => ?_) <;> (first | (exfalso; omega) | contradiction | skip)) | refine d_idx (fun _ _ _ _ _ _ _ => ?_) | refine d_exs ?_ | refine d_exn ?_) | (show (_ ∨ Subs _ _) ∧ _; first | refine d_sub ?_ | refine d_cov ?_) | (show RetP _ _ _ _ _ _ _ _; first | refine r_1 ?_) | assumption | intro _)
        all_goals first | (exfalso; omega) | skip
        rename_i cur' hS'
        have hmap : (ls.map SlR.cells).set k s.cells = (ls.set k s).map SlR.cells := by rw [List.map_set]
        rw [hmap] at hS'
        have := h2 hlt k t hr hts hno _ (hS'.cast (by simp) rfl)
        have hRR : repL (updR R i ⟨s.bal, .slice (some ⟨g, 0, none⟩) ls.length cap, ls.set k s, [(g, .cells cur' 51 (0, 0))]⟩) n = R1 := by
          rw [← hR1]
          refine repL_eq fun j => ?_
          by_cases hj : j = i
          · subst hj; rw [updR_same, updR_same]; exact ⟨rfl, rfl⟩
          · rw [updR_ne hj, updR_ne hj]; exact ⟨rfl, rfl⟩
        rw [hRR] at this
        exact q_drop this
    · repeat' (first | refine s_rdm ?_ (hr := by (apply rd_loadI; exact rfl; exact rfl; infer_instance; exact hs1; done)) | refine d_rdm ?_ (hr := by (apply rd_loadI; exact rfl; exact rfl; infer_instance; exact hs1; done)) | (show wpO _ _ _ _ _ _ _; first | refine wpO_nil ?_ | (show wpO _ _ _ (⟨_, .binOp _ _ _ _ _, _, _, _, _⟩ :: _) _ _ _; first | refine s_tt ?_ | refine s_ff ?_ | refine s_rdp ?_ | (refine s_cmp (fun _ => ?_) (fun _ => ?_) <;> (first | (exfalso; omega) | contradiction | skip)) | (refine s_cb (fun _ => ?_) (fun _ => ?_) <;> (first | (exfalso; omega) | contradiction | skip))) | (show wpO _ _ _ (⟨_, .indexAddr _ _ _, _, _, _, _⟩ :: _) _ _ _; first | refine s_rdp ?_ | refine s_idx (fun _ _ _ _ _ _ _ => ?_)) | refine s_rdp ?_ | refine s_rdm ?_ | refine s_exq ?_ | refine s_exm ?_) | (show Ex _ _ _ _ _; first | (show Ex _ ⟨_, .box _ _, _, _, _, _⟩ _ _ _; first | (refine e_boxA ?_; intro _) | (refine e_box1 ?_; intro _)) | (show Ex _ ⟨_, .store _ _ _, _, _, _, _⟩ _ _ _; first | refine e_store1 ?_ | refine e_storeA ?_ | (refine e_storeO ?_; intro _ _)) | (show Ex _ ⟨_, .buildSlice _ _ _, _, _, _, _⟩ _ _ _; first | (refine e_buildSlice ?_; intro _) | (refine e_buildNil ?_; intro _ _ _)) | (show Ex _ ⟨_, .call ⟨.builtin .append, _, _⟩, _, _, _, _⟩ _ _ _; (first | refine e_append ?_ | refine e_appendIn ?_); intro _ _ _)) | (show wpC _ _ _ _ _ _; first | refine wpC_seq ?_ | refine wpC_region ?_ | refine c_true ?_ | refine c_false ?_ | (refine c_b (fun _ => ?_) (fun _ => ?_) <;> (first | (exfalso; omega) | contradiction | skip)) | refine wpC_block ?_ | refine wpC_ret ?_ | refine wpC_skip ?_ | refine wpC_exit ?_ | refine wpC_label ?_ | (apply wpC_drawX (id := 1) ([]) [0, 1, 2, 3, 4, 5, 6] rfl (by kernel_rfl); (case hpk => (repeat (first | exact Pcs.blk (by infer_instance) | exact Pcs.nil | (apply Pcs.cons; infer_instance) | apply Pcs.app)))) | (apply wpC_drawX (id := 7) ([]) [0, 1, 2, 3, 4, 5, 6, 7, 8, 9, 10] rfl (by kernel_rfl); (case hpk => (repeat (first | exact Pcs.blk (by infer_instance) | exact Pcs.nil | (apply Pcs.cons; infer_instance) | apply Pcs.app)))) | (apply wpC_drawX (id := 8) ([]) [0, 1, 2, 3, 4, 5, 6, 7] rfl (by kernel_rfl); (case hpk => (repeat (first | exact Pcs.blk (by infer_instance) | exact Pcs.nil | (apply Pcs.cons; infer_instance) | apply Pcs.app)))) | (apply wpC_drawX (id := 11) ([]) [0, 1, 2, 3, 4, 5, 6, 7, 8, 9, 10] rfl (by kernel_rfl); (case hpk => (repeat (first | exact Pcs.blk (by infer_instance) | exact Pcs.nil | (apply Pcs.cons; infer_instance) | apply Pcs.app))))) | (show Then _ _ _ _ _ _ _; first | refine then_normal ?_ | refine then_ret ?_ | refine then_exit ?_) | (show InBlock _ _ _ _ _ _; first | refine inBlock_normal ?_ | refine inBlock_ret ?_ | refine inBlock_same ?_ | refine b_other ?_) | (show LoopPost _ _ _ _ _ _; first | refine loop_ret ?_ | refine loop_exit ?_) | (show wpD _ _ _ _ _ _ _ _; first | refine wpD_nil ?_ | refine d_rdp ?_ | refine d_rdm ?_ | refine d_tt ?_ | refine d_ff ?_ | (refine d_cmp (fun _ => ?_) (fun _ => ?_) <;> (first | (exfalso; omega) | contradiction | skip)) | (refine d_cb (fun _ => ?_) (fun _ => ?_) <;> (first | (exfalso; omega) | contradiction | skip)) | refine d_idx (fun _ _ _ _ _ _ _ => ?_) | refine d_exs ?_ | refine d_exn ?_) | (show (_ ∨ Subs _ _) ∧ _; first | refine d_sub ?_ | refine d_cov ?_) | (show RetP _ _ _ _ _ _ _ _; first | refine r_1 ?_))
      all_goals first
        | (exfalso; omega)
        | (refine lp_end (k + 1) (by show ls.length - (k + 1) < ls.length - k; omega) ⟨hkl, fun u hu => ?_⟩
           rw [List.take_add_one, hr] at hu
           rcases List.mem_append.1 hu with hu | hu
           · exact hno u hu
           · rw [List.mem_singleton.1 hu]; exact hts)
        | trace_state
  | none =>
    have hge : ls.length ≤ k := List.getElem?_eq_none_iff.1 hr
    rw [List.take_of_length_le hge] at hno
    repeat' (first | refine s_rdm ?_ (hr := by (apply rd_loadI; exact rfl; exact rfl; infer_instance; exact hs1; done)) | refine d_rdm ?_ (hr := by (apply rd_loadI; exact rfl; exact rfl; infer_instance; exact hs1; done)) | (show wpO _ _ _ _ _ _ _; first | refine wpO_nil ?_ | (show wpO _ _ _ (⟨_, .binOp _ _ _ _ _, _, _, _, _⟩ :: _) _ _ _; first | refine s_tt ?_ | refine s_ff ?_ | refine s_rdp ?_ | (refine s_cmp (fun _ => ?_) (fun _ => ?_) <;> (first | (exfalso; omega) | contradiction | skip)) | (refine s_cb (fun _ => ?_) (fun _ => ?_) <;> (first | (exfalso; omega) | contradiction | skip))) | (show wpO _ _ _ (⟨_, .indexAddr _ _ _, _, _, _, _⟩ :: _) _ _ _; first | refine s_rdp ?_ | refine s_idx (fun _ _ _ _ _ _ _ => ?_)) | refine s_rdp ?_ | refine s_rdm ?_ | refine s_exq ?_ | refine s_exm ?_) | (show Ex _ _ _ _ _; first | (refine e_store1 ?_ (hlen := hble2) (hl' := hpv _)) | (show Ex _ ⟨_, .box _ _, _, _, _, _⟩ _ _ _; first | (refine e_boxA ?_; intro _) | (refine e_box1 ?_; intro _)) | (show Ex _ ⟨_, .store _ _ _, _, _, _, _⟩ _ _ _; first | refine e_store1 ?_ | refine e_storeA ?_ | (refine e_storeO ?_; intro _ _)) | (show Ex _ ⟨_, .buildSlice _ _ _, _, _, _, _⟩ _ _ _; first | (refine e_buildSlice ?_; intro _) | (refine e_buildNil ?_; intro _ _ _)) | (show Ex _ ⟨_, .call ⟨.builtin .append, _, _⟩, _, _, _, _⟩ _ _ _; (first | refine e_append ?_ | refine e_appendIn ?_); intro _ _ _)) | (show wpC _ _ _ _ _ _; first | refine wpC_seq ?_ | refine wpC_region ?_ | refine c_true ?_ | refine c_false ?_ | (refine c_b (fun _ => ?_) (fun _ => ?_) <;> (first | (exfalso; omega) | contradiction | skip)) | refine wpC_block ?_ | refine wpC_ret ?_ | refine wpC_skip ?_ | refine wpC_exit ?_ | refine wpC_label ?_ | (apply wpC_drawX (id := 11) (B) [0, 1, 2, 3, 4, 5, 6, 7, 8, 9, 10] rfl (by kernel_rfl); (case hpk => (repeat (first | exact Pcs.blk (by infer_instance) | exact Pcs.nil | (apply Pcs.cons; infer_instance) | apply Pcs.app)))) | (apply wpC_drawX (id := 1) ([]) [0, 1, 2, 3, 4, 5, 6] rfl (by kernel_rfl); (case hpk => (repeat (first | exact Pcs.blk (by infer_instance) | exact Pcs.nil | (apply Pcs.cons; infer_instance) | apply Pcs.app)))) | (apply wpC_drawX (id := 7) ([]) [0, 1, 2, 3, 4, 5, 6, 7, 8, 9, 10] rfl (by kernel_rfl); (case hpk => (repeat (first | exact Pcs.blk (by infer_instance) | exact Pcs.nil | (apply Pcs.cons; infer_instance) | apply Pcs.app)))) | (apply wpC_drawX (id := 8) ([]) [0, 1, 2, 3, 4, 5, 6, 7] rfl (by kernel_rfl); (case hpk => (repeat (first | exact Pcs.blk (by infer_instance) | exact Pcs.nil | (apply Pcs.cons; infer_instance) | apply Pcs.app))))) | (show Then _ _ _ _ _ _ _; first | refine then_normal ?_ | refine then_ret ?_ | refine then_exit ?_) | (show InBlock _ _ _ _ _ _; first | refine inBlock_normal ?_ | refine inBlock_ret ?_ | refine inBlock_same ?_ | refine b_other ?_) | (show LoopPost _ _ _ _ _ _; first | refine loop_ret ?_ | refine loop_exit ?_) | (show wpD _ _ _ _ _ _ _ _; first | refine wpD_nil ?_ | refine d_rdp ?_ | refine d_rdm ?_ | refine d_tt ?_ | refine d_ff ?_ | (refine d_cmp (fun _ => ?_) (fun _ => ?_) <;> (first | (exfalso; omega) | contradiction | skip)) | (refine d_cb (fun _ => ?_) (fun _ => ?_) <;> (first | (exfalso; omega) | contradiction | skip)) | refine d_idx (fun _ _ _ _ _ _ _ => ?_) | refine d_exs ?_ | refine d_exn ?_) | (show (_ ∨ Subs _ _) ∧ _; first | refine d_sub ?_ | refine d_cov ?_) | (show RetP _ _ _ _ _ _ _ _; first | refine r_1 ?_) | assumption | intro _)
    all_goals first | (exfalso; omega) | skip
    rename_i bx v' Bs' hv'
    have := h1 hlt hno v' Bs' (hv'.cast (by simp) (by simp))
    rw [hfin] at this
    exact q_drop this
end Go.Vl

namespace Go.Vl
open Go.Proofs Classical
set_option maxHeartbeats 4000000 in
set_option maxRecDepth 100000 in
theorem info72 : ∃ i, Try.prog.info? 72 = some i ∧ i.zero = some (.agg #[.int .i64 0, .int .i64 0, .slice none 0 0]) ∧ i.size = 3 ∧ i.bytes = 40 := by
  have h1 : (Try.prog.info? 72).bind (fun i => i.zero) = some (.agg #[.int .i64 0, .int .i64 0, .slice none 0 0]) := by kernel_rfl
  have h2 : (Try.prog.info? 72).map (fun i => (i.size, i.bytes)) = some (3, 40) := by kernel_rfl
  cases h : Try.prog.info? 72 with
  | none => rw [h] at h2; cases h2
  | some i =>
    rw [h] at h1 h2
    simp only [Option.map_some, Option.some.injEq, Prod.mk.injEq] at h2
    exact ⟨i, rfl, h1, h2.1, h2.2⟩
set_option maxHeartbeats 4000000 in
set_option maxRecDepth 100000 in
theorem info4 : ∃ i, Try.prog.info? 4 = some i ∧ i.zero = some (.bool false) ∧ i.size = 1 ∧ i.bytes = 1 := by
  have h1 : (Try.prog.info? 4).bind (fun i => i.zero) = some (.bool false) := by kernel_rfl
  have h2 : (Try.prog.info? 4).map (fun i => (i.size, i.bytes)) = some (1, 1) := by kernel_rfl
  cases h : Try.prog.info? 4 with
  | none => rw [h] at h2; cases h2
  | some i =>
    rw [h] at h1 h2
    simp only [Option.map_some, Option.some.injEq, Prod.mk.injEq] at h2
    exact ⟨i, rfl, h1, h2.1, h2.2⟩
section
variable {N : Nat} {rr : Option Nat} {e : World} {ρ : Fr} {H : Hp} {d : Option Nat} {ty : TypeId} {pos : String} {af : Array Edge} {g : Option (Nat × Bool)} {K : Value → Hp → Prop}
set_option maxHeartbeats 4000000 in
set_option maxRecDepth 100000 in
theorem e_mk65 {x : Operand} {n : Nat} (h : ∀ b, K (.slice (some ⟨b, 0, none⟩) n n) ((b, cellsO (List.replicate n [Value.int .i64 0, Value.int .i64 0, Value.slice none 0 0]).flatten 72) :: H)) (hx : ev ρ x = .int .i64 (n : Int)) (hn : n ≤ 5) : Ex ⟨Try.prog, N, rr, e⟩ ⟨d, .makeSlice 65 x x, ty, pos, af, g⟩ K ρ H := by
  obtain ⟨i, h1, h2, h3, h4⟩ := info72
  exact e_makeSlice (el := 72) h hx (by kernel_rfl) h1 h2 h3 (by decide) (by rw [h4]; omega) (by omega)
set_option maxHeartbeats 4000000 in
set_option maxRecDepth 100000 in
theorem e_mk99 {x : Operand} {n : Nat} (h : ∀ b, K (.slice (some ⟨b, 0, none⟩) n n) ((b, cellsO (List.replicate n [Value.bool false]).flatten 4) :: H)) (hx : ev ρ x = .int .i64 (n : Int)) (hn : n ≤ 5) : Ex ⟨Try.prog, N, rr, e⟩ ⟨d, .makeSlice 99 x x, ty, pos, af, g⟩ K ρ H := by
  obtain ⟨i, h1, h2, h3, h4⟩ := info4
  exact e_makeSlice (el := 4) h hx (by kernel_rfl) h1 h2 h3 (by decide) (by rw [h4]; omega) (by omega)
end
def rep0 : Nat → Rep := fun _ => ⟨⟨0, 0⟩, .slice none 0 0, [], []⟩
set_option maxHeartbeats 4000000 in
set_option maxRecDepth 100000 in
theorem repL_0 : ∀ n : Nat, (List.replicate n [Value.int .i64 0, Value.int .i64 0, Value.slice none 0 0]).flatten = repL rep0 n
  | 0 => rfl
  | n + 1 => by
    rw [List.replicate_succ', List.flatten_append, repL_0 n, repL_succ]
    rfl
/-- leaders' blocks, in a row -/
def ldsH (A : Nat → Ld) : List (Nat × LdR) → Hp
  | [] => []
  | x :: l => x.2.hp (A l.length) x.1 ++ ldsH A l
def ldA (n : Nat) (j : Nat) : Ld := newA ⟨(j : Int) + 1, ((j % n : Nat) : Int)⟩ 0 n
structure GrS where
  k : Nat
  vl : Value
  Bl : Hp
  va : Value
  Ba : Hp
  ds : List (Nat × LdR)
  aa : List Nat
  X : Hp
  Y : Hp
structure GrOK (n : Nat) (s : GrS) : Prop where
  l : SlO 43 1 s.vl s.k (s.ds.reverse.map fun x => pv x.1) s.Bl
  a : SlO 99 1 s.va s.k (s.aa.map fun b => Value.slice (some ⟨b, 0, none⟩) n n) s.Ba
  ok : ∀ A x B, s.ds = A ++ x :: B → x.2.ok (ldA n B.length)
  dl : s.ds.length = s.k
  x : s.X = ldsH (ldA n) s.ds
  y : s.Y = s.aa.map fun b => (b, cellsO (List.replicate n [Value.bool false]).flatten 4)
attribute [local irreducible] eqW eqV wpC wpO wpD Ex Rd callsK RetP Drop valK
set_option maxHeartbeats 4000000 in
set_option maxRecDepth 100000 in
theorem pnewE (e : World) {b : Bal} {fr : Int} {n : Nat} {F : Hp} {K : Value → Hp → Prop} (hok : newOK b fr (n : Int)) (h0 : ∀ (d : Nat) (r : LdR), r.ok (newA b fr n) → K (.tuple #[pv d, .int .i64 0]) (r.hp (newA b fr n) d ++ F)) :
    callsK Try.prog e 8 #[.agg b.cells.toArray, .int .i64 fr, .int .i64 (n : Int)] F K :=
  pnew e (fun h => absurd hok h) fun _ d H hH => by
    rw [Int.toNat_natCast] at hH
    obtain ⟨r, h1, rfl⟩ := hH
    exact h0 d r h1
set_option maxHeartbeats 4000000 in
set_option maxRecDepth 100000 in
theorem newGroup_spec (e : World) {n L : Nat} {F : Hp} {K : Value → Hp → Prop} (hn1 : 1 ≤ n) (hn5 : n ≤ 5) (hL : L ≤ 1000)
    (hK : ∀ gb rb, ∀ s : GrS, s.k = L → GrOK n s → K (pv gb) (([(gb, cellsO [.int .i64 (n : Int), .slice (some ⟨rb, 0, none⟩) n n, s.vl, s.va] 69), (rb, cellsO (repL rep0 n) 72)] ++ (s.Bl ++ (s.Ba ++ (s.X ++ s.Y)))) ++ F)) :
    callsK Try.prog e 18 #[.int .i64 (n : Int), .int .i64 (L : Int)] F K := by
  refine calls_body (N := 58) (args := [.int .i64 (n : Int), .int .i64 (L : Int)]) Try.func18 rfl rfl rfl (by simp) ?_
  repeat' ((fail_if_success (show wpC _ (.loop _) _ _ _ _)); first | (show wpO _ _ _ _ _ _ _; first | refine wpO_nil ?_ | (show wpO _ _ _ (⟨_, .binOp _ _ _ _ _, _, _, _, _⟩ :: _) _ _ _; first | refine s_tt ?_ | refine s_ff ?_ | refine s_rdp ?_ | (refine s_cmp (fun _ => ?_) (fun _ => ?_) <;> (first | (exfalso; omega) | contradiction | skip)) | (refine s_cb (fun _ => ?_) (fun _ => ?_) <;> (first | (exfalso; omega) | contradiction | skip)) | refine s_sks ?_ | (refine s_g (fun _ => ?_) (fun _ => ?_) <;> (first | (exfalso; omega) | contradiction | skip))) | (show wpO _ _ _ (⟨_, .pick _ _ _, _, _, _, _⟩ :: _) _ _ _; first | refine s_rdp ?_ | (refine s_p (fun _ => ?_) (fun _ => ?_) <;> (first | (exfalso; omega) | contradiction | skip)) | refine s_sks ?_ | (refine s_g (fun _ => ?_) (fun _ => ?_) <;> (first | (exfalso; omega) | contradiction | skip))) | refine s_rdp ?_ | refine s_rdm ?_ | refine s_exq ?_ | refine s_exm ?_ | refine s_sks ?_ | refine s_skn ?_ | (refine s_g (fun _ => ?_) (fun _ => ?_) <;> (first | (exfalso; omega) | contradiction | skip))) | (show Ex _ _ _ _ _; first | (refine e_mk65 (n := n) (fun _ => ?_) (by exact rfl) hn5) | (show Ex _ ⟨_, .box _ _, _, _, _, _⟩ _ _ _; first | (refine e_boxA ?_; intro _) | (refine e_box1 ?_; intro _)) | (show Ex _ ⟨_, .store _ _ _, _, _, _, _⟩ _ _ _; first | refine e_store1 ?_ | refine e_storeA ?_ | (refine e_storeO ?_; intro _ _)) | (show Ex _ ⟨_, .buildSlice _ _ _, _, _, _, _⟩ _ _ _; first | (refine e_buildSlice ?_; intro _) | (refine e_buildNil ?_; intro _ _ _)) | (show Ex _ ⟨_, .call ⟨.builtin .append, _, _⟩, _, _, _, _⟩ _ _ _; (first | refine e_append ?_ | refine e_appendIn ?_); intro _ _ _)) | (show wpC _ _ _ _ _ _; first | refine wpC_seq ?_ | refine wpC_region ?_ | refine c_true ?_ | refine c_false ?_ | (refine c_b (fun _ => ?_) (fun _ => ?_) <;> (first | (exfalso; omega) | contradiction | skip)) | refine wpC_block ?_ | refine wpC_ret ?_ | refine wpC_skip ?_ | refine wpC_exit ?_ | refine wpC_label ?_ | (apply wpC_drawX (id := 9) ([]) [0, 1, 2, 3, 4, 5, 6, 7, 8, 9, 10, 11] rfl (by kernel_rfl); (case hpk => (repeat (first | exact Pcs.blk (by infer_instance) | exact Pcs.nil | (apply Pcs.cons; infer_instance) | apply Pcs.app))))) | (show Then _ _ _ _ _ _ _; first | refine then_normal ?_ | refine then_ret ?_ | refine then_exit ?_) | (show InBlock _ _ _ _ _ _; first | refine inBlock_normal ?_ | refine inBlock_ret ?_ | refine inBlock_same ?_ | refine b_other ?_) | (show LoopPost _ _ _ _ _ _; first | refine loop_ret ?_ | refine loop_exit ?_) | (show wpD _ _ _ _ _ _ _ _; first | refine wpD_nil ?_ | refine d_rdp ?_ | refine d_rdm ?_ | refine d_sks ?_ | refine d_tt ?_ | refine d_ff ?_ | (refine d_cmp (fun _ => ?_) (fun _ => ?_) <;> (first | (exfalso; omega) | contradiction | skip)) | (refine d_cb (fun _ => ?_) (fun _ => ?_) <;> (first | (exfalso; omega) | contradiction | skip)) | refine d_exs ?_ | refine d_exn ?_ | (refine d_p (fun _ => ?_) (fun _ => ?_) <;> (first | (exfalso; omega) | contradiction | skip)) | (refine d_g (fun _ => ?_) (fun _ => ?_) <;> (first | (exfalso; omega) | contradiction | skip))) | (show (_ ∨ Subs _ _) ∧ _; first | refine d_sub ?_ | refine d_cov ?_) | (show RetP _ _ _ _ _ _ _ _; first | refine r_1 ?_) | assumption | intro _)
  rename_i rb gb
  rw [repL_0]
  have hG0 : GrOK n ⟨0, .slice none 0 0, [], .slice none 0 0, [], [], [], [], []⟩ := ⟨SlO.nil 43 1, SlO.nil 99 1, fun A x B h => by (cases A with | nil => cases h | cons _ _ => cases h), rfl, rfl, rfl⟩
  refine wpC_loopA (κ := GrS) [4, 6, 7, 8, 15, 16, 17, 18, 19, 20, 21, 22, 23, 24, 25, 26, 27, 28, 29, 30, 31, 32, 33, 34, 35, 36, 37, 38, 39, 40, 41, 42, 43, 44, 45, 46, 47, 48, 49, 50, 51, 52, 53, 54, 55, 56] (fun s => [(15, .int .i64 (s.k : Int))]) (fun s => ([(gb, cellsO [.int .i64 (n : Int), .slice (some ⟨rb, 0, none⟩) n n, s.vl, s.va] 69), (rb, cellsO (repL rep0 n) 72)] ++ (s.Bl ++ (s.Ba ++ (s.X ++ s.Y)))) ++ F)
    (fun s => s.k ≤ L ∧ GrOK n s) (fun s => L - s.k) ⟨0, .slice none 0 0, [], .slice none 0 0, [], [], [], [], []⟩ ⟨Nat.zero_le _, hG0⟩ ⟨rfl, trivial⟩ q_drp ?_
  rintro ⟨k, vl, Bl, va, Ba, ds, aa, X, Y⟩ ρx ⟨hk, hG⟩
  simp only at hk ⊢
  by_cases hlt : k < L
  · have hgl := hG.l
    have hga := hG.a
    simp only at hgl hga
    have hmod : k % n < n := Nat.mod_lt _ (by omega)
    have hok : newOK ⟨(k : Int) + 1, ((k % n : Nat) : Int)⟩ 0 (n : Int) := by constructor <;> (try simp only) <;> omega
    repeat' (first | (refine s_rdp ?_ (hr := by (apply (rd_remU (a := k) (b := n)); exact rfl; exact rfl; omega; done))) | (show wpO _ _ _ _ _ _ _; first | refine wpO_nil ?_ | (show wpO _ _ _ (⟨_, .binOp _ _ _ _ _, _, _, _, _⟩ :: _) _ _ _; first | refine s_tt ?_ | refine s_ff ?_ | refine s_rdp ?_ | (refine s_cmp (fun _ => ?_) (fun _ => ?_) <;> (first | (exfalso; omega) | contradiction | skip)) | (refine s_cb (fun _ => ?_) (fun _ => ?_) <;> (first | (exfalso; omega) | contradiction | skip)) | refine s_sks ?_ | (refine s_g (fun _ => ?_) (fun _ => ?_) <;> (first | (exfalso; omega) | contradiction | skip))) | (show wpO _ _ _ (⟨_, .pick _ _ _, _, _, _, _⟩ :: _) _ _ _; first | refine s_rdp ?_ | (refine s_p (fun _ => ?_) (fun _ => ?_) <;> (first | (exfalso; omega) | contradiction | skip)) | refine s_sks ?_ | (refine s_g (fun _ => ?_) (fun _ => ?_) <;> (first | (exfalso; omega) | contradiction | skip))) | refine s_rdp ?_ | refine s_rdm ?_ | refine s_exq ?_ | refine s_exm ?_ | refine s_sks ?_ | refine s_skn ?_ | (refine s_g (fun _ => ?_) (fun _ => ?_) <;> (first | (exfalso; omega) | contradiction | skip))) | (show Ex _ _ _ _ _; first | (refine e_mk99 (n := n) (fun _ => ?_) (by exact rfl) hn5) | (show Ex _ ⟨_, .call ⟨.value (.func _), _, _⟩, _, _, _, _⟩ _ _ _; refine e_call ?_; first | (apply pnewE _ hok)) | (show Ex _ ⟨_, .box _ _, _, _, _, _⟩ _ _ _; first | (refine e_boxA ?_; intro _) | (refine e_box1 ?_; intro _)) | (show Ex _ ⟨_, .store _ _ _, _, _, _, _⟩ _ _ _; first | refine e_store1 ?_ | refine e_storeA ?_ | (refine e_storeO ?_; intro _ _)) | (show Ex _ ⟨_, .buildSlice _ _ _, _, _, _, _⟩ _ _ _; first | (refine e_buildSlice ?_; intro _) | (refine e_buildNil ?_; intro _ _ _)) | (show Ex _ ⟨_, .call ⟨.builtin .append, _, _⟩, _, _, _, _⟩ _ _ _; (first | refine e_append ?_ | refine e_appendIn ?_); intro _ _ _)) | (show wpC _ _ _ _ _ _; first | refine wpC_seq ?_ | refine wpC_region ?_ | refine c_true ?_ | refine c_false ?_ | (refine c_b (fun _ => ?_) (fun _ => ?_) <;> (first | (exfalso; omega) | contradiction | skip)) | refine wpC_block ?_ | refine wpC_ret ?_ | refine wpC_skip ?_ | refine wpC_exit ?_ | refine wpC_label ?_ | (apply wpC_drawX (id := 9) (Ba) [0, 1, 2, 3, 4, 5, 6, 7, 8, 9, 10, 11] rfl (by kernel_rfl); (case hpk => (repeat (first | exact Pcs.blk (by infer_instance) | exact Pcs.nil | (apply Pcs.cons; infer_instance) | apply Pcs.app))))) | (show Then _ _ _ _ _ _ _; first | refine then_normal ?_ | refine then_ret ?_ | refine then_exit ?_) | (show InBlock _ _ _ _ _ _; first | refine inBlock_normal ?_ | refine inBlock_ret ?_ | refine inBlock_same ?_ | refine b_other ?_) | (show LoopPost _ _ _ _ _ _; first | refine loop_ret ?_ | refine loop_exit ?_) | (show wpD _ _ _ _ _ _ _ _; first | refine wpD_nil ?_ | refine d_rdp ?_ | refine d_rdm ?_ | refine d_sks ?_ | refine d_tt ?_ | refine d_ff ?_ | (refine d_cmp (fun _ => ?_) (fun _ => ?_) <;> (first | (exfalso; omega) | contradiction | skip)) | (refine d_cb (fun _ => ?_) (fun _ => ?_) <;> (first | (exfalso; omega) | contradiction | skip)) | refine d_exs ?_ | refine d_exn ?_ | (refine d_p (fun _ => ?_) (fun _ => ?_) <;> (first | (exfalso; omega) | contradiction | skip)) | (refine d_g (fun _ => ?_) (fun _ => ?_) <;> (first | (exfalso; omega) | contradiction | skip))) | (show (_ ∨ Subs _ _) ∧ _; first | refine d_sub ?_ | refine d_cov ?_) | (show RetP _ _ _ _ _ _ _ _; first | refine r_1 ?_) | assumption | intro _)
    all_goals first | (exfalso; omega) | skip
    rename_i d r hr bx1 v1 B1 hv1 ab bx2 v2 B2 hv2
    have hdl := hG.dl
    have hgx := hG.x
    have hgy := hG.y
    have hgo := hG.ok
    simp only at hdl hgx hgy hgo
    refine lp_end ⟨k + 1, v1, B1, v2, B2, (d, r) :: ds, aa ++ [ab], r.hp (newA ⟨(k : Int) + 1, ((k % n : Nat) : Int)⟩ 0 n) d ++ X, Y ++ [(ab, cellsO (List.replicate n [Value.bool false]).flatten 4)]⟩ (by simp only; omega) ⟨by simp only; omega, ⟨hv1.cast rfl (by simp), hv2.cast rfl (by simp), ?_, by simp only [List.length_cons]; rw [hdl], ?_, by simp only; rw [hgy]; simp⟩⟩
    · rintro A x B hA
      cases A with
      | nil =>
        obtain ⟨rfl, rfl⟩ := List.cons.inj hA
        rw [hdl]; exact hr
      | cons y A => exact hgo A x B (List.cons.inj hA).2
    · show _ = r.hp (ldA n ds.length) d ++ ldsH (ldA n) ds
      rw [hdl, ← hgx]; rfl
  · obtain rfl : k = L := by omega
    repeat' (first | (show wpO _ _ _ _ _ _ _; first | refine wpO_nil ?_ | (show wpO _ _ _ (⟨_, .binOp _ _ _ _ _, _, _, _, _⟩ :: _) _ _ _; first | refine s_tt ?_ | refine s_ff ?_ | refine s_rdp ?_ | (refine s_cmp (fun _ => ?_) (fun _ => ?_) <;> (first | (exfalso; omega) | contradiction | skip)) | (refine s_cb (fun _ => ?_) (fun _ => ?_) <;> (first | (exfalso; omega) | contradiction | skip)) | refine s_sks ?_ | (refine s_g (fun _ => ?_) (fun _ => ?_) <;> (first | (exfalso; omega) | contradiction | skip))) | (show wpO _ _ _ (⟨_, .pick _ _ _, _, _, _, _⟩ :: _) _ _ _; first | refine s_rdp ?_ | (refine s_p (fun _ => ?_) (fun _ => ?_) <;> (first | (exfalso; omega) | contradiction | skip)) | refine s_sks ?_ | (refine s_g (fun _ => ?_) (fun _ => ?_) <;> (first | (exfalso; omega) | contradiction | skip))) | refine s_rdp ?_ | refine s_rdm ?_ | refine s_exq ?_ | refine s_exm ?_ | refine s_sks ?_ | refine s_skn ?_ | (refine s_g (fun _ => ?_) (fun _ => ?_) <;> (first | (exfalso; omega) | contradiction | skip))) | (show Ex _ _ _ _ _; first | (show Ex _ ⟨_, .box _ _, _, _, _, _⟩ _ _ _; first | (refine e_boxA ?_; intro _) | (refine e_box1 ?_; intro _)) | (show Ex _ ⟨_, .store _ _ _, _, _, _, _⟩ _ _ _; first | refine e_store1 ?_ | refine e_storeA ?_ | (refine e_storeO ?_; intro _ _)) | (show Ex _ ⟨_, .buildSlice _ _ _, _, _, _, _⟩ _ _ _; first | (refine e_buildSlice ?_; intro _) | (refine e_buildNil ?_; intro _ _ _)) | (show Ex _ ⟨_, .call ⟨.builtin .append, _, _⟩, _, _, _, _⟩ _ _ _; (first | refine e_append ?_ | refine e_appendIn ?_); intro _ _ _)) | (show wpC _ _ _ _ _ _; first | refine wpC_seq ?_ | refine wpC_region ?_ | refine c_true ?_ | refine c_false ?_ | (refine c_b (fun _ => ?_) (fun _ => ?_) <;> (first | (exfalso; omega) | contradiction | skip)) | refine wpC_block ?_ | refine wpC_ret ?_ | refine wpC_skip ?_ | refine wpC_exit ?_ | refine wpC_label ?_ | (apply wpC_drawX (id := 9) ([]) [0, 1, 2, 3, 4, 5, 6, 7, 8, 9, 10, 11] rfl (by kernel_rfl); (case hpk => (repeat (first | exact Pcs.blk (by infer_instance) | exact Pcs.nil | (apply Pcs.cons; infer_instance) | apply Pcs.app))))) | (show Then _ _ _ _ _ _ _; first | refine then_normal ?_ | refine then_ret ?_ | refine then_exit ?_) | (show InBlock _ _ _ _ _ _; first | refine inBlock_normal ?_ | refine inBlock_ret ?_ | refine inBlock_same ?_ | refine b_other ?_) | (show LoopPost _ _ _ _ _ _; first | refine loop_ret ?_ | refine loop_exit ?_) | (show wpD _ _ _ _ _ _ _ _; first | refine wpD_nil ?_ | refine d_rdp ?_ | refine d_rdm ?_ | refine d_sks ?_ | refine d_tt ?_ | refine d_ff ?_ | (refine d_cmp (fun _ => ?_) (fun _ => ?_) <;> (first | (exfalso; omega) | contradiction | skip)) | (refine d_cb (fun _ => ?_) (fun _ => ?_) <;> (first | (exfalso; omega) | contradiction | skip)) | refine d_exs ?_ | refine d_exn ?_ | (refine d_p (fun _ => ?_) (fun _ => ?_) <;> (first | (exfalso; omega) | contradiction | skip)) | (refine d_g (fun _ => ?_) (fun _ => ?_) <;> (first | (exfalso; omega) | contradiction | skip))) | (show (_ ∨ Subs _ _) ∧ _; first | refine d_sub ?_ | refine d_cov ?_) | (show RetP _ _ _ _ _ _ _ _; first | refine r_1 ?_))
    all_goals first | (exfalso; omega) | exact q_drop (hK gb rb _ rfl hG) | trace_state
end Go.Vl

namespace Go.Vl
open Classical
/-- for how many of the first n -/
def cnt (p : Nat → Bool) : Nat → Nat
  | 0 => 0
  | n + 1 => cnt p n + if p n then 1 else 0
set_option maxHeartbeats 4000000 in
set_option maxRecDepth 100000 in
theorem cnt_mono {p q : Nat → Bool} : ∀ {n : Nat}, (∀ j, j < n → p j = true → q j = true) → cnt p n ≤ cnt q n
  | 0, _ => Nat.le_refl _
  | n + 1, h => by
    have h1 := cnt_mono (n := n) fun j hj => h j (by omega)
    have h2 := h n (by omega)
    unfold cnt
    by_cases hp : p n = true
    · rw [if_pos hp, if_pos (h2 hp)]; omega
    · rw [if_neg hp]; omega
set_option maxHeartbeats 4000000 in
set_option maxRecDepth 100000 in
theorem cnt_both {p q : Nat → Bool} : ∀ {n : Nat}, n < cnt p n + cnt q n → ∃ j, j < n ∧ p j = true ∧ q j = true
  | 0, h => by simp [cnt] at h
  | n + 1, h => by
    by_cases hb : p n = true ∧ q n = true
    · exact ⟨n, by omega, hb⟩
    · have : n < cnt p n + cnt q n := by
        unfold cnt at h
        by_cases hp : p n = true
        · have hq : ¬ q n = true := fun hq => hb ⟨hp, hq⟩
          rw [if_pos hp, if_neg hq] at h; omega
        · rw [if_neg hp] at h
          split at h <;> omega
      obtain ⟨j, hj, h1⟩ := cnt_both this
      exact ⟨j, by omega, h1⟩
set_option maxHeartbeats 4000000 in
set_option maxRecDepth 100000 in
theorem cnt_congr {p q : Nat → Bool} {n : Nat} (h : ∀ j, j < n → p j = q j) : cnt p n = cnt q n :=
  Nat.le_antisymm (cnt_mono fun j hj hp => by rw [← h j hj]; exact hp) (cnt_mono fun j hj hp => by rw [h j hj]; exact hp)
set_option maxHeartbeats 4000000 in
set_option maxRecDepth 100000 in
theorem cnt_one {p q : Nat → Bool} {j0 : Nat} (h0 : p j0 = false) (h : ∀ j, q j = (p j || decide (j = j0))) : ∀ {n : Nat}, j0 < n → cnt q n = cnt p n + 1
  | 0, hj => absurd hj (Nat.not_lt_zero _)
  | n + 1, hj => by
    unfold cnt
    by_cases he : j0 = n
    · subst he
      rw [cnt_congr (p := q) (q := p) (n := j0) fun j hj => by rw [h j, decide_eq_false (by omega)]; simp]
      rw [h j0, h0]
      simp
    · rw [cnt_one h0 h (n := n) (by omega), h n, decide_eq_false (show ¬ n = j0 from fun g => he g.symm)]
      simp only [Bool.or_false]
      omega
noncomputable def hit (f n k j : Nat) : Bool := decide (∃ t, t < k ∧ (f + t) % n = j)
set_option maxHeartbeats 4000000 in
set_option maxRecDepth 100000 in
theorem hit_new {f n k : Nat} (h1 : 1 ≤ n) (h5 : n ≤ 5) (hk : k < n) : hit f n k ((f + k) % n) = false := by
  refine decide_eq_false ?_
  rintro ⟨t, ht, he⟩
  rcases (by omega : n = 1 ∨ n = 2 ∨ n = 3 ∨ n = 4 ∨ n = 5) with rfl | rfl | rfl | rfl | rfl <;> omega
set_option maxHeartbeats 4000000 in
set_option maxRecDepth 100000 in
theorem hit_step (f n k j : Nat) : hit f n (k + 1) j = (hit f n k j || decide (j = (f + k) % n)) := by
  unfold hit
  rw [Bool.eq_iff_iff]
  simp only [decide_eq_true_eq, Bool.or_eq_true]
  constructor
  · rintro ⟨t, ht, he⟩
    by_cases htk : t = k
    · subst htk; exact .inr he.symm
    · exact .inl ⟨t, by omega, he⟩
  · rintro (⟨t, ht, he⟩ | he)
    · exact ⟨t, by omega, he⟩
    · exact ⟨k, by omega, he.symm⟩
set_option maxHeartbeats 4000000 in
set_option maxRecDepth 100000 in
theorem hit_0 (f n j : Nat) : hit f n 0 j = false := decide_eq_false (by rintro ⟨t, ht, _⟩; omega)
set_option maxHeartbeats 4000000 in
set_option maxRecDepth 100000 in
theorem cnt_hit {f n : Nat} (h1 : 1 ≤ n) (h5 : n ≤ 5) : ∀ {k : Nat}, k ≤ n → cnt (hit f n k) n = k
  | 0, _ => by
    have : ∀ m, cnt (hit f n 0) m = 0 := fun m => by
      induction m with
      | zero => rfl
      | succ m ih => unfold cnt; rw [ih, hit_0]; rfl
    exact this n
  | k + 1, hk => by
    rw [cnt_one (hit_new h1 h5 (by omega)) (hit_step f n k) (Nat.mod_lt _ (by omega)), cnt_hit h1 h5 (by omega)]
/-! what comes with promises -/
set_option maxHeartbeats 4000000 in
set_option maxRecDepth 100000 in
theorem fold_mem {p : Int × Sl} : ∀ {l : List Sl} {came : List (Int × Sl)}, p ∈ l.foldl best1 came → p ∈ came ∨ ∃ s ∈ l, p = (s.slot, s)
  | [], _, h => .inl h
  | x :: l, came, h => by
    rcases fold_mem (l := l) h with h | ⟨s, hs, h⟩
    · unfold best1 at h
      split at h
      · split at h
        · rcases mem_aput h with h | h
          · exact .inr ⟨x, by simp, h⟩
          · exact .inl h
        · exact .inl h
      · rcases mem_aput h with h | h
        · exact .inr ⟨x, by simp, h⟩
        · exact .inl h
    · exact .inr ⟨s, List.mem_cons_of_mem _ hs, h⟩
set_option maxHeartbeats 4000000 in
set_option maxRecDepth 100000 in
theorem best1_key {came : List (Int × Sl)} {x : Sl} {s : Int} (h : (aget came s).isSome ∨ x.slot = s) : (aget (best1 came x) s).isSome := by
  have hp : (aget (aput came x.slot x) s).isSome := by
    rw [aget_put]
    split
    · rfl
    · rename_i hne; exact h.resolve_right hne
  unfold best1
  split
  · rename_i o ho
    split
    · exact hp
    · rcases h with h | h
      · exact h
      · rw [← h, ho]; rfl
  · exact hp
set_option maxHeartbeats 4000000 in
set_option maxRecDepth 100000 in
theorem fold_key {s : Int} : ∀ {l : List Sl} {came : List (Int × Sl)}, ((aget came s).isSome ∨ ∃ x ∈ l, x.slot = s) → (aget (l.foldl best1 came) s).isSome
  | [], came, h => h.elim id fun ⟨x, hx, _⟩ => by cases hx
  | x :: l, came, h => fold_key (l := l) (came := best1 came x) (by
    rcases h with h | ⟨y, hy, he⟩
    · exact .inl (best1_key (.inl h))
    · rcases List.mem_cons.1 hy with rfl | hy
      · exact .inl (best1_key (.inr he))
      · exact .inr ⟨y, hy, he⟩)
/-- what was accepted, slots rising from zero -/
structure WOK (W : List Sl) : Prop where
  slot : ∀ (j : Nat) (w : Sl), W[j]? = some w → w.slot = (j : Int)
  bal : ∀ w ∈ W, w.bal = ⟨1, 0⟩
  may : ∀ w ∈ W, mayE w.en
  len : W.length ≤ 4097
structure PrK (W : List Sl) (Ls : Nat → List Sl) (n f k : Nat) (a : Ld) : Prop where
  b : a.b = ⟨2, 0⟩
  fr : a.fr = 0
  hn : a.n = n
  rd : a.ready = false
  L : a.L = []
  next : a.next = 0
  p : ∀ j, a.p j = hit f n k j
  c : cnt5 a.p = k
  mem : ∀ p ∈ a.came, ∃ w ∈ W, p = (w.slot, w)
  key : ∀ t, t < k → ∀ s ∈ Ls ((f + t) % n), (aget a.came s.slot).isSome
structure LsK (W : List Sl) (l : List Sl) : Prop where
  mem : ∀ s ∈ l, s ∈ W
  srt : l.Pairwise fun x y => x.slot < y.slot
set_option maxHeartbeats 4000000 in
set_option maxRecDepth 100000 in
theorem lsK_good {W l : List Sl} {a : Ld} (hW : WOK W) (hl : LsK W l) (hb : a.b = ⟨2, 0⟩) (hf : a.fr = 0) : a.wrong l = 0 := by
  have hs : ∀ s ∈ l, 0 ≤ s.slot ∧ s.slot ≤ 4096 := fun s hs => by
    obtain ⟨j, hj⟩ := List.mem_iff_getElem?.1 (hl.mem s hs)
    have h1 := hW.slot j s hj
    have h2 := (List.getElem?_eq_some_iff.1 hj).1
    have := hW.len
    omega
  refine wrong_0 (fun i s hi => ?_) (fun s h => ?_) fun s h => hW.may s (hl.mem s h)
  · have hm := List.mem_of_getElem? hi
    refine ⟨by rw [hf]; exact (hs s hm).1, by have := (hs s hm).2; omega, ?_, fun t ht => ?_⟩
    · rw [hb, hW.bal s (hl.mem s hm)]; exact .inl (by decide)
    · obtain ⟨j, hj⟩ := List.mem_iff_getElem?.1 ht
      have hji : j < i := by have := (List.getElem?_eq_some_iff.1 hj).1; rw [List.length_take] at this; omega
      rw [List.getElem?_take_of_lt hji] at hj
      have := List.pairwise_iff_getElem.1 hl.srt j i (List.getElem?_eq_some_iff.1 hj).1 (List.getElem?_eq_some_iff.1 hi).1 hji
      rw [(List.getElem?_eq_some_iff.1 hj).2, (List.getElem?_eq_some_iff.1 hi).2] at this
      omega
  · rw [hf]; have := (hs s h).2; omega
set_option maxHeartbeats 4000000 in
set_option maxRecDepth 100000 in
theorem prK_step {W : List Sl} {Ls : Nat → List Sl} {n f k : Nat} {a : Ld} (h1 : 1 ≤ n) (h5 : n ≤ 5) (hW : WOK W) (hk : k < maj n) (h : PrK W Ls n f k a) (hl : LsK W (Ls ((f + k) % n))) :
    ∃ a', PrK W Ls n f (k + 1) a' ∧ a.promise (((f + k) % n : Nat) : Int) (Ls ((f + k) % n)) = if k + 1 = maj n then ((true, 0), beginA a') else ((false, 0), a') := by
  have hkn : k < n := by unfold maj at hk; omega
  have hi : (f + k) % n < n := Nat.mod_lt _ (by omega)
  have hp : a.p ((f + k) % n) = false := by rw [h.p]; exact hit_new h1 h5 hkn
  have hw := lsK_good hW hl h.b h.fr
  refine ⟨{ a with p := setv a.p ((f + k) % n), came := (Ls ((f + k) % n)).foldl best1 a.came }, ⟨h.b, h.fr, h.hn, h.rd, h.L, h.next, fun j => ?_, ?_, ?_, ?_⟩, ?_⟩
  · rw [hit_step, ← h.p]
    show setv a.p _ j = _
    unfold setv
    by_cases hj : j = (f + k) % n
    · rw [if_pos hj, decide_eq_true hj]; simp
    · rw [if_neg hj, decide_eq_false hj]; simp
  · show cnt5 (setv a.p _) = _
    rw [cnt_set (by omega) hp, h.c]
  · intro p hp
    rcases fold_mem hp with hp | ⟨s, hs, rfl⟩
    · exact h.mem p hp
    · exact ⟨s, hl.mem s hs, rfl⟩
  · intro t ht s hs
    refine fold_key ?_
    by_cases htk : t = k
    · subst htk; exact .inr ⟨s, hs, rfl⟩
    · exact .inl (h.key t (by omega) s hs)
  · unfold Ld.promise
    rw [if_neg (by rw [h.hn]; omega), if_neg (by rw [hw]; decide), Int.toNat_natCast, if_neg (by rw [hp]; decide), if_neg (by rw [h.rd]; decide), h.hn, cnt_set (by omega) hp, h.c]
    by_cases hm : k + 1 = maj n
    · rw [if_pos (by omega), if_pos hm]
    · rw [if_neg (by omega), if_neg hm]
set_option maxHeartbeats 4000000 in
set_option maxRecDepth 100000 in
theorem fill_W {W : List Sl} {came : List (Int × Sl)} (hW : WOK W) (hg : ∀ (j : Nat) (w : Sl), W[j]? = some w → aget came (j : Int) = some w) : ∀ {k : Nat}, k ≤ W.length → fillS came 0 k = (W.take k).map fun w => ⟨w.slot, w.en, noV⟩
  | 0, _ => rfl
  | k + 1, hk => by
    obtain ⟨w, hw⟩ : ∃ w, W[k]? = some w := ⟨W[k]'(by omega), by rw [List.getElem?_eq_getElem]⟩
    rw [List.take_add_one, hw, List.map_append, ← fill_W hW hg (k := k) (by omega)]
    show fillS came 0 k ++ [_] = fillS came 0 k ++ [_]
    congr 2
    rw [Int.zero_add]
    unfold entOf
    rw [hg k w hw]
    show Ol.mk (k : Int) w.en noV = Ol.mk w.slot w.en noV
    rw [hW.slot k w hw]
set_option maxHeartbeats 4000000 in
set_option maxRecDepth 100000 in
theorem keeps_end {W : List Sl} {Ls : Nat → List Sl} {n f : Nat} {a : Ld} (h1 : 1 ≤ n) (h5 : n ≤ 5) (hW : WOK W) (h : PrK W Ls n f (maj n) a) (hM : ∀ w ∈ W, maj n ≤ cnt (fun j => decide (w ∈ Ls j)) n) :
    (beginA a).waits = W.map (fun w => ⟨w.slot, ⟨2, 0⟩, w.en⟩) ∧ (beginA a).next = (W.length : Int) ∧ (beginA a).L.length = W.length := by
  have hmn : maj n ≤ n := by unfold maj; omega
  have hg : ∀ (j : Nat) (w : Sl), W[j]? = some w → aget a.came (j : Int) = some w := fun j w hj => by
    have hw := List.mem_of_getElem? hj
    have hc := hM w hw
    have hh := cnt_hit (f := f) h1 h5 hmn
    obtain ⟨i, hi, ha, hb⟩ := cnt_both (p := fun j => decide (w ∈ Ls j)) (q := hit f n (maj n)) (n := n) (by rw [hh]; unfold maj at hc ⊢; omega)
    obtain ⟨t, ht, he⟩ := of_decide_eq_true hb
    have hk := h.key t ht w (by rw [he]; exact of_decide_eq_true ha)
    rw [hW.slot j w hj] at hk
    obtain ⟨o, ho⟩ := Option.isSome_iff_exists.1 hk
    obtain ⟨w', hw', he'⟩ := h.mem _ (aget_some_mem ho)
    have e1 : (j : Int) = w'.slot := congrArg Prod.fst he'
    have e2 : o = w' := congrArg Prod.snd he'
    obtain ⟨j', hj'⟩ := List.mem_iff_getElem?.1 hw'
    have := hW.slot j' w' hj'
    have hjj : j' = j := by omega
    rw [hjj, hj] at hj'
    cases hj'
    rw [ho, e2]
  have hlast : IsLast 0 a.came ((W.length : Int) - 1) := by
    refine ⟨by omega, fun p hp => ?_, ?_⟩
    · obtain ⟨w, hw, rfl⟩ := h.mem p hp
      obtain ⟨j, hj⟩ := List.mem_iff_getElem?.1 hw
      have h2 := hW.slot j w hj
      have := (List.getElem?_eq_some_iff.1 hj).1
      simp only; omega
    · by_cases h0 : W.length = 0
      · exact .inl (by omega)
      · obtain ⟨w, hw⟩ : ∃ w, W[W.length - 1]? = some w := ⟨W[W.length - 1]'(by omega), by rw [List.getElem?_eq_getElem]⟩
        exact .inr ⟨_, aget_some_mem (hg _ w hw), by simp only; omega⟩
  have hm : a.more = W.length := by
    unfold Ld.more
    rw [h.next, h.fr, (isLast_lastS 0 a.came).uniq hlast]
    omega
  have hL : (beginA a).L = W.map fun w => ⟨w.slot, w.en, noV⟩ := by
    show a.L ++ fillS a.came a.next a.more = _
    rw [h.L, h.next, hm, fill_W hW hg (Nat.le_refl _), List.take_length]
    rfl
  refine ⟨?_, ?_, by rw [hL, List.length_map]⟩
  · unfold Ld.waits
    rw [hL, List.filter_map, List.filter_eq_self.2, List.map_map]
    · show _ = _
      refine List.map_congr_left fun w _ => ?_
      show (⟨w.slot, (beginA a).b, w.en⟩ : Sl) = _
      rw [show (beginA a).b = a.b from rfl, h.b]
    · intro w _
      show (!(decide (maj (beginA a).n ≤ cnt5 noV))) = true
      rw [cnt_noV]
      unfold maj
      simp
  · show a.next + (a.more : Int) = _
    rw [h.next, hm]; omega
end Go.Vl
