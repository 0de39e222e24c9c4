/-
  A row of a slice that is owned is stored anew. Nothing of the seat's program is named here.
-/
import Derived.Test.YtpegidbkplgplaaVv
namespace Go.Vl
open Go.RowKit
theorem putL_eq : ∀ (r l : List Value) (o : Nat), o + r.length ≤ l.length → putL l o r = l.take o ++ (r ++ l.drop (o + r.length))
  | [], l, o, h => by simp [putL]
  | v :: r, l, o, h => by
    have h : o + (r.length + 1) ≤ l.length := by simpa using h
    rw [putL, putL_eq r (l.set o v) (o + 1) (by rw [List.length_set]; omega)]
    have h1 : (l.set o v).take (o + 1) = l.take o ++ [v] := by
      rw [List.take_set, List.take_add_one, List.set_append_right _ _ (by rw [List.length_take]; omega)]
      rw [show o - (l.take o).length = 0 by rw [List.length_take]; omega, List.getElem?_eq_getElem (by omega)]
      rfl
    have h2 : (l.set o v).drop (o + 1 + r.length) = l.drop (o + (v :: r).length) := by
      rw [List.drop_set_of_lt (by omega)]
      congr 1
      simp; omega
    rw [h1, h2]
    simp
theorem flat_put {sz : Nat} : ∀ {rows : List (List Value)} {i : Nat} {r : List Value}, (∀ x ∈ rows, x.length = sz) → r.length = sz → i < rows.length → rows.flatten.take (i * sz) ++ (r ++ rows.flatten.drop (i * sz + sz)) = (rows.set i r).flatten
  | [], i, r, _, _, h => by simp at h
  | x :: rows, 0, r, h, hr, _ => by
    have hx : x.length = sz := h x (by simp)
    simp only [Nat.zero_mul, List.take_zero, List.nil_append, Nat.zero_add, List.flatten_cons, List.set_cons_zero]
    rw [List.drop_append_of_le_length (by omega), ← hx, List.drop_length, List.nil_append]
  | x :: rows, i + 1, r, h, hr, hi => by
    have hx : x.length = sz := h x (by simp)
    have ih := flat_put (rows := rows) (i := i) (r := r) (fun y hy => h y (List.mem_cons_of_mem _ hy)) hr (by simpa using hi)
    rw [List.set_cons_succ, List.flatten_cons, List.flatten_cons, ← ih]
    have e1 : (i + 1) * sz = x.length + i * sz := by rw [Nat.succ_mul]; omega
    rw [e1, List.take_length_add_append, show x.length + i * sz + sz = x.length + (i * sz + sz) by omega, List.drop_length_add_append, List.append_assoc]
section
variable {C : Cx} {ρ : Fr} {H : Hp} {d : Option Nat} {ty : TypeId} {pos : String} {af : Array Edge} {K : Value → Hp → Prop}
theorem e_storeRowR {t g n cap i sz : Nat} {x y : Operand} {cur : Array Value} {rows : List (List Value)} {r : List Value} {T : TypeId} {f : Obj → Hp} {gd : Option (Nat × Bool)} (h : ∀ cur', SlO T sz (.slice (some ⟨g, 0, none⟩) n cap) n (rows.set i r).flatten [(g, .cells cur' T (0, 0))] → K undef (f (.cells cur' T (0, 0))))
    (hx : ev ρ x = .pointer (some ⟨g, 0 + i * sz, none⟩)) (hy : ev ρ y = .agg r.toArray) (hs : Go.Vl.sz C.P t = some r.length) (ho : ones r = true)
    (hS : SlO T sz (.slice (some ⟨g, 0, none⟩) n cap) n rows.flatten [(g, .cells cur T (0, 0))]) (hl : r.length = sz) (hrl : ∀ x ∈ rows, x.length = sz) (hrn : rows.length = n) (hi : i < n) (hz : Zp H g (.cells cur T (0, 0)) f) : Ex C ⟨d, .store t x y, ty, pos, af, gd⟩ K ρ H := by
  obtain ⟨hlen, hw⟩ := hS
  rcases hw with ⟨a, ha, _⟩ | ⟨g', cap', cur', hv, hB, hn, hc, hcs, ht⟩
  · cases ha
    omega
  · cases hv
    cases hB
    have hin : i * sz + sz ≤ n * sz := by
      have := Nat.mul_le_mul_right sz (show i + 1 ≤ n by omega)
      rw [Nat.succ_mul] at this
      exact this
    have hcap : n * sz ≤ cap * sz := Nat.mul_le_mul_right _ hn
    have hz' : Zip H g (cellsO cur.toList T) f := by simpa using hz.zip
    refine ex_storeA hx hy hs ho hz' (by simp [Nat.ble_eq]; omega) rfl ?_
    have hp := putL_eq r cur.toList (0 + i * sz) (by simp; omega)
    have hfin : (putL cur.toList (0 + i * sz) r).take (n * sz) = (rows.set i r).flatten := by
      rw [← flat_put hrl hl (by omega), ← ht, hp, Nat.zero_add, hl]
      rw [List.take_append, List.take_take, List.length_take, List.take_append, hl]
      have e1 : min (i * sz) cur.toList.length = i * sz := by simp; omega
      rw [e1, Nat.min_eq_right (by omega : i * sz ≤ n * sz), List.take_of_length_le (show r.length ≤ _ by omega)]
      rw [List.take_take, Nat.min_eq_left (by omega : i * sz ≤ n * sz), List.drop_take]
      congr 3
      omega
    refine h (putL cur.toList (0 + i * sz) r).toArray ⟨?_, .inr ⟨g, cap, _, rfl, rfl, hn, hc, ?_, ?_⟩⟩
    · rw [← hfin, List.length_take, putL_length]; simp; omega
    · simp [putL_length]; exact hcs
    · simpa using hfin
end
end Go.Vl
