/-
  STORES INTO OWNED ROWS OF STRUCTS. Nothing of the seat's program is named here.
-/
import Derived.Test.YtpegidbkplgplaaVs
namespace Go.Vl
theorem flat_len {n : Nat} : ∀ {rows : List (List Value)}, (∀ r ∈ rows, r.length = n) → rows.flatten.length = rows.length * n
  | [], _ => by simp
  | r :: rows, h => by
    rw [List.flatten_cons, List.length_append, h r (by simp), flat_len (fun x hx => h x (by simp [hx])), List.length_cons, Nat.succ_mul, Nat.add_comm]
theorem flat_set {n j : Nat} {u : Value} (hj : j < n) : ∀ {rows : List (List Value)} {i : Nat} {r : List Value}, (∀ r ∈ rows, r.length = n) → rows[i]? = some r → rows.flatten.set (i * n + j) u = (rows.set i (r.set j u)).flatten
  | [], i, r, _, h => by simp at h
  | x :: rows, 0, r, hl, h => by
    simp only [List.getElem?_cons_zero, Option.some.injEq] at h
    subst h
    have := hl x (by simp)
    rw [Nat.zero_mul, Nat.zero_add, List.flatten_cons, List.set_cons_zero, List.flatten_cons, List.set_append_left _ _ (by omega)]
  | x :: rows, i + 1, r, hl, h => by
    have hx := hl x (by simp)
    rw [List.getElem?_cons_succ] at h
    rw [List.flatten_cons, List.set_cons_succ, List.flatten_cons, List.set_append_right _ _ (by rw [hx, Nat.succ_mul]; omega), ← flat_set hj (fun y hy => hl y (by simp [hy])) h, hx, Nat.succ_mul]
    congr 2
    omega
theorem set_lens {n : Nat} {rows : List (List Value)} {i : Nat} {r : List Value} (hl : ∀ r ∈ rows, r.length = n) (hr : r.length = n) : ∀ x ∈ rows.set i r, x.length = n := fun x hx => by
  rcases List.mem_or_eq_of_mem_set hx with h | h
  · exact hl x h
  · rw [h, hr]
theorem InSl.one {F : Hp} {n : Nat} {rows : List (List Value)} {v : Value} (h : InSl F n rows v) : v.oneCell' = true := by
  obtain ⟨a, c, rfl, _⟩ := h
  rfl
section
variable {C : Cx} {ρ : Fr} {H : Hp} {d : Option Nat} {ty : TypeId} {pos : String} {af : Array Edge} {K : Value → Hp → Prop}
theorem ex_storeF {t g n cap i j sz : Nat} {x y : Operand} {u : Value} {cur : Array Value} {rows : List (List Value)} {r : List Value} {T : TypeId} {f : Obj → Hp} {gd : Option (Nat × Bool)} (hx : ev ρ x = .pointer (some ⟨g, 0 + i * sz + j, none⟩)) (hy : ev ρ y = u) (hs : Go.Vl.sz C.P t = some 1) (ho : u.oneCell' = true)
    (hS : SlO T sz (.slice (some ⟨g, 0, none⟩) n cap) n rows.flatten [(g, .cells cur T (0, 0))]) (hri : rows[i]? = some r) (hl : ∀ r ∈ rows, r.length = sz) (hj : j < sz) (hz : Zip H g (.cells cur T (0, 0)) f)
    (h : ∀ cur', SlO T sz (.slice (some ⟨g, 0, none⟩) n cap) n (rows.set i (r.set j u)).flatten [(g, .cells cur' T (0, 0))] → RowAt cur' (0 + i * sz) sz (r.set j u) → K undef (f (.cells cur' T (0, 0)))) : Ex C ⟨d, .store t x y, ty, pos, af, gd⟩ K ρ H := by
  have hilt := (List.getElem?_eq_some_iff.1 hri).1
  have hfl := flat_len hl
  rcases hS with ⟨hlen, ⟨a, ha, hn, _⟩ | ⟨g', cap', cur', hv, hB, hn, hc, hcs, ht⟩⟩
  · subst hn
    rw [hfl] at hlen
    have : rows.length = 0 := by
      rcases Nat.eq_zero_or_pos rows.length with h0 | h0
      · exact h0
      · have := Nat.mul_pos h0 (by omega : 0 < sz); omega
    omega
  · simp only [Value.slice.injEq, Option.some.injEq, Addr.mk.injEq, and_true, true_and] at hv
    obtain ⟨rfl, rfl⟩ := hv
    simp only [List.cons.injEq, Prod.mk.injEq, Obj.cells.injEq, and_true, true_and] at hB
    subst hB
    have hz' : Zip H g (cellsO cur.toList T) f := by simpa [cellsO] using hz
    have hp : i * sz + j < n * sz := by
      have h1 : (i + 1) * sz ≤ rows.length * sz := Nat.mul_le_mul_right _ hilt
      rw [Nat.succ_mul] at h1
      omega
    have hcap : n * sz ≤ cap * sz := Nat.mul_le_mul_right _ hn
    have hsz : (i * sz + j) < cur.size := by omega
    have hS' : SlO T sz (.slice (some ⟨g, 0, none⟩) n cap) n (rows.set i (r.set j u)).flatten [(g, .cells (cur.toList.set (i * sz + j) u).toArray T (0, 0))] := by
      refine ⟨?_, .inr ⟨g, cap, _, rfl, rfl, hn, hc, by simpa using hcs, ?_⟩⟩
      · rw [← flat_set hj hl hri, List.length_set]; exact hlen
      · rw [← flat_set hj hl hri, ← ht]
        simp [List.take_set]
    refine ex_store1 hx hy hs ho hz' (by simp [Nat.ble_eq]; omega) (by rw [Nat.zero_add]) ?_
    refine h _ hS' ?_
    have hl2 : ∀ x ∈ rows.set i (r.set j u), x.length = sz := set_lens hl (by rw [List.length_set]; exact hl r (List.mem_of_getElem? hri))
    have hnr : (rows.set i (r.set j u)).length = n := by
      have h1 := hS'.1
      rw [flat_len hl2] at h1
      exact Nat.eq_of_mul_eq_mul_right (by omega) h1
    obtain ⟨g2, cap2, cur2, hv2, hB2, hrow⟩ := SlO.at (rows := rows.set i (r.set j u)) (by rw [hnr]; exact hS') hl2 (i := i) (r := r.set j u) (by rw [List.getElem?_set_self hilt])
    simp only [List.cons.injEq, Prod.mk.injEq, Obj.cells.injEq, and_true, true_and] at hB2
    rw [hB2.2]
    exact hrow
theorem e_storeF {d : Option Nat} {t g n cap i j sz : Nat} {x y : Operand} {u : Value} {cur : Array Value} {rows : List (List Value)} {r : List Value} {T : TypeId} {f : Obj → Hp} {gd : Option (Nat × Bool)} (h : ∀ cur', SlO T sz (.slice (some ⟨g, 0, none⟩) n cap) n (rows.set i (r.set j u)).flatten [(g, .cells cur' T (0, 0))] → RowAt cur' (0 + i * sz) sz (r.set j u) → (∀ x ∈ rows.set i (r.set j u), x.length = sz) → (rows.set i (r.set j u))[i]? = some (r.set j u) → K undef (f (.cells cur' T (0, 0))))
    (hx : ev ρ x = .pointer (some ⟨g, 0 + i * sz + j, none⟩) := by exact rfl) (hy : ev ρ y = u := by (conv => lhs; whnf)) (hs : Go.Vl.sz C.P t = some 1 := by exact rfl) (ho : u.oneCell' = true := by (first | exact rfl | (apply SlO.one; assumption) | (apply InSl.one; assumption))) (hS : SlO T sz (.slice (some ⟨g, 0, none⟩) n cap) n rows.flatten [(g, .cells cur T (0, 0))] := by assumption) (hri : rows[i]? = some r := by assumption) (hl : ∀ r ∈ rows, r.length = sz := by assumption) (hj : j < sz := by decide) (hz : Zp H g (.cells cur T (0, 0)) f := by infer_instance) : Ex C ⟨d, .store t x y, ty, pos, af, gd⟩ K ρ H :=
  ex_storeF hx hy hs ho hS hri hl hj hz.zip fun cur' h1 h2 => h cur' h1 h2 (set_lens hl (by rw [List.length_set]; exact hl r (List.mem_of_getElem? hri))) (by rw [List.getElem?_set_self (List.getElem?_eq_some_iff.1 hri).1])
end
end Go.Vl
