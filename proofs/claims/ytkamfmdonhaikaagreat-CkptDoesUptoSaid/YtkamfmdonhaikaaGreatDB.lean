/-
  DiskOwn.
-/
import Derived.Test.YtkamfmdonhaikaaGreatDA
namespace Go.Vl
open Go.Proofs
attribute [local irreducible] wpC wpO wpD Ex Rd callsK RetP Drop valK
abbrev sOwn : ByteArray := ⟨#[111, 119, 110]⟩
set_option maxHeartbeats 4000000 in
set_option maxRecDepth 100000 in
theorem okOwn : okN sOwn := ⟨by decide, by decide⟩
set_option maxHeartbeats 4000000 in
set_option maxRecDepth 100000 in
theorem Dk.mkok {x : Dk} {room : Int} (h1 : MapF x.es x.clk x.l) (h2 : ∀ f ∈ x.l, f.ok) (h3 : (tot x.l : Int) ≤ room) (h4 : x.l.length ≤ 1024) (h5 : 0 ≤ x.left) (h6 : x.left ≤ 9223372036854775807) : x.ok room :=
  ⟨h1, h2, by have := h1.keys; rw [names_kp] at this; exact names_fl.2 this, by rw [← tot_totA]; exact h3, by simpa using h4, h5, h6, fun a ha => by obtain ⟨f, hf, rfl⟩ := List.mem_map.1 ha; exact (h2 f hf).y⟩
set_option maxHeartbeats 4000000 in
set_option maxRecDepth 100000 in
theorem own_append (e : World) {d m : Nat} {bs : List UInt8} {v : Value} {Bs F : Hp} {K : Value → Hp → Prop} (hS : InSl Bs 1 (bs.map byC) v) (hb : bs.length ≤ 140737488355328)
    (h0 : ∀ x : Dk, x.ok bs.length → x.ds = ⟨[(sOwn, bs, 0)], 0, 0, false⟩ → K (.int .i64 0) ((x.hp d m bs.length ++ Bs) ++ F)) :
    callsK Tryz.prog e 25 #[pv d, .string sOwn, v] (((dskO d m #[] 0 0 0 bs.length false ++ fsH []) ++ Bs) ++ F) K := by
  have ht0 : tot [] = 0 := rfl
  have h := append_ok (l := []) (s := sOwn) (bs := bs) (d := d) (m := m) (k := 0) (room := bs.length) (F := F) (K := K) e (MapK.nil _ _) (by simp) hS okOwn (by simp) (by omega) (by omega) (by omega) ?_
  · exact h
  · intro l' es' clk' h1 h2 h3
    have h3' : l'.map Fl.ab = [(sOwn, bs, 0)] := h3
    have h4 : l'.length = 1 := by have := congrArg List.length h3'; simpa using this
    have h5 : tot l' = bs.length := by rw [tot_totA, h3']; simp [totA]
    exact h0 ⟨clk', es', l', 0, 0, false⟩ (Dk.mkok h1 h2 (by simp only; omega) (by simp only; omega) (by simp) (by simp)) (by simp [h3'])
set_option maxHeartbeats 4000000 in
set_option maxRecDepth 100000 in
theorem read_has (e : World) {s : ByteArray} {bs : List UInt8} {n : Nat} {d m : Nat} {x : Dk} {room : Int} {F : Hp} {K : Value → Hp → Prop} (hx : x.ok room) (hb : tot x.l ≤ 140737488355328) (hs : okN s) (hd : x.down = false) (hm : (s, bs, n) ∈ x.ds.L)
    (h0 : ∀ v' B', BytO v' bs B' → K (.tuple #[v', .int .i64 0]) (B' ++ (x.hp d m room ++ F))) :
    callsK Tryz.prog e 44 #[pv d, .string s] (x.hp d m room ++ F) K := by
  obtain ⟨f, hf, he⟩ := List.mem_map.1 hm
  refine read_spec e hx.map hx.fl hb (fun h => by rw [hd] at h; cases h) (fun _ h => absurd hs h) (fun _ _ h => absurd (congrArg Prod.fst he) (h f hf)) (fun g v' B' _ _ hg hgn hB => ?_)
  have : g = f := by
    have hn := hx.names
    have hfn : f.nm = s := congrArg Prod.fst he
    have : ∀ {L : List Fl}, (L.map fun f => f.nm).Nodup → f ∈ L → g ∈ L → g = f := by
      intro L
      induction L with
      | nil => intro _ h; cases h
      | cons y L ih =>
        intro hk h1 h2
        rw [List.map_cons, List.nodup_cons] at hk
        rcases List.mem_cons.1 h1 with h1 | h1
        · rcases List.mem_cons.1 h2 with h2 | h2
          · rw [h1, h2]
          · exact absurd (List.mem_map.2 ⟨g, h2, by rw [hgn, ← hfn, h1]⟩) hk.1
        · rcases List.mem_cons.1 h2 with h2 | h2
          · exact absurd (List.mem_map.2 ⟨f, h1, by rw [hfn, ← hgn, h2]⟩) hk.1
          · exact ih hk.2 h1 h2
    exact this hn hf hg
  subst this
  have hbs : g.bs = bs := congrArg (fun a => a.2.1) he
  rw [hbs] at hB
  exact h0 v' B' hB
structure OpOK (I : Hp) (o : OpD) : Prop where
  s : InSl I 1 (o.bs.map byC) o.v
  b : o.bs.length ≤ 9223372036854775807
  k : o.k ≤ 9223372036854775807
end Go.Vl
