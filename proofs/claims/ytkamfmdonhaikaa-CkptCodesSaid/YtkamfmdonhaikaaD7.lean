/-
  The laws' own first look at a disk; a script's operation.
-/
import Derived.Test.YtkamfmdonhaikaaD6
namespace Go.Vl
open Go.Proofs
attribute [local irreducible] wpC wpO wpD Ex Rd callsK RetP Drop valK
set_option maxHeartbeats 4000000 in
set_option maxRecDepth 100000 in
theorem tot_ab : ∀ l : List Fl, tot l = ((l.map Fl.ab).map fun a => a.2.1.length).sum
  | [] => rfl
  | f :: l => by rw [tot_cons, tot_ab l]; rfl
set_option maxHeartbeats 4000000 in
set_option maxRecDepth 100000 in
theorem new_ok (e : World) {room : Int} {F : Hp} {K : Value → Hp → Prop} (hr : 0 ≤ room) (h0 : ∀ d m, K (.tuple #[pv d, .int .i64 0]) ((dskO d m #[] 0 0 0 room false ++ fsH []) ++ F)) :
    callsK Try.prog e 13 #[.int .i64 room] F K :=
  new_spec e (fun h => by omega) (fun _ d m => by have := h0 d m; rwa [show fsH [] = [] from rfl, List.append_nil] at this)
set_option maxHeartbeats 4000000 in
set_option maxRecDepth 100000 in
theorem append_ok (e : World) {d m clk : Nat} {es : Array MapEntry} {room : Int} {k : Nat} {l : List Fl} {s : ByteArray} {bs : List UInt8} {v : Value} {Fn F : Hp} {K : Value → Hp → Prop} (hM : MapF es clk l) (hok : ∀ f ∈ l, f.ok) (hS : InSl Fn 1 (bs.map byC) v)
    (hs : okN s) (hll : l.length < 1024) (hfit : (bs.length : Int) + tot l ≤ room) (hr : room ≤ 9223372036854775807) (h47 : bs.length + tot l ≤ 140737488355328)
    (h0 : ∀ l' es' clk', MapF es' clk' l' → (∀ f ∈ l', f.ok) → l'.map Fl.ab = appd (l.map Fl.ab) s bs → K (.int .i64 0) (((dskO d m es' clk' 0 k room false ++ fsH l') ++ Fn) ++ F)) :
    callsK Try.prog e 15 #[pv d, .string s, v] (((dskO d m es clk 0 k room false ++ fsH l) ++ Fn) ++ F) K :=
  append_spec e hM hok (Int.le_refl 0) (by omega) hS (by omega) (by omega) (by omega) hr (fun _ => h47) (by omega) (fun h => by cases h) (fun _ h => absurd hs h) (fun _ _ _ h => by omega) (fun _ _ _ h => by omega)
    (fun l' es' clk' left' _ _ _ _ h1 h2 h3 h4 => by rcases h4 with ⟨_, rfl⟩ | ⟨h, _⟩; exact h0 l' es' clk' h1 h2 h3; exact absurd rfl h) (fun _ _ _ _ _ _ _ _ _ _ h => by cases h)
set_option maxHeartbeats 4000000 in
set_option maxRecDepth 100000 in
theorem append_full (e : World) {d m clk : Nat} {es : Array MapEntry} {left room : Int} {k : Nat} {l : List Fl} {s : ByteArray} {bs : List UInt8} {v : Value} {Fn F : Hp} {K : Value → Hp → Prop} (hM : MapF es clk l) (hok : ∀ f ∈ l, f.ok) (hl0 : 0 ≤ left) (hl1 : left ≤ 9223372036854775807) (hS : InSl Fn 1 (bs.map byC) v)
    (hs : okN s) (hll : l.length < 1024) (htr : (tot l : Int) ≤ room) (hfit : room < (bs.length : Int) + tot l) (hr : room ≤ 9223372036854775807) (hb : bs.length ≤ 140737488355328)
    (h0 : K (.int .i64 6) (((dskO d m es clk left k room false ++ fsH l) ++ Fn) ++ F)) :
    callsK Try.prog e 15 #[pv d, .string s, v] (((dskO d m es clk left k room false ++ fsH l) ++ Fn) ++ F) K :=
  append_spec e hM hok hl0 hl1 hS (by omega) htr (by omega) hr (fun h => by omega) (by omega) (fun h => by cases h) (fun _ h => absurd hs h) (fun _ _ _ h => by omega) (fun _ _ _ _ => h0)
    (fun _ _ _ _ _ _ h _ _ _ _ _ => by exfalso; omega) (fun _ _ _ _ _ h _ _ _ _ _ => by exfalso; omega)
set_option maxHeartbeats 4000000 in
set_option maxRecDepth 100000 in
theorem inSl_mark (b n : Nat) (bs : List UInt8) (fz : Nat × Nat) (hn : n = bs.length) : InSl [(b, .cells (bs.map fun x => Value.int .u8 (x.toNat : Int)).toArray 5 fz)] 1 (bs.map byC) (.slice (some ⟨b, 0, none⟩) n n) := by
  subst hn
  refine ⟨_, bs.length, by rw [List.length_map], by rw [List.length_map]; exact Nat.le_refl _, fun r hr => ?_, .inr ⟨b, 0, _, 5, fz, rfl, List.mem_singleton.2 rfl, ?_⟩⟩
  · obtain ⟨x, _, rfl⟩ := List.mem_map.1 hr
    exact ⟨rfl, rfl⟩
  · rw [byC_flat]
    refine ⟨by simp, fun j v hj => ?_⟩
    simpa using hj
abbrev sA : ByteArray := ⟨#[97]⟩
abbrev sB : ByteArray := ⟨#[98]⟩
abbrev bHello : List UInt8 := [104, 101, 108, 108, 111]
abbrev bWorlds : List UInt8 := [119, 111, 114, 108, 100, 115]
abbrev mkB (b : Nat) (bs : List UInt8) : Hp := [(b, .cells (bs.map fun x => Value.int .u8 (x.toNat : Int)).toArray 5 (bs.length, bs.length + 1))]
set_option maxHeartbeats 4000000 in
set_option maxRecDepth 100000 in
theorem okA : okN sA := ⟨by decide, by decide⟩
set_option maxHeartbeats 4000000 in
set_option maxRecDepth 100000 in
theorem okB : okN sB := ⟨by decide, by decide⟩
structure Hel (es : Array MapEntry) (clk : Nat) (l : List Fl) : Prop where
  map : MapF es clk l
  ok : ∀ f ∈ l, f.ok
  ab : l.map Fl.ab = [(sA, bHello, 0)]
set_option maxHeartbeats 4000000 in
set_option maxRecDepth 100000 in
theorem Hel.tot {es : Array MapEntry} {clk : Nat} {l : List Fl} (h : Hel es clk l) : tot l = 5 := by rw [tot_ab, h.ab]; rfl
set_option maxHeartbeats 4000000 in
set_option maxRecDepth 100000 in
theorem Hel.len {es : Array MapEntry} {clk : Nat} {l : List Fl} (h : Hel es clk l) : l.length = 1 := by have := congrArg List.length h.ab; simpa using this
set_option maxHeartbeats 4000000 in
set_option maxRecDepth 100000 in
theorem begun_hello (e : World) {d m b : Nat} {F : Hp} {K : Value → Hp → Prop} (h0 : ∀ l es clk, Hel es clk l → K (.int .i64 0) (((dskO d m es clk 0 0 10 false ++ fsH l) ++ [(b, .cells #[.int .u8 104, .int .u8 101, .int .u8 108, .int .u8 108, .int .u8 111] 5 (5, 6))]) ++ F)) :
    callsK Try.prog e 15 #[pv d, .string sA, .slice (some ⟨b, 0, none⟩) 5 5] (((dskO d m #[] 0 0 0 10 false ++ fsH []) ++ [(b, .cells #[.int .u8 104, .int .u8 101, .int .u8 108, .int .u8 108, .int .u8 111] 5 (5, 6))]) ++ F) K := by
  have h := append_ok (l := []) (s := sA) (bs := bHello) (d := d) (m := m) (k := 0) (room := 10) (F := F) (K := K) e (MapK.nil _ _) (by simp) (inSl_mark b 5 bHello (5, 6) rfl) okA (by simp) (by decide) (by omega) (by decide) ?_
  · exact h
  · intro l' es' clk' h1 h2 h3
    exact h0 l' es' clk' ⟨h1, h2, h3⟩
set_option maxHeartbeats 4000000 in
set_option maxRecDepth 100000 in
theorem begun_worlds (e : World) {d m b clk : Nat} {es : Array MapEntry} {l : List Fl} {F : Hp} {K : Value → Hp → Prop} (hH : Hel es clk l) (h0 : K (.int .i64 6) (((dskO d m es clk 0 0 10 false ++ fsH l) ++ [(b, .cells #[.int .u8 119, .int .u8 111, .int .u8 114, .int .u8 108, .int .u8 100, .int .u8 115] 5 (6, 7))]) ++ F)) :
    callsK Try.prog e 15 #[pv d, .string sB, .slice (some ⟨b, 0, none⟩) 6 6] (((dskO d m es clk 0 0 10 false ++ fsH l) ++ [(b, .cells #[.int .u8 119, .int .u8 111, .int .u8 114, .int .u8 108, .int .u8 100, .int .u8 115] 5 (6, 7))]) ++ F) K := by
  have ht := hH.tot
  have hl := hH.len
  have h6 : bWorlds.length = 6 := rfl
  exact append_full (l := l) (s := sB) (bs := bWorlds) (d := d) (m := m) (k := 0) (room := 10) (F := F) (K := K) e hH.map hH.ok (by omega) (by omega) (inSl_mark b 6 bWorlds (6, 7) rfl) okB (by omega) (by omega) (by omega) (by omega) (by omega) h0
set_option maxHeartbeats 4000000 in
set_option maxRecDepth 100000 in
theorem begun_read (e : World) {d m clk : Nat} {es : Array MapEntry} {l : List Fl} {F : Hp} {K : Value → Hp → Prop} (hH : Hel es clk l) (h0 : ∀ v' B', BytO v' bHello B' → K (.tuple #[v', .int .i64 0]) (B' ++ ((dskO d m es clk 0 0 10 false ++ fsH l) ++ F))) :
    callsK Try.prog e 17 #[pv d, .string sA] ((dskO d m es clk 0 0 10 false ++ fsH l) ++ F) K := by
  have ht := hH.tot
  have hex : ∃ f ∈ l, f.nm = sA := by
    have : (sA, bHello, 0) ∈ l.map Fl.ab := by rw [hH.ab]; simp
    obtain ⟨f, hf, he⟩ := List.mem_map.1 this
    exact ⟨f, hf, congrArg Prod.fst he⟩
  refine read_spec (k := 0) e hH.map hH.ok (by omega) (fun h => by cases h) (fun _ h => absurd okA h) (fun _ _ h => by obtain ⟨f, hf, hn⟩ := hex; exact absurd hn (h f hf)) (fun f v' B' _ _ hf hn hB => ?_)
  have : f.ab ∈ l.map Fl.ab := List.mem_map.2 ⟨f, hf, rfl⟩
  rw [hH.ab] at this
  have hb : f.bs = bHello := by
    have := List.mem_singleton.1 this
    exact congrArg (fun a => a.2.1) this
  rw [hb] at hB
  exact h0 v' B' hB
end Go.Vl
