/-
  The disk's methods, each as a step of the plain disk; a script's operation.
-/
import Derived.Test.YtkamfmdonhaikaaDP
namespace Go.Vl
open Go.Proofs
attribute [local irreducible] wpC wpO wpD Ex Rd callsK RetP Drop valK
structure Dk where
  clk : Nat
  es : Array MapEntry
  l : List Fl
  left : Int
  k : Nat
  down : Bool
abbrev Dk.hp (x : Dk) (d m : Nat) (room : Int) : Hp := dskO d m x.es x.clk x.left x.k room x.down ++ fsH x.l
abbrev Dk.ds (x : Dk) : DS := ⟨x.l.map Fl.ab, x.left, x.k, x.down⟩
structure Dk.ok (x : Dk) (room : Int) : Prop where
  map : MapF x.es x.clk x.l
  fl : ∀ f ∈ x.l, f.ok
  s : x.ds.ok room
set_option maxHeartbeats 4000000 in
set_option maxRecDepth 100000 in
theorem Dk.ok.tot {x : Dk} {room : Int} (h : x.ok room) : (tot x.l : Int) ≤ room := by rw [tot_totA]; exact h.s.tot
set_option maxHeartbeats 4000000 in
set_option maxRecDepth 100000 in
theorem Dk.ok.len {x : Dk} {room : Int} (h : x.ok room) : x.l.length ≤ 1024 := by have := h.s.len; simpa using this
set_option maxHeartbeats 4000000 in
set_option maxRecDepth 100000 in
theorem Dk.ok.l0 {x : Dk} {room : Int} (h : x.ok room) : 0 ≤ x.left := h.s.l0
set_option maxHeartbeats 4000000 in
set_option maxRecDepth 100000 in
theorem Dk.ok.l1 {x : Dk} {room : Int} (h : x.ok room) : x.left ≤ 9223372036854775807 := h.s.l1
set_option maxHeartbeats 4000000 in
set_option maxRecDepth 100000 in
theorem Dk.fin {d m : Nat} {room : Int} {R : Int × DS} {K : Value → Hp → Prop} (Z : Hp → Hp) (hK : ∀ x' : Dk, x'.ok room → x'.ds.E R.2 → K (.int .i64 R.1) (Z (x'.hp d m room))) (hR : R.2.ok room) {es : Array MapEntry} {clk k : Nat} {l : List Fl} {left : Int} {down : Bool} (hM : MapF es clk l) (hok : ∀ f ∈ l, f.ok) {r : Int} {s' : DS} (he : R = (r, s')) (hE : DS.E ⟨l.map Fl.ab, left, k, down⟩ s') :
    K (.int .i64 r) (Z (dskO d m es clk left k room down ++ fsH l)) := by
  subst he
  exact hK ⟨clk, es, l, left, k, down⟩ ⟨hM, hok, hR.E hE.symm⟩ hE
set_option maxHeartbeats 4000000 in
set_option maxRecDepth 100000 in
theorem hasA_fl {l : List Fl} {n : ByteArray} : hasA (l.map Fl.ab) n ↔ ∃ f ∈ l, f.nm = n := by
  unfold hasA
  constructor
  · rintro ⟨a, ha, he⟩
    obtain ⟨f, hf, rfl⟩ := List.mem_map.1 ha
    exact ⟨f, hf, he⟩
  · rintro ⟨f, hf, he⟩
    exact ⟨f.ab, List.mem_map.2 ⟨f, hf, rfl⟩, he⟩
set_option maxHeartbeats 4000000 in
set_option maxRecDepth 100000 in
theorem hasA_not {l : List Fl} {n : ByteArray} (h : ∀ f ∈ l, f.nm ≠ n) : ¬ hasA (l.map Fl.ab) n := fun h1 => by
  obtain ⟨f, hf, he⟩ := hasA_fl.1 h1
  exact h f hf he
set_option maxHeartbeats 4000000 in
set_option maxRecDepth 100000 in
theorem bn_chg {s : DS} {L : List Ab} {left' : Int} (h : Bn s.left left') : s.chg L = (0, ⟨L, left', s.keep, s.down⟩) := by
  unfold DS.chg
  rcases h with ⟨h1, h2⟩ | ⟨h1, h2, h3⟩
  · rw [if_neg (by omega), if_pos h1, h2, h1]
  · rw [if_neg h2, if_neg h1, h3]
set_option maxHeartbeats 4000000 in
set_option maxRecDepth 100000 in
theorem append_D (e : World) {s : ByteArray} {bs : List UInt8} {v : Value} {Fn F : Hp} {d m : Nat} {x : Dk} {room : Int} {K : Value → Hp → Prop} (hx : x.ok room) (hr : room ≤ 9223372036854775807) (hS : InSl Fn 1 (bs.map byC) v) (hb : bs.length ≤ 9223372036854775807) (hcap : (bs.length : Int) + tot x.l ≤ room → bs.length + tot x.l ≤ 140737488355328)
    (hK : ∀ x' : Dk, x'.ok room → x'.ds.E (x.ds.append room s bs).2 → K (.int .i64 (x.ds.append room s bs).1) ((x'.hp d m room ++ Fn) ++ F)) :
    callsK Try.prog e 15 #[pv d, .string s, v] ((x.hp d m room ++ Fn) ++ F) K := by
  have hR := hx.s.append s bs
  have ht := hx.tot
  have hta := tot_totA x.l
  refine append_spec e hx.map hx.fl hx.l0 hx.l1 hS hb ht (by omega) hr hcap hx.len (fun h => ?_) (fun h h2 => ?_) (fun h h2 h3 h4 => ?_) (fun h h2 h4 h3 => ?_) (fun l' es' clk' left' h h2 h3 h4 hM' hok' hab hB => ?_) (fun l' es' clk' h h2 h3 h4 hM' hok' hab hB => ?_)
  · exact Dk.fin (fun H => (H ++ Fn) ++ F) hK hR hx.map hx.fl (if_pos h) (.rfl _)
  · exact Dk.fin (fun H => (H ++ Fn) ++ F) hK hR hx.map hx.fl (by unfold DS.append; rw [if_neg (by simp [h]), if_pos h2]) (.rfl _)
  · exact Dk.fin (fun H => (H ++ Fn) ++ F) hK hR hx.map hx.fl (by unfold DS.append; rw [if_neg (by simp [h]), if_neg (by simpa using h2), if_pos ⟨hasA_not h3, by simpa using h4⟩]) (.rfl _)
  · exact Dk.fin (fun H => (H ++ Fn) ++ F) hK hR hx.map hx.fl (by unfold DS.append; rw [if_neg (by simp [h]), if_neg (by simpa using h2), if_neg (fun h5 => h4.elim (fun h6 => h5.1 (hasA_fl.2 h6)) (fun h6 => by have := h5.2; simp only [List.length_map] at this; omega)), if_pos (by rw [← tot_totA]; exact h3)]) (.rfl _)
  · refine Dk.fin (fun H => (H ++ Fn) ++ F) hK hR hM' hok' (r := 0) (s' := ⟨appd x.ds.L s bs, left', x.k, x.down⟩) ?_ ⟨by rw [hab], rfl, rfl, rfl⟩
    unfold DS.append
    rw [if_neg (by simp [h]), if_neg (by simpa using h2), if_neg (fun h5 => h4.elim (fun h6 => h5.1 (hasA_fl.2 h6)) (fun h6 => by have := h5.2; simp only [List.length_map] at this; omega)), if_neg (by rw [← tot_totA]; omega), bn_chg hB]
  · refine Dk.fin (fun H => (H ++ Fn) ++ F) hK hR hM' hok' (k := 0) (r := 7) (s' := ⟨(appd x.ds.L s bs).map (fell x.k), 0, 0, true⟩) ?_ ⟨by rw [hab], rfl, rfl, rfl⟩
    unfold DS.append
    rw [if_neg (by simp [h]), if_neg (by simpa using h2), if_neg (fun h5 => h4.elim (fun h6 => h5.1 (hasA_fl.2 h6)) (fun h6 => by have := h5.2; simp only [List.length_map] at this; omega)), if_neg (by rw [← tot_totA]; omega)]
    unfold DS.chg DS.boom
    rw [if_pos hB]
set_option maxHeartbeats 4000000 in
set_option maxRecDepth 100000 in
theorem names_fl {l : List Fl} : NamesA (l.map Fl.ab) ↔ (l.map fun f => f.nm).Nodup := by unfold NamesA; simp [Function.comp_def]
set_option maxHeartbeats 4000000 in
set_option maxRecDepth 100000 in
theorem Dk.ok.names {x : Dk} {room : Int} (h : x.ok room) : (x.l.map fun f => f.nm).Nodup := names_fl.1 h.s.names
set_option maxHeartbeats 4000000 in
set_option maxRecDepth 100000 in
theorem fl_one {l1 l2 : List Fl} {f g : Fl} (hn : ((l1 ++ f :: l2).map fun x => x.nm).Nodup) {φ : Ab → Ab} (hg : g.ab = φ f.ab) (hφ : ∀ a : Ab, a.1 ≠ f.nm → φ a = a) : (l1 ++ g :: l2).map Fl.ab = ((l1 ++ f :: l2).map Fl.ab).map φ := by
  rw [List.map_append, List.map_cons, List.nodup_append, List.nodup_cons] at hn
  obtain ⟨_, ⟨hn2, _⟩, hn3⟩ := hn
  have e1 : l1.map Fl.ab = (l1.map Fl.ab).map φ := by
    rw [List.map_map]
    refine List.map_congr_left fun x hx => (hφ _ ?_).symm
    exact hn3 x.nm (List.mem_map.2 ⟨x, hx, rfl⟩) f.nm (by simp)
  have e2 : l2.map Fl.ab = (l2.map Fl.ab).map φ := by
    rw [List.map_map]
    refine List.map_congr_left fun x hx => (hφ _ ?_).symm
    exact fun he => hn2 (List.mem_map.2 ⟨x, hx, he⟩)
  rw [List.map_append, List.map_append, List.map_append, List.map_cons, List.map_cons, List.map_cons, ← e1, ← e2, hg]
set_option maxHeartbeats 4000000 in
set_option maxRecDepth 100000 in
theorem there_crash {s : DS} {ok : Prop} {n : ByteArray} {L : List Ab} (h : s.down = false) (h2 : ok) (h3 : hasA s.L n) (h1 : s.left = 1) : s.there ok n L = (7, s.boom s.keep) := by
  unfold DS.there DS.chg
  rw [if_neg (by simp [h]), if_neg (by simpa using h2), if_neg (by simpa using h3), if_pos h1]
set_option maxHeartbeats 4000000 in
set_option maxRecDepth 100000 in
theorem there_good {s : DS} {ok : Prop} {n : ByteArray} {L : List Ab} {left' : Int} (h : s.down = false) (h2 : ok) (h3 : hasA s.L n) (h1 : Bn s.left left') : s.there ok n L = (0, ⟨L, left', s.keep, s.down⟩) := by
  unfold DS.there
  rw [if_neg (by simp [h]), if_neg (by simpa using h2), if_neg (by simpa using h3), bn_chg h1]
set_option maxHeartbeats 4000000 in
set_option maxRecDepth 100000 in
theorem there_down {s : DS} {ok : Prop} {n : ByteArray} {L : List Ab} (h : s.down = true) : s.there ok n L = (7, s) := if_pos h
set_option maxHeartbeats 4000000 in
set_option maxRecDepth 100000 in
theorem there_wrong {s : DS} {ok : Prop} {n : ByteArray} {L : List Ab} (h : s.down = false) (h2 : ¬ ok) : s.there ok n L = (20, s) := by
  unfold DS.there
  rw [if_neg (by simp [h]), if_pos h2]
set_option maxHeartbeats 4000000 in
set_option maxRecDepth 100000 in
theorem there_none {s : DS} {ok : Prop} {n : ByteArray} {L : List Ab} (h : s.down = false) (h2 : ok) (h3 : ¬ hasA s.L n) : s.there ok n L = (4, s) := by
  unfold DS.there
  rw [if_neg (by simp [h]), if_neg (by simpa using h2), if_pos h3]
set_option maxHeartbeats 4000000 in
set_option maxRecDepth 100000 in
theorem sync_D (e : World) {s : ByteArray} {F : Hp} {d m : Nat} {x : Dk} {room : Int} {K : Value → Hp → Prop} (hx : x.ok room) (hb : tot x.l ≤ 140737488355328)
    (hK : ∀ x' : Dk, x'.ok room → x'.ds.E (x.ds.sync s).2 → K (.int .i64 (x.ds.sync s).1) (x'.hp d m room ++ F)) :
    callsK Try.prog e 37 #[pv d, .string s] (x.hp d m room ++ F) K := by
  have hR : (x.ds.sync s).2.ok room := hx.s.run ⟨1, s, s, none, 0, [], 0, 0⟩ (show (0 : Int) ≤ 9223372036854775807 by decide)
  refine sync_spec e hx.map hx.fl hb hx.l0 hx.l1 (fun h => ?_) (fun h h2 => ?_) (fun h h2 h3 => ?_) (fun h h2 h3 h1 l' hM' hok' hab => ?_) (fun f l1 l2 left' h h2 hl hf hB => ?_)
  · exact Dk.fin (fun H => H ++ F) hK hR hx.map hx.fl (there_down h) (.rfl _)
  · exact Dk.fin (fun H => H ++ F) hK hR hx.map hx.fl (there_wrong h h2) (.rfl _)
  · exact Dk.fin (fun H => H ++ F) hK hR hx.map hx.fl (there_none h h2 (hasA_not h3)) (.rfl _)
  · exact Dk.fin (fun H => H ++ F) hK hR hM' hok' (k := 0) (there_crash h h2 (hasA_fl.2 h3) h1) ⟨by rw [hab]; simp [DS.boom, Function.comp_def], rfl, rfl, rfl⟩
  · have hn := hx.names
    rw [hl] at hn
    have hff := hx.fl f (by rw [hl]; simp)
    have hM : MapF x.es x.clk (l1 ++ (⟨f.nm, f.ptr, f.v, f.bs, f.bs.length, f.B⟩ : Fl) :: l2) := by have := hx.map; rw [hl] at this; simpa [MapF] using this
    refine Dk.fin (fun H => H ++ F) hK hR hM (fun g hg => ?_) (there_good h h2 (hasA_fl.2 ⟨f, by rw [hl]; simp, hf⟩) hB) ⟨?_, rfl, rfl, rfl⟩
    · rcases List.mem_append.1 hg with hg | hg
      · exact hx.fl g (by rw [hl]; exact List.mem_append_left _ hg)
      · rcases List.mem_cons.1 hg with rfl | hg
        · exact ⟨hff.s, Nat.le_refl _⟩
        · exact hx.fl g (by rw [hl]; exact List.mem_append_right _ (List.mem_cons_of_mem _ hg))
    · show (List.map Fl.ab _).Perm (x.ds.L.map (synA s))
      rw [show x.ds.L = (l1 ++ f :: l2).map Fl.ab from by rw [← hl], fl_one hn (φ := synA s) (by unfold synA; rw [if_pos hf]) (fun a ha => if_neg (by rw [← hf]; exact ha))]
set_option maxHeartbeats 4000000 in
set_option maxRecDepth 100000 in
theorem remove_D (e : World) {s : ByteArray} {F : Hp} {d m : Nat} {x : Dk} {room : Int} {K : Value → Hp → Prop} (hx : x.ok room) (hb : tot x.l ≤ 140737488355328)
    (hK : ∀ x' : Dk, x'.ok room → x'.ds.E (x.ds.remove s).2 → K (.int .i64 (x.ds.remove s).1) (x'.hp d m room ++ F)) :
    callsK Try.prog e 38 #[pv d, .string s] (x.hp d m room ++ F) K := by
  have hR : (x.ds.remove s).2.ok room := hx.s.run ⟨3, s, s, none, 0, [], 0, 0⟩ (show (0 : Int) ≤ 9223372036854775807 by decide)
  refine remove_spec e hx.map hx.fl hb hx.l0 hx.l1 (fun h => ?_) (fun h h2 => ?_) (fun h h2 h3 => ?_) (fun h h2 h3 h1 l' hM' hok' hab => ?_) (fun f l1 l2 es' left' h h2 hl hf hB hM' => ?_)
  · exact Dk.fin (fun H => H ++ F) hK hR hx.map hx.fl (there_down h) (.rfl _)
  · exact Dk.fin (fun H => H ++ F) hK hR hx.map hx.fl (there_wrong h h2) (.rfl _)
  · exact Dk.fin (fun H => H ++ F) hK hR hx.map hx.fl (there_none h h2 (hasA_not h3)) (.rfl _)
  · exact Dk.fin (fun H => H ++ F) hK hR hM' hok' (k := 0) (there_crash h h2 (hasA_fl.2 h3) h1) ⟨by rw [hab]; simp [DS.boom, Function.comp_def], rfl, rfl, rfl⟩
  · have hn := hx.names
    refine Dk.fin (fun H => H ++ F) hK hR hM' (fun g hg => hx.fl g ?_) (there_good h h2 (hasA_fl.2 ⟨f, by rw [hl]; simp, hf⟩) hB) ⟨?_, rfl, rfl, rfl⟩
    · rw [hl]
      rcases List.mem_append.1 hg with hg | hg
      · exact List.mem_append_left _ hg
      · exact List.mem_append_right _ (List.mem_cons_of_mem _ hg)
    · have h1 := del_fl hn hl
      have h2 : ((l1 ++ l2).map Fl.ab) = delA (x.l.map Fl.ab) s := by
        rw [hl] at hn ⊢
        rw [List.map_append, List.map_cons, List.nodup_append, List.nodup_cons] at hn
        obtain ⟨_, ⟨hn2, _⟩, hn3⟩ := hn
        unfold delA
        rw [List.map_append, List.map_append, List.map_cons, List.filter_append, List.filter_cons_of_neg (by simpa using hf)]
        rw [List.filter_eq_self.2 fun a ha => by
          obtain ⟨y, hy, rfl⟩ := List.mem_map.1 ha
          have := hn3 y.nm (List.mem_map.2 ⟨y, hy, rfl⟩) f.nm (by simp)
          rw [hf] at this
          simpa using this, List.filter_eq_self.2 fun a ha => by
          obtain ⟨y, hy, rfl⟩ := List.mem_map.1 ha
          have : y.nm ≠ s := fun he => hn2 (List.mem_map.2 ⟨y, hy, he.trans hf.symm⟩)
          simpa using this]
      exact .of_eq h2
set_option maxHeartbeats 4000000 in
set_option maxRecDepth 100000 in
theorem putF_perm (x : Fl) : ∀ l : List Fl, (l.map fun f => f.nm).Nodup → (putF l x).Perm (l.filter (fun f => decide (¬ f.nm = x.nm)) ++ [x])
  | [], _ => .refl _
  | y :: l, hn => by
    rw [List.map_cons, List.nodup_cons] at hn
    unfold putF
    by_cases h : y.nm = x.nm
    · have : l.filter (fun f => decide (¬ f.nm = x.nm)) = l := List.filter_eq_self.2 fun z hz => by
        have : ¬ z.nm = x.nm := fun he => hn.1 (List.mem_map.2 ⟨z, hz, he.trans h.symm⟩)
        simpa using this
      rw [if_pos h, List.filter_cons_of_neg (by simpa using h), this]
      exact (List.perm_append_comm (l₁ := [x]) (l₂ := l))
    · rw [if_neg h, List.filter_cons_of_pos (by simpa using h)]
      exact (putF_perm x l hn.2).cons y
set_option maxHeartbeats 4000000 in
set_option maxRecDepth 100000 in
theorem rename_D (e : World) {s r : ByteArray} {F : Hp} {d m : Nat} {x : Dk} {room : Int} {K : Value → Hp → Prop} (hx : x.ok room)
    (hK : ∀ x' : Dk, x'.ok room → x'.ds.E (x.ds.rename s r).2 → K (.int .i64 (x.ds.rename s r).1) (x'.hp d m room ++ F)) :
    callsK Try.prog e 39 #[pv d, .string s, .string r] (x.hp d m room ++ F) K := by
  have hR : (x.ds.rename s r).2.ok room := hx.s.run ⟨4, s, r, none, 0, [], 0, 0⟩ (show (0 : Int) ≤ 9223372036854775807 by decide)
  refine rename_spec e hx.map hx.fl hx.l0 hx.l1 (fun h => ?_) (fun h h2 => ?_) (fun h h2 h2' h3 => ?_) (fun h h2 h2' h3 h1 l' hM' hok' hab => ?_) (fun f l1 l2 es' clk' left' h h2 h2' hl hf hB hM' => ?_)
  · exact Dk.fin (fun H => H ++ F) hK hR hx.map hx.fl (there_down h) (.rfl _)
  · exact Dk.fin (fun H => H ++ F) hK hR hx.map hx.fl (there_wrong h h2) (.rfl _)
  · exact Dk.fin (fun H => H ++ F) hK hR hx.map hx.fl (there_none h ⟨h2, h2'⟩ (hasA_not h3)) (.rfl _)
  · exact Dk.fin (fun H => H ++ F) hK hR hM' hok' (k := 0) (there_crash h ⟨h2, h2'⟩ (hasA_fl.2 h3) h1) ⟨by rw [hab]; simp [DS.boom, Function.comp_def], rfl, rfl, rfl⟩
  · have hn := hx.names
    have hff := hx.fl f (by rw [hl]; simp)
    have hn12 : ((l1 ++ l2).map fun f => f.nm).Nodup := by
      rw [hl] at hn
      refine hn.sublist (List.Sublist.map _ ?_)
      exact (List.Sublist.refl _).append (List.sublist_cons_self _ _)
    have hp := putF_perm ⟨r, f.ptr, f.v, f.bs, f.syn, f.B⟩ (l1 ++ l2) hn12
    refine Dk.fin (fun H => H ++ F) hK hR hM' (fun g hg => ?_) (there_good h ⟨h2, h2'⟩ (hasA_fl.2 ⟨f, by rw [hl]; simp, hf⟩) hB) ⟨?_, rfl, rfl, rfl⟩
    · rcases List.mem_append.1 (hp.mem_iff.1 hg) with hg | hg
      · refine hx.fl g ?_
        rw [hl]
        rcases List.mem_append.1 (List.mem_filter.1 hg).1 with hg | hg
        · exact List.mem_append_left _ hg
        · exact List.mem_append_right _ (List.mem_cons_of_mem _ hg)
      · obtain rfl := List.mem_singleton.1 hg
        exact ⟨hff.s, hff.y⟩
    · have h1 : (x.l.map Fl.ab).filter (fun a => decide (a.1 = s)) = [f.ab] := by
        have : ∀ (L : List Fl), (L.map fun f => f.nm).Nodup → f ∈ L → (L.map Fl.ab).filter (fun a => decide (a.1 = s)) = [f.ab] := by
          intro L
          induction L with
          | nil => intro _ h; cases h
          | cons y L ih =>
            intro hk hm
            rw [List.map_cons, List.nodup_cons] at hk
            rw [List.map_cons]
            rcases List.mem_cons.1 hm with rfl | hm
            · rw [List.filter_cons_of_pos (by simpa using hf), List.filter_eq_nil_iff.2]
              intro a ha
              obtain ⟨z, hz, rfl⟩ := List.mem_map.1 ha
              have : z.nm ≠ s := fun he => hk.1 (List.mem_map.2 ⟨z, hz, he.trans hf.symm⟩)
              simpa using this
            · have hys : y.nm ≠ s := fun he => hk.1 (List.mem_map.2 ⟨f, hm, hf.trans he.symm⟩)
              rw [List.filter_cons_of_neg (by simpa using hys)]
              exact ih hk.2 hm
        exact this x.l hn (by rw [hl]; simp)
      refine (hp.map Fl.ab).trans ?_
      show (List.map Fl.ab _).Perm (renA (x.l.map Fl.ab) s r)
      unfold renA
      rw [h1, List.map_append]
      refine .append (.of_eq ?_) (.refl _)
      rw [List.filter_map, hl]
      rw [hl, List.map_append, List.map_cons, List.nodup_append, List.nodup_cons] at hn
      obtain ⟨_, ⟨hn2, _⟩, hn3⟩ := hn
      rw [List.filter_append, List.filter_append, List.filter_cons_of_neg (by simp [hf])]
      congr 1
      congr 1
      · refine List.filter_congr fun z hz => ?_
        have hzs : ¬ z.nm = s := by rw [← hf]; exact hn3 z.nm (List.mem_map.2 ⟨z, hz, rfl⟩) f.nm (by simp)
        simp [hzs]
      · refine List.filter_congr fun z hz => ?_
        have hzs : ¬ z.nm = s := fun he => hn2 (List.mem_map.2 ⟨z, hz, he.trans hf.symm⟩)
        simp [hzs]
set_option maxHeartbeats 4000000 in
set_option maxRecDepth 100000 in
theorem setFuse_D (e : World) {a b : Int} {F : Hp} {d m : Nat} {x : Dk} {room : Int} {K : Value → Hp → Prop} (hx : x.ok room) (ha : a ≤ 9223372036854775807)
    (hK : ∀ x' : Dk, x'.ok room → x'.ds.E (x.ds.setFuse a b).2 → K (.int .i64 (x.ds.setFuse a b).1) (x'.hp d m room ++ F)) :
    callsK Try.prog e 26 #[pv d, .int .i64 a, .int .i64 b] (x.hp d m room ++ F) K := by
  have hR : (x.ds.setFuse a b).2.ok room := hx.s.run ⟨6, sA, sA, none, 0, [], a, b⟩ ha
  rw [List.append_assoc]
  refine setFuse_spec e (fun h => ?_) (fun h h2 h3 => ?_) (fun h h2 h3 => ?_)
  · rw [← List.append_assoc]
    exact Dk.fin (fun H => H ++ F) hK hR hx.map hx.fl (if_pos h) (.rfl _)
  · rw [← List.append_assoc]
    exact Dk.fin (fun H => H ++ F) hK hR hx.map hx.fl (by unfold DS.setFuse; rw [if_neg (by omega), if_pos h3]) (.rfl _)
  · rw [← List.append_assoc]
    have := Dk.fin (k := b.toNat) (left := a) (down := x.down) (fun H => H ++ F) hK hR hx.map hx.fl (by unfold DS.setFuse; rw [if_neg (by omega), if_neg (by simp [h3])]) (.rfl _)
    rwa [Int.toNat_of_nonneg h2] at this
set_option maxHeartbeats 4000000 in
set_option maxRecDepth 100000 in
theorem crash_D (e : World) {a : Int} {F : Hp} {d m : Nat} {x : Dk} {room : Int} {K : Value → Hp → Prop} (hx : x.ok room)
    (hK : ∀ x' : Dk, x'.ok room → x'.ds.E (x.ds.crash a).2 → K (.int .i64 (x.ds.crash a).1) (x'.hp d m room ++ F)) :
    callsK Try.prog e 28 #[pv d, .int .i64 a] (x.hp d m room ++ F) K := by
  have hR : (x.ds.crash a).2.ok room := hx.s.run ⟨7, sA, sA, none, 0, [], 0, a⟩ (show (0 : Int) ≤ 9223372036854775807 by decide)
  refine crash_spec e hx.map hx.fl (fun h => ?_) (fun h h2 => ?_) (fun n h h2 l' hM' hok' hab => ?_)
  · exact Dk.fin (fun H => H ++ F) hK hR hx.map hx.fl (if_pos h) (.rfl _)
  · exact Dk.fin (fun H => H ++ F) hK hR hx.map hx.fl (by unfold DS.crash; rw [if_neg (by omega), if_pos h2]) (.rfl _)
  · subst h
    exact Dk.fin (fun H => H ++ F) hK hR hM' hok' (k := 0) (s' := x.ds.boom n) (by unfold DS.crash; rw [if_neg (by omega), if_neg (by simp [h2])]; rfl) ⟨by rw [hab]; simp [DS.boom, Function.comp_def], rfl, rfl, rfl⟩
set_option maxHeartbeats 4000000 in
set_option maxRecDepth 100000 in
theorem restart_D (e : World) {F : Hp} {d m : Nat} {x : Dk} {room : Int} {K : Value → Hp → Prop} (hx : x.ok room)
    (hK : ∀ x' : Dk, x'.ok room → x'.ds.E (x.ds.restart).2 → K (.int .i64 (x.ds.restart).1) (x'.hp d m room ++ F)) :
    callsK Try.prog e 29 #[pv d] (x.hp d m room ++ F) K := by
  have hR : (x.ds.restart).2.ok room := hx.s.run ⟨8, sA, sA, none, 0, [], 0, 0⟩ (show (0 : Int) ≤ 9223372036854775807 by decide)
  rw [List.append_assoc]
  refine restart_spec e (fun h => ?_) (fun h => ?_)
  · rw [← List.append_assoc]
    exact Dk.fin (fun H => H ++ F) hK hR hx.map hx.fl (if_neg (by simp [h])) (.rfl _)
  · rw [← List.append_assoc]
    exact Dk.fin (down := false) (fun H => H ++ F) hK hR hx.map hx.fl (if_pos h) (.rfl _)
end Go.Vl
