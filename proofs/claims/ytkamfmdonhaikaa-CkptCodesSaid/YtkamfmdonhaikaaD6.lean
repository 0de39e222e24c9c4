/-
  The disk: Clone.
-/
import Derived.Test.YtkamfmdonhaikaaD5
namespace Go.Vl
open Go.Proofs
attribute [local irreducible] wpC wpO wpD Ex Rd callsK RetP Drop valK
set_option maxHeartbeats 4000000 in
set_option maxRecDepth 100000 in
theorem clone_specL (e : World) {v : Value} {bs : List UInt8} {Bs F : Hp} {K : Value → Hp → Prop} (hS : InSl Bs 1 (bs.map byC) v) (hb : bs.length ≤ 140737488355328) (hK : ∀ a c B', BytO (.slice a bs.length c) bs B' → K (.slice a bs.length c) (B' ++ (Bs ++ F))) :
    callsK Try.prog e 49 #[v] (Bs ++ F) K :=
  clone_spec e hS hb fun v' B' h => by obtain ⟨a, c, rfl⟩ := SlO.val h; exact hK a c B' h
structure ClS where
  es : Array MapEntry
  clk : Nat
  cl : List Fl
  last : Option (ByteArray × Nat)
  lf : List Fl
  o : Obj
set_option maxHeartbeats 4000000 in
set_option maxRecDepth 100000 in
theorem dclone_spec (e : World) {d m clk : Nat} {es : Array MapEntry} {left room : Int} {k : Nat} {down : Bool} {l : List Fl} {F : Hp} {K : Value → Hp → Prop} (hM : MapF es clk l) (hok : ∀ f ∈ l, f.ok) (hb : tot l ≤ 140737488355328)
    (hK : ∀ c m2 es2 clk2 l2, MapF es2 clk2 l2 → (∀ f ∈ l2, f.ok) → (l2.map Fl.ab).Perm (l.map Fl.ab) → K (pv c) ((dskO c m2 es2 clk2 left k room down ++ fsH l2) ++ ((dskO d m es clk left k room down ++ fsH l) ++ F))) :
    callsK Try.prog e 16 #[pv d] ((dskO d m es clk left k room down ++ fsH l) ++ F) K := by
  refine calls_body (N := 50) (args := [pv d]) Try.func16 rfl rfl rfl (by simp) ?_
  repeat' (first | (show wpO _ _ _ _ _ _ _; first | refine wpO_nil ?_ | refine s_rdp ?_ | refine s_rdm ?_ | refine s_exq ?_ | refine s_exm ?_) | (show Ex _ _ _ _ _; first | (show Ex _ ⟨_, .call ⟨.value (.func _), _, _⟩, _, _, _, _⟩ _ _ _; refine e_call ?_; first | (apply p_pcs; apply none_f; (try case hS => assumption); (case hpcs => (repeat (first | exact Pcs.blk (by infer_instance) | exact Pcs.nil | (apply Pcs.cons; infer_instance) | apply Pcs.app))))) | (show Ex _ ⟨_, .box _ _, _, _, _, _⟩ _ _ _; first | (refine e_boxA ?_; intro _) | (refine e_box1 ?_; intro _)) | (refine ex_makeMap ?_; intro _) | (show Ex _ ⟨_, .mapUpdate _ _ _ _, _, _, _, _⟩ _ _ _; refine e_mapUpdate ?_; intro _ _ _) | (show Ex _ ⟨_, .range _ _, _, _, _, _⟩ _ _ _; refine e_range ?_; intro _ _ _) | (show Ex _ ⟨_, .next _ _, _, _, _, _⟩ _ _ _; refine e_next (fun _ => ?_) (fun _ _ _ _ => ?_))) | (show wpC _ _ _ _ _ _; first | refine wpC_seq ?_ | refine wpC_region ?_ | refine c_true ?_ | refine c_false ?_ | (refine c_b (fun _ => ?_) (fun _ => ?_) <;> (first | (exfalso; omega) | contradiction | skip)) | refine wpC_block ?_ | refine wpC_ret ?_ | refine wpC_skip ?_ | refine wpC_exit ?_ | refine wpC_label ?_ | (apply wpC_drawX (id := 3) ([]) [1, 2, 3, 4, 5, 6, 7, 8, 9, 10, 11, 12, 0, 13, 14, 15] rfl (by kernel_rfl); (case hpk => (repeat (first | exact Pcs.blk (by infer_instance) | exact Pcs.nil | (apply Pcs.cons; infer_instance) | apply Pcs.app)))) | (apply wpC_drawX (id := 7) ([]) [0, 1, 2, 3, 4, 5, 6, 7, 8, 10, 11, 12, 13, 9, 14, 15, 16] rfl (by kernel_rfl); (case hpk => (repeat (first | exact Pcs.blk (by infer_instance) | exact Pcs.nil | (apply Pcs.cons; infer_instance) | apply Pcs.app))))) | (show Then _ _ _ _ _ _ _; first | refine then_normal ?_ | refine then_ret ?_ | refine then_exit ?_) | (show InBlock _ _ _ _ _ _; first | refine inBlock_normal ?_ | refine inBlock_ret ?_ | refine inBlock_same ?_ | refine b_other ?_) | (show LoopPost _ _ _ _ _ _; first | refine loop_ret ?_ | refine loop_exit ?_) | (show wpD _ _ _ _ _ _ _ _; first | refine wpD_nil ?_ | refine d_rdp ?_ | refine d_rdm ?_ | refine d_exs ?_ | refine d_exn ?_) | (show (_ ∨ Subs _ _) ∧ _; first | refine d_sub ?_ | refine d_cov ?_) | (show RetP _ _ _ _ _ _ _ _; first | refine r_1 ?_) | assumption | intro _)
  rename_i m2 c bi oi hI0
  have hnd : (l.map fun f => f.nm).Nodup := by have := hM.keys; rwa [names_kp] at this
  have hfst : ∀ l : List Fl, (l.map Fl.ab).map Prod.fst = l.map fun f => f.nm := fun l => by simp [Function.comp_def]
  refine wpC_loopA (κ := ClS) [4, 5, 28, 29, 30, 31, 32, 33, 34, 35, 36, 37, 38, 39, 40, 41, 42, 43, 44, 45, 46, 47, 48] (fun _ => []) (fun s => [(bi, s.o)] ++ ((dskO c m2 s.es s.clk left k room down ++ fsH s.cl) ++ ((dskO d m es clk left k room down ++ fsH l) ++ F)))
    (fun s => IterK Value.string pv m es clk s.last (s.lf.map kp) s.o ∧ (∀ f ∈ s.lf, f ∈ l) ∧ MapF s.es s.clk s.cl ∧ (∀ f ∈ s.cl, f.ok) ∧ (s.cl.map Fl.ab ++ s.lf.map Fl.ab).Perm (l.map Fl.ab)) (fun s => s.lf.length) ⟨#[], 0, [], none, l, oi⟩
    ⟨hI0, fun f h => h, MapK.nil _ _, by simp, by simp⟩ trivial (by simp only [show fsH [] = [] from rfl, List.append_nil]; exact q_drp) ?_
  rintro ⟨es2, clk2, cl, la, lf, oi⟩ ρx ⟨hI, hs, hM2, ho, hp0⟩
  simp only at hI hs hM2 ho hp0 ⊢
  have hnn : (cl.map (fun f => f.nm) ++ lf.map fun f => f.nm).Nodup := by
    have := (hp0.map Prod.fst).nodup_iff.2 (by rw [hfst]; exact hnd)
    rwa [List.map_append, hfst, hfst] at this
  repeat' (first | (show wpO _ _ _ _ _ _ _; first | refine wpO_nil ?_ | refine s_rdp ?_ | refine s_rdm ?_ | refine s_exq ?_ | refine s_exm ?_) | (show Ex _ _ _ _ _; first | (refine e_next (fun h0 => ?_) (fun p hp o' hI' => ?_); rotate_left; obtain ⟨f, hf, rfl⟩ := List.mem_map.1 hp; have hff := hok f (hs f hf); have hin := fl_in (hs f hf) hff; have hle := tot_le (hs f hf); haveI := fsH_has (hs f hf); have htk := take_fl (List.nodup_append.1 hnn).2.1 hf; rw [adel_kp] at hI') | (show Ex _ ⟨_, .call ⟨.value (.func _), _, _⟩, _, _, _, _⟩ _ _ _; refine e_call ?_; first | (apply p_pcs; apply clone_specL; (try case hS => assumption); (case hpcs => (repeat (first | exact Pcs.blk (by infer_instance) | exact Pcs.nil | (apply Pcs.cons; infer_instance) | apply Pcs.app))))) | (show Ex _ ⟨_, .box _ _, _, _, _, _⟩ _ _ _; first | (refine e_boxA ?_; intro _) | (refine e_box1 ?_; intro _)) | (refine ex_makeMap ?_; intro _) | (show Ex _ ⟨_, .mapUpdate _ _ _ _, _, _, _, _⟩ _ _ _; refine e_mapUpdate ?_; intro _ _ _) | (show Ex _ ⟨_, .range _ _, _, _, _, _⟩ _ _ _; refine e_range ?_; intro _ _ _) | (show Ex _ ⟨_, .next _ _, _, _, _, _⟩ _ _ _; refine e_next (fun _ => ?_) (fun _ _ _ _ => ?_))) | (show wpC _ _ _ _ _ _; first | refine wpC_seq ?_ | refine wpC_region ?_ | refine c_true ?_ | refine c_false ?_ | (refine c_b (fun _ => ?_) (fun _ => ?_) <;> (first | (exfalso; omega) | contradiction | skip)) | refine wpC_block ?_ | refine wpC_ret ?_ | refine wpC_skip ?_ | refine wpC_exit ?_ | refine wpC_label ?_ | (apply wpC_drawX (id := 3) ([]) [1, 2, 3, 4, 5, 6, 7, 8, 9, 10, 11, 12, 0, 13, 14, 15] rfl (by kernel_rfl); (case hpk => (repeat (first | exact Pcs.blk (by infer_instance) | exact Pcs.nil | (apply Pcs.cons; infer_instance) | apply Pcs.app)))) | (apply wpC_drawX (id := 7) ([]) [0, 1, 2, 3, 4, 5, 6, 7, 8, 10, 11, 12, 13, 9, 14, 15, 16] rfl (by kernel_rfl); (case hpk => (repeat (first | exact Pcs.blk (by infer_instance) | exact Pcs.nil | (apply Pcs.cons; infer_instance) | apply Pcs.app))))) | (show Then _ _ _ _ _ _ _; first | refine then_normal ?_ | refine then_ret ?_ | refine then_exit ?_) | (show InBlock _ _ _ _ _ _; first | refine inBlock_normal ?_ | refine inBlock_ret ?_ | refine inBlock_same ?_ | refine b_other ?_) | (show LoopPost _ _ _ _ _ _; first | refine loop_ret ?_ | refine loop_exit ?_) | (show wpD _ _ _ _ _ _ _ _; first | refine wpD_nil ?_ | refine d_rdp ?_ | refine d_rdm ?_ | refine d_exs ?_ | refine d_exn ?_) | (show (_ ∨ Subs _ _) ∧ _; first | refine d_sub ?_ | refine d_cov ?_) | (show RetP _ _ _ _ _ _ _ _; first | refine r_1 ?_) | assumption | intro _)
  · omega
  · rename_i a cc B' hB p es3 clk3 hM3
    have hno : aget (cl.map kp) f.nm = none := by
      refine aget_none.2 fun x hx he => ?_
      obtain ⟨g, hg, rfl⟩ := List.mem_map.1 hx
      exact (List.nodup_append.1 hnn).2.2 g.nm (List.mem_map.2 ⟨g, hg, rfl⟩) f.nm (List.mem_map.2 ⟨f, hf, rfl⟩) he
    have hM4 : MapF es3 clk3 (cl ++ [(⟨f.nm, p, .slice a f.bs.length cc, f.bs, f.syn, B'⟩ : Fl)]) := by
      rw [show (kp f).1 = f.nm from rfl, aput_new hno] at hM3
      simpa [MapF] using hM3
    have hlen := htk.length_eq
    have hpm := (htk.map Fl.ab).symm
    refine lp_end ⟨es3, clk3, cl ++ [(⟨f.nm, p, .slice a f.bs.length cc, f.bs, f.syn, B'⟩ : Fl)], some (kp f), lf.filter fun x => decide (x.nm ≠ f.nm), o'⟩ (by simp only [List.length_cons] at hlen ⊢; omega)
      ⟨hI', fun x hx => hs x (List.mem_filter.1 hx).1, hM4, fun x hx => ?_, ?_⟩ (h6 := by simp only [fsH_app, fsH_cons, show fsH [] = [] from rfl, List.append_nil]; exact q_drp)
    · rcases List.mem_append.1 hx with hx | hx
      · exact ho x hx
      · obtain rfl := List.mem_singleton.1 hx
        exact ⟨hB, hff.y⟩
    · simp only
      rw [List.map_append, List.append_assoc]
      exact (hpm.append_left _).trans hp0
  · rename_i h0
    obtain rfl : lf = [] := by simpa using h0
    exact q_drop (hK c m2 es2 clk2 cl hM2 ho (by simpa using hp0))
end Go.Vl
