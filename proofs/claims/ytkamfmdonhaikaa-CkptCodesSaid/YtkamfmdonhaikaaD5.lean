/-
  The disk: Append.
-/
import Derived.Test.YtkamfmdonhaikaaD4
namespace Go.Vl
open Go.Proofs
attribute [local irreducible] wpC wpO wpD Ex Rd callsK RetP Drop valK
abbrev Ab := ByteArray × List UInt8 × Nat
def appd : List Ab → ByteArray → List UInt8 → List Ab
  | [], s, bs => [(s, bs, 0)]
  | a :: L, s, bs => if a.1 = s then (a.1, a.2.1 ++ bs, a.2.2) :: L else a :: appd L s bs
set_option maxHeartbeats 4000000 in
set_option maxRecDepth 100000 in
theorem appd_in : ∀ {L : List Ab} {L1 L2 : List Ab} {a : Ab} {bs : List UInt8}, (L.map Prod.fst).Nodup → L = L1 ++ a :: L2 → appd L a.1 bs = L1 ++ (a.1, a.2.1 ++ bs, a.2.2) :: L2
  | _, [], L2, a, bs, _, rfl => by show (if a.1 = a.1 then _ else _) = _; rw [if_pos rfl]; rfl
  | _, x :: L1, L2, a, bs, hn, rfl => by
    rw [List.cons_append, List.map_cons, List.nodup_cons] at hn
    have hne : x.1 ≠ a.1 := fun he => hn.1 (by rw [he]; simp)
    show (if x.1 = a.1 then _ else _) = _
    rw [if_neg hne]
    exact congrArg (x :: ·) (appd_in hn.2 rfl)
set_option maxHeartbeats 4000000 in
set_option maxRecDepth 100000 in
theorem appd_out {s : ByteArray} {bs : List UInt8} : ∀ {L : List Ab}, (∀ a ∈ L, a.1 ≠ s) → appd L s bs = L ++ [(s, bs, 0)]
  | [], _ => rfl
  | a :: L, h => by
    show (if a.1 = s then _ else _) = _
    rw [if_neg (h a (by simp)), appd_out fun x hx => h x (by simp [hx])]
    rfl
set_option maxHeartbeats 4000000 in
set_option maxRecDepth 100000 in
theorem changes_fin (e : World) {d m clk ptr syn : Nat} {es : Array MapEntry} {left room : Int} {k : Nat} {down : Bool} {l1 l2 : List Fl} {nm : ByteArray} {v : Value} {bs : List UInt8} {B F : Hp} {K : Value → Hp → Prop} (hM : MapF es clk (l1 ++ ⟨nm, ptr, v, bs, syn, B⟩ :: l2)) (hok : ∀ f ∈ l1 ++ (⟨nm, ptr, v, bs, syn, B⟩ : Fl) :: l2, f.ok) (hl0 : 0 ≤ left) (hl1 : left ≤ 9223372036854775807)
    (hK0 : left = 0 → K (.int .i64 0) ((dskO d m es clk left k room down ++ fsH (l1 ++ ⟨nm, ptr, v, bs, syn, B⟩ :: l2)) ++ F)) (hK2 : left ≠ 0 → left ≠ 1 → K (.int .i64 0) ((dskO d m es clk (left - 1) k room down ++ fsH (l1 ++ ⟨nm, ptr, v, bs, syn, B⟩ :: l2)) ++ F))
    (hK1 : left = 1 → ∀ l', MapF es clk l' → (∀ f ∈ l', f.ok) → l'.map Fl.ab = (l1 ++ ⟨nm, ptr, v, bs, syn, B⟩ :: l2).map (fun f => fell k f.ab) → K (.int .i64 7) ((dskO d m es clk 0 0 room true ++ fsH l') ++ F)) :
    callsK Try.prog e 47 #[pv d] ((dskO d m es clk left k room down ++ (fsH l1 ++ (((ptr, cellsO [v, .int .i64 (syn : Int)] 83) :: B) ++ fsH l2))) ++ F) K := by
  have h := changes_spec e hM hok hl0 hl1 hK0 hK2 hK1
  rw [fsH_app, fsH_cons] at h
  exact h
set_option maxHeartbeats 4000000 in
set_option maxRecDepth 100000 in
theorem changes_new (e : World) {d m clk ptr syn : Nat} {es : Array MapEntry} {left room : Int} {k : Nat} {down : Bool} {l1 : List Fl} {nm : ByteArray} {v : Value} {bs : List UInt8} {B F : Hp} {K : Value → Hp → Prop} (hM : MapF es clk (l1 ++ (⟨nm, ptr, v, bs, syn, B⟩ : Fl) :: [])) (hok : ∀ f ∈ l1 ++ (⟨nm, ptr, v, bs, syn, B⟩ : Fl) :: [], f.ok) (hl0 : 0 ≤ left) (hl1 : left ≤ 9223372036854775807)
    (hK0 : left = 0 → K (.int .i64 0) ((dskO d m es clk left k room down ++ fsH (l1 ++ (⟨nm, ptr, v, bs, syn, B⟩ : Fl) :: [])) ++ F)) (hK2 : left ≠ 0 → left ≠ 1 → K (.int .i64 0) ((dskO d m es clk (left - 1) k room down ++ fsH (l1 ++ (⟨nm, ptr, v, bs, syn, B⟩ : Fl) :: [])) ++ F))
    (hK1 : left = 1 → ∀ l', MapF es clk l' → (∀ f ∈ l', f.ok) → l'.map Fl.ab = (l1 ++ (⟨nm, ptr, v, bs, syn, B⟩ : Fl) :: []).map (fun f => fell k f.ab) → K (.int .i64 7) ((dskO d m es clk 0 0 room true ++ fsH l') ++ F)) :
    callsK Try.prog e 47 #[pv d] ((dskO d m es clk left k room down ++ (fsH l1 ++ ((ptr, cellsO [v, .int .i64 (syn : Int)] 83) :: B))) ++ F) K := by
  have h := changes_spec e hM hok hl0 hl1 hK0 hK2 hK1
  rw [fsH_app, fsH_cons, show fsH [] = [] from rfl, List.append_nil] at h
  exact h
set_option maxHeartbeats 4000000 in
set_option maxRecDepth 100000 in
theorem append_spec (e : World) {s : ByteArray} {bs : List UInt8} {v : Value} {Fn : Hp} {d m clk : Nat} {es : Array MapEntry} {left room : Int} {k : Nat} {down : Bool} {l : List Fl} {F : Hp} {K : Value → Hp → Prop} (hM : MapF es clk l) (hok : ∀ f ∈ l, f.ok) (hl0 : 0 ≤ left) (hl1 : left ≤ 9223372036854775807) (hS : InSl Fn 1 (bs.map byC) v) (hb : bs.length ≤ 9223372036854775807) (ht : (tot l : Int) ≤ room) (hr0 : 0 ≤ room) (hr : room ≤ 9223372036854775807) (htb : (bs.length : Int) + tot l ≤ room → bs.length + tot l ≤ 140737488355328) (hll : l.length ≤ 1024)
    (h7 : down = true → K (.int .i64 7) (((dskO d m es clk left k room down ++ fsH l) ++ Fn) ++ F)) (h20 : down = false → ¬ okN s → K (.int .i64 20) (((dskO d m es clk left k room down ++ fsH l) ++ Fn) ++ F)) (h3 : down = false → okN s → (∀ f ∈ l, f.nm ≠ s) → 1024 ≤ l.length → K (.int .i64 3) (((dskO d m es clk left k room down ++ fsH l) ++ Fn) ++ F))
    (h6 : down = false → okN s → (∃ f ∈ l, f.nm = s) ∨ l.length < 1024 → room < (bs.length : Int) + tot l → K (.int .i64 6) (((dskO d m es clk left k room down ++ fsH l) ++ Fn) ++ F))
    (h0 : ∀ l' es' clk' left', down = false → okN s → (bs.length : Int) + tot l ≤ room → (∃ f ∈ l, f.nm = s) ∨ l.length < 1024 → MapF es' clk' l' → (∀ f ∈ l', f.ok) → l'.map Fl.ab = appd (l.map Fl.ab) s bs → Bn left left' → K (.int .i64 0) (((dskO d m es' clk' left' k room down ++ fsH l') ++ Fn) ++ F))
    (hcr : ∀ l' es' clk', down = false → okN s → (bs.length : Int) + tot l ≤ room → (∃ f ∈ l, f.nm = s) ∨ l.length < 1024 → MapF es' clk' l' → (∀ f ∈ l', f.ok) → l'.map Fl.ab = (appd (l.map Fl.ab) s bs).map (fell k) → left = 1 → K (.int .i64 7) (((dskO d m es' clk' 0 0 room true ++ fsH l') ++ Fn) ++ F)) :
    callsK Try.prog e 15 #[pv d, .string s, v] (((dskO d m es clk left k room down ++ fsH l) ++ Fn) ++ F) K := by
  have hlm : (l.map kp).length = l.length := List.length_map _
  have htl : tot l ≤ 9223372036854775807 := by omega
  refine calls_body (N := 66) (args := [pv d, .string s, v]) Try.func15 rfl rfl rfl (by simp) ?_
  have hnil := SlO.nil 5 1
  have hnd : (l.map fun f => f.nm).Nodup := by have := hM.keys; rwa [names_kp] at this
  have hfst : (l.map Fl.ab).map Prod.fst = l.map fun f => f.nm := by simp [Function.comp_def]
  repeat' ((fail_if_success (show wpO _ _ _ (⟨_, .call ⟨.value (.func 47), _, _⟩, _, _, _, _⟩ :: _) _ _ _)); first | (show wpO _ _ _ _ _ _ _; first | refine wpO_nil ?_ | (show wpO _ _ _ (⟨_, .binOp _ _ _ _ _, _, _, _, _⟩ :: _) _ _ _; first | refine s_tt ?_ | refine s_ff ?_ | refine s_rdp ?_ | (refine s_cmp (fun _ => ?_) (fun _ => ?_) <;> (first | (exfalso; omega) | contradiction | skip)) | (refine s_cb (fun _ => ?_) (fun _ => ?_) <;> (first | (exfalso; omega) | contradiction | skip)) | refine s_sks ?_ | (refine s_g (fun _ => ?_) (fun _ => ?_) <;> (first | (exfalso; omega) | contradiction | skip))) | (show wpO _ _ _ (⟨_, .lookup _ _ _ _, _, _, _, _⟩ :: _) _ _ _; first | refine s_rdm ?_ | refine s_look (fun _ _ => ?_) (fun _ => ?_) | refine s_sks ?_ | (refine s_g (fun _ => ?_) (fun _ => ?_) <;> (first | (exfalso; omega) | contradiction | skip))) | (show wpO _ _ _ (⟨_, .pick _ _ _, _, _, _, _⟩ :: _) _ _ _; first | refine s_rdp ?_ | (refine s_p (fun _ => ?_) (fun _ => ?_) <;> (first | (exfalso; omega) | contradiction | skip)) | refine s_sks ?_ | (refine s_g (fun _ => ?_) (fun _ => ?_) <;> (first | (exfalso; omega) | contradiction | skip))) | refine s_rdp ?_ | refine s_rdm ?_ | refine s_exq ?_ | refine s_exm ?_ | refine s_sks ?_ | refine s_skn ?_ | (refine s_g (fun _ => ?_) (fun _ => ?_) <;> (first | (exfalso; omega) | contradiction | skip))) | (show Ex _ _ _ _ _; first | (show Ex _ ⟨_, .call ⟨.value (.func _), _, _⟩, _, _, _, _⟩ _ _ _; refine e_call ?_; first | (apply p_pcs; apply wrong1; (try case hS => assumption); (case hpcs => (repeat (first | exact Pcs.blk (by infer_instance) | exact Pcs.nil | (apply Pcs.cons; infer_instance) | apply Pcs.app)))) | (apply p_pcs; apply used_spec _ hM hok htl; (try case hS => assumption); (case hpcs => (repeat (first | exact Pcs.blk (by infer_instance) | exact Pcs.nil | (apply Pcs.cons; infer_instance) | apply Pcs.app))))) | (show Ex _ ⟨_, .box _ _, _, _, _, _⟩ _ _ _; first | (refine e_boxA ?_; intro _) | (refine e_box1 ?_; intro _)) | (show Ex _ ⟨_, .store _ _ _, _, _, _, _⟩ _ _ _; first | refine e_store1 ?_ | refine e_storeA ?_ | (refine e_storeO ?_; intro _ _)) | (show Ex _ ⟨_, .mapUpdate _ _ _ _, _, _, _, _⟩ _ _ _; refine e_mapUpdate ?_; intro _ _ _) | (show Ex _ ⟨_, .buildSlice _ _ _, _, _, _, _⟩ _ _ _; first | (refine e_buildSlice ?_; intro _) | (refine e_buildNil ?_; intro _ _ _)) | (show Ex _ ⟨_, .call ⟨.builtin .append, _, _⟩, _, _, _, _⟩ _ _ _; (first | refine e_append ?_ | refine e_appendIn ?_); intro _ _ _)) | (show wpC _ _ _ _ _ _; first | refine wpC_seq ?_ | refine wpC_region ?_ | refine c_true ?_ | refine c_false ?_ | (refine c_b (fun _ => ?_) (fun _ => ?_) <;> (first | (exfalso; omega) | contradiction | skip)) | refine wpC_ret ?_ | refine wpC_skip ?_ | refine wpC_label ?_ | (apply wpC_drawX (id := 7) ([]) [0, 1, 2, 3, 4, 5, 6, 7, 8, 9, 10, 11, 12] rfl (by kernel_rfl); (case hpk => (repeat (first | exact Pcs.blk (by infer_instance) | exact Pcs.nil | (apply Pcs.cons; infer_instance) | apply Pcs.app))))) | (show Then _ _ _ _ _ _ _; first | refine then_normal ?_ | refine then_ret ?_) | (show wpD _ _ _ _ _ _ _ _; first | refine wpD_nil ?_ | refine d_rdp ?_ | refine d_rdm ?_ | refine d_sks ?_ | refine d_tt ?_ | refine d_ff ?_ | (refine d_cmp (fun _ => ?_) (fun _ => ?_) <;> (first | (exfalso; omega) | contradiction | skip)) | (refine d_cb (fun _ => ?_) (fun _ => ?_) <;> (first | (exfalso; omega) | contradiction | skip)) | refine d_look (fun _ _ => ?_) (fun _ => ?_) | refine d_exs ?_ | refine d_exn ?_ | (refine d_p (fun _ => ?_) (fun _ => ?_) <;> (first | (exfalso; omega) | contradiction | skip)) | (refine d_g (fun _ => ?_) (fun _ => ?_) <;> (first | (exfalso; omega) | contradiction | skip))) | (show (_ ∨ Subs _ _) ∧ _; first | refine d_sub ?_ | refine d_cov ?_) | (show RetP _ _ _ _ _ _ _ _; first | refine r_1 ?_) | assumption | intro _)
  · exact q_drop (h7 ‹_›)
  · exact q_drop (h20 ‹_› ‹_›)
  · rename_i n hn hlt
    obtain ⟨f, hf, he⟩ := List.mem_map.1 (aget_some_mem hn)
    exact q_drop (h6 ‹_› ‹_› (.inl ⟨f, hf, congrArg Prod.fst he⟩) (by omega))
  · rename_i hd hnm n hn hlt
    obtain ⟨f, l1, l2, rfl, rfl, rfl⟩ := split_fl hn
    have hff := hok f (by simp)
    have hfs := hff.s
    have hle := tot_le (f := f) (l := l1 ++ f :: l2) (by simp)
    have hsum := htb (by omega)
    rw [fsH_app, fsH_cons]
    repeat' ((fail_if_success (show wpO _ _ _ (⟨_, .call ⟨.value (.func 47), _, _⟩, _, _, _, _⟩ :: _) _ _ _)); first | (show wpO _ _ _ _ _ _ _; first | refine wpO_nil ?_ | (show wpO _ _ _ (⟨_, .binOp _ _ _ _ _, _, _, _, _⟩ :: _) _ _ _; first | refine s_tt ?_ | refine s_ff ?_ | refine s_rdp ?_ | (refine s_cmp (fun _ => ?_) (fun _ => ?_) <;> (first | (exfalso; omega) | contradiction | skip)) | (refine s_cb (fun _ => ?_) (fun _ => ?_) <;> (first | (exfalso; omega) | contradiction | skip)) | refine s_sks ?_ | (refine s_g (fun _ => ?_) (fun _ => ?_) <;> (first | (exfalso; omega) | contradiction | skip))) | (show wpO _ _ _ (⟨_, .lookup _ _ _ _, _, _, _, _⟩ :: _) _ _ _; first | refine s_rdm ?_ | refine s_look (fun _ _ => ?_) (fun _ => ?_) | refine s_sks ?_ | (refine s_g (fun _ => ?_) (fun _ => ?_) <;> (first | (exfalso; omega) | contradiction | skip))) | (show wpO _ _ _ (⟨_, .pick _ _ _, _, _, _, _⟩ :: _) _ _ _; first | refine s_rdp ?_ | (refine s_p (fun _ => ?_) (fun _ => ?_) <;> (first | (exfalso; omega) | contradiction | skip)) | refine s_sks ?_ | (refine s_g (fun _ => ?_) (fun _ => ?_) <;> (first | (exfalso; omega) | contradiction | skip))) | refine s_rdp ?_ | refine s_rdm ?_ | refine s_exq ?_ | refine s_exm ?_ | refine s_sks ?_ | refine s_skn ?_ | (refine s_g (fun _ => ?_) (fun _ => ?_) <;> (first | (exfalso; omega) | contradiction | skip))) | (show Ex _ _ _ _ _; first | (show Ex _ ⟨_, .box _ _, _, _, _, _⟩ _ _ _; first | (refine e_boxA ?_; intro _) | (refine e_box1 ?_; intro _)) | (show Ex _ ⟨_, .store _ _ _, _, _, _, _⟩ _ _ _; first | refine e_store1 ?_ | refine e_storeA ?_ | (refine e_storeO ?_; intro _ _)) | (show Ex _ ⟨_, .mapUpdate _ _ _ _, _, _, _, _⟩ _ _ _; refine e_mapUpdate ?_; intro _ _ _) | (show Ex _ ⟨_, .buildSlice _ _ _, _, _, _, _⟩ _ _ _; first | (refine e_buildSlice ?_; intro _) | (refine e_buildNil ?_; intro _ _ _)) | (show Ex _ ⟨_, .call ⟨.builtin .append, _, _⟩, _, _, _, _⟩ _ _ _; (first | refine e_append ?_ | refine e_appendIn ?_); intro _ _ _)) | (show wpC _ _ _ _ _ _; first | refine wpC_seq ?_ | refine wpC_region ?_ | refine c_true ?_ | refine c_false ?_ | (refine c_b (fun _ => ?_) (fun _ => ?_) <;> (first | (exfalso; omega) | contradiction | skip)) | refine wpC_ret ?_ | refine wpC_skip ?_ | refine wpC_label ?_ | (apply wpC_drawX (id := 7) ([]) [0, 1, 2, 3, 4, 5, 6, 7, 8, 9, 10, 11, 12] rfl (by kernel_rfl); (case hpk => (repeat (first | exact Pcs.blk (by infer_instance) | exact Pcs.nil | (apply Pcs.cons; infer_instance) | apply Pcs.app))))) | (show Then _ _ _ _ _ _ _; first | refine then_normal ?_ | refine then_ret ?_) | (show wpD _ _ _ _ _ _ _ _; first | refine wpD_nil ?_ | refine d_rdp ?_ | refine d_rdm ?_ | refine d_sks ?_ | refine d_tt ?_ | refine d_ff ?_ | (refine d_cmp (fun _ => ?_) (fun _ => ?_) <;> (first | (exfalso; omega) | contradiction | skip)) | (refine d_cb (fun _ => ?_) (fun _ => ?_) <;> (first | (exfalso; omega) | contradiction | skip)) | refine d_look (fun _ _ => ?_) (fun _ => ?_) | refine d_exs ?_ | refine d_exn ?_ | (refine d_p (fun _ => ?_) (fun _ => ?_) <;> (first | (exfalso; omega) | contradiction | skip)) | (refine d_g (fun _ => ?_) (fun _ => ?_) <;> (first | (exfalso; omega) | contradiction | skip))) | (show (_ ∨ Subs _ _) ∧ _; first | refine d_sub ?_ | refine d_cov ?_) | (show RetP _ _ _ _ _ _ _ _; first | refine r_1 ?_))
    rename_i v' B' hS'
    have hS2 : BytO v' (f.bs ++ bs) B' := by
      show SlO 5 1 v' (f.bs ++ bs).length ((f.bs ++ bs).map byC).flatten B'
      rw [List.length_append, List.map_append, List.flatten_append]
      exact hS'
    have hM2 : MapF es clk (l1 ++ ⟨f.nm, f.ptr, v', f.bs ++ bs, f.syn, B'⟩ :: l2) := by simpa [MapF] using hM
    have hok2 : ∀ g ∈ l1 ++ (⟨f.nm, f.ptr, v', f.bs ++ bs, f.syn, B'⟩ : Fl) :: l2, g.ok := by
      intro g hg
      rcases List.mem_append.1 hg with hg | hg
      · exact hok g (List.mem_append_left _ hg)
      · rcases List.mem_cons.1 hg with rfl | hg
        · exact ⟨hS2, by have := hff.y; simp only [List.length_append]; omega⟩
        · exact hok g (List.mem_append_right _ (List.mem_cons_of_mem _ hg))
    have hab : (l1 ++ (⟨f.nm, f.ptr, v', f.bs ++ bs, f.syn, B'⟩ : Fl) :: l2).map Fl.ab = appd ((l1 ++ f :: l2).map Fl.ab) f.nm bs := by
      rw [appd_in (L1 := l1.map Fl.ab) (L2 := l2.map Fl.ab) (a := f.ab) (by rw [hfst]; exact hnd) (by simp)]
      simp
    repeat' (first | (show wpO _ _ _ _ _ _ _; first | refine wpO_nil ?_ | (show wpO _ _ _ (⟨_, .binOp _ _ _ _ _, _, _, _, _⟩ :: _) _ _ _; first | refine s_tt ?_ | refine s_ff ?_ | refine s_rdp ?_ | (refine s_cmp (fun _ => ?_) (fun _ => ?_) <;> (first | (exfalso; omega) | contradiction | skip)) | (refine s_cb (fun _ => ?_) (fun _ => ?_) <;> (first | (exfalso; omega) | contradiction | skip)) | refine s_sks ?_ | (refine s_g (fun _ => ?_) (fun _ => ?_) <;> (first | (exfalso; omega) | contradiction | skip))) | (show wpO _ _ _ (⟨_, .lookup _ _ _ _, _, _, _, _⟩ :: _) _ _ _; first | refine s_rdm ?_ | refine s_look (fun _ _ => ?_) (fun _ => ?_) | refine s_sks ?_ | (refine s_g (fun _ => ?_) (fun _ => ?_) <;> (first | (exfalso; omega) | contradiction | skip))) | (show wpO _ _ _ (⟨_, .pick _ _ _, _, _, _, _⟩ :: _) _ _ _; first | refine s_rdp ?_ | (refine s_p (fun _ => ?_) (fun _ => ?_) <;> (first | (exfalso; omega) | contradiction | skip)) | refine s_sks ?_ | (refine s_g (fun _ => ?_) (fun _ => ?_) <;> (first | (exfalso; omega) | contradiction | skip))) | refine s_rdp ?_ | refine s_rdm ?_ | refine s_exq ?_ | refine s_exm ?_ | refine s_sks ?_ | refine s_skn ?_ | (refine s_g (fun _ => ?_) (fun _ => ?_) <;> (first | (exfalso; omega) | contradiction | skip))) | (show Ex _ _ _ _ _; first | (show Ex _ ⟨_, .call ⟨.value (.func _), _, _⟩, _, _, _, _⟩ _ _ _; refine e_call ?_; first | (apply p_pcs; apply changes_fin _ hM2 hok2 hl0 hl1; (try case hS => assumption); (case hpcs => (repeat (first | exact Pcs.blk (by infer_instance) | exact Pcs.nil | (apply Pcs.cons; infer_instance) | apply Pcs.app))))) | (show Ex _ ⟨_, .box _ _, _, _, _, _⟩ _ _ _; first | (refine e_boxA ?_; intro _) | (refine e_box1 ?_; intro _)) | (show Ex _ ⟨_, .store _ _ _, _, _, _, _⟩ _ _ _; first | refine e_store1 ?_ | refine e_storeA ?_ | (refine e_storeO ?_; intro _ _)) | (show Ex _ ⟨_, .mapUpdate _ _ _ _, _, _, _, _⟩ _ _ _; refine e_mapUpdate ?_; intro _ _ _) | (show Ex _ ⟨_, .buildSlice _ _ _, _, _, _, _⟩ _ _ _; first | (refine e_buildSlice ?_; intro _) | (refine e_buildNil ?_; intro _ _ _)) | (show Ex _ ⟨_, .call ⟨.builtin .append, _, _⟩, _, _, _, _⟩ _ _ _; (first | refine e_append ?_ | refine e_appendIn ?_); intro _ _ _)) | (show wpC _ _ _ _ _ _; first | refine wpC_seq ?_ | refine wpC_region ?_ | refine c_true ?_ | refine c_false ?_ | (refine c_b (fun _ => ?_) (fun _ => ?_) <;> (first | (exfalso; omega) | contradiction | skip)) | refine wpC_ret ?_ | refine wpC_skip ?_ | refine wpC_label ?_ | (apply wpC_drawX (id := 7) ([]) [0, 1, 2, 3, 4, 5, 6, 7, 8, 9, 10, 11, 12] rfl (by kernel_rfl); (case hpk => (repeat (first | exact Pcs.blk (by infer_instance) | exact Pcs.nil | (apply Pcs.cons; infer_instance) | apply Pcs.app))))) | (show Then _ _ _ _ _ _ _; first | refine then_normal ?_ | refine then_ret ?_) | (show wpD _ _ _ _ _ _ _ _; first | refine wpD_nil ?_ | refine d_rdp ?_ | refine d_rdm ?_ | refine d_sks ?_ | refine d_tt ?_ | refine d_ff ?_ | (refine d_cmp (fun _ => ?_) (fun _ => ?_) <;> (first | (exfalso; omega) | contradiction | skip)) | (refine d_cb (fun _ => ?_) (fun _ => ?_) <;> (first | (exfalso; omega) | contradiction | skip)) | refine d_look (fun _ _ => ?_) (fun _ => ?_) | refine d_exs ?_ | refine d_exn ?_ | (refine d_p (fun _ => ?_) (fun _ => ?_) <;> (first | (exfalso; omega) | contradiction | skip)) | (refine d_g (fun _ => ?_) (fun _ => ?_) <;> (first | (exfalso; omega) | contradiction | skip))) | (show (_ ∨ Subs _ _) ∧ _; first | refine d_sub ?_ | refine d_cov ?_) | (show RetP _ _ _ _ _ _ _ _; first | refine r_1 ?_) | assumption | intro _)
    · exact q_drop (h0 _ _ _ _ hd hnm (by omega) (.inl ⟨f, by simp, rfl⟩) hM2 hok2 hab (.inl ⟨‹_›, rfl⟩))
    · exact q_drop (h0 _ _ _ _ hd hnm (by omega) (.inl ⟨f, by simp, rfl⟩) hM2 hok2 hab (.inr ⟨‹_›, ‹_›, rfl⟩))
    · rename_i h1 l' hM' hok' hab'
      refine q_drop (hcr l' _ _ hd hnm (by omega) (.inl ⟨f, by simp, rfl⟩) hM' hok' ?_ h1)
      rw [hab', ← hab, List.map_map]
      rfl
  · rename_i hn hlt
    exact q_drop (h3 ‹_› ‹_› (fun f hf he => aget_none.1 hn (kp f) (List.mem_map.2 ⟨f, hf, rfl⟩) he) (by rw [hlm] at hlt; omega))
  · rename_i hd hnm hn hlt hlt2
    exact q_drop (h6 ‹_› ‹_› (.inr (by rw [hlm] at hlt; omega)) (by omega))
  · rename_i hd hnm hn h1024 hlt p es2 clk2 hM2 v' B' hS'
    have hS2 : BytO v' bs B' := by
      rw [Nat.zero_add, List.nil_append] at hS'
      exact hS'
    have hno : ∀ f ∈ l, f.nm ≠ s := fun f hf he => aget_none.1 hn (kp f) (List.mem_map.2 ⟨f, hf, rfl⟩) he
    rw [aput_new hn] at hM2
    have hM3 : MapF es2 clk2 (l ++ ⟨s, p, v', bs, 0, B'⟩ :: []) := by simpa [MapF] using hM2
    have hok2 : ∀ g ∈ l ++ (⟨s, p, v', bs, 0, B'⟩ : Fl) :: [], g.ok := by
      intro g hg
      rcases List.mem_append.1 hg with hg | hg
      · exact hok g hg
      · obtain rfl := List.mem_singleton.1 hg
        exact ⟨hS2, Nat.zero_le _⟩
    have hab : (l ++ (⟨s, p, v', bs, 0, B'⟩ : Fl) :: []).map Fl.ab = appd (l.map Fl.ab) s bs := by
      rw [appd_out (fun a ha => by obtain ⟨f, hf, rfl⟩ := List.mem_map.1 ha; exact hno f hf)]
      simp
    repeat' (first | (show wpO _ _ _ _ _ _ _; first | refine wpO_nil ?_ | (show wpO _ _ _ (⟨_, .binOp _ _ _ _ _, _, _, _, _⟩ :: _) _ _ _; first | refine s_tt ?_ | refine s_ff ?_ | refine s_rdp ?_ | (refine s_cmp (fun _ => ?_) (fun _ => ?_) <;> (first | (exfalso; omega) | contradiction | skip)) | (refine s_cb (fun _ => ?_) (fun _ => ?_) <;> (first | (exfalso; omega) | contradiction | skip)) | refine s_sks ?_ | (refine s_g (fun _ => ?_) (fun _ => ?_) <;> (first | (exfalso; omega) | contradiction | skip))) | (show wpO _ _ _ (⟨_, .lookup _ _ _ _, _, _, _, _⟩ :: _) _ _ _; first | refine s_rdm ?_ | refine s_look (fun _ _ => ?_) (fun _ => ?_) | refine s_sks ?_ | (refine s_g (fun _ => ?_) (fun _ => ?_) <;> (first | (exfalso; omega) | contradiction | skip))) | (show wpO _ _ _ (⟨_, .pick _ _ _, _, _, _, _⟩ :: _) _ _ _; first | refine s_rdp ?_ | (refine s_p (fun _ => ?_) (fun _ => ?_) <;> (first | (exfalso; omega) | contradiction | skip)) | refine s_sks ?_ | (refine s_g (fun _ => ?_) (fun _ => ?_) <;> (first | (exfalso; omega) | contradiction | skip))) | refine s_rdp ?_ | refine s_rdm ?_ | refine s_exq ?_ | refine s_exm ?_ | refine s_sks ?_ | refine s_skn ?_ | (refine s_g (fun _ => ?_) (fun _ => ?_) <;> (first | (exfalso; omega) | contradiction | skip))) | (show Ex _ _ _ _ _; first | (show Ex _ ⟨_, .call ⟨.value (.func _), _, _⟩, _, _, _, _⟩ _ _ _; refine e_call ?_; first | (apply p_pcs; apply changes_new _ hM3 hok2 hl0 hl1; (try case hS => assumption); (case hpcs => (repeat (first | exact Pcs.blk (by infer_instance) | exact Pcs.nil | (apply Pcs.cons; infer_instance) | apply Pcs.app))))) | (show Ex _ ⟨_, .box _ _, _, _, _, _⟩ _ _ _; first | (refine e_boxA ?_; intro _) | (refine e_box1 ?_; intro _)) | (show Ex _ ⟨_, .store _ _ _, _, _, _, _⟩ _ _ _; first | refine e_store1 ?_ | refine e_storeA ?_ | (refine e_storeO ?_; intro _ _)) | (show Ex _ ⟨_, .mapUpdate _ _ _ _, _, _, _, _⟩ _ _ _; refine e_mapUpdate ?_; intro _ _ _) | (show Ex _ ⟨_, .buildSlice _ _ _, _, _, _, _⟩ _ _ _; first | (refine e_buildSlice ?_; intro _) | (refine e_buildNil ?_; intro _ _ _)) | (show Ex _ ⟨_, .call ⟨.builtin .append, _, _⟩, _, _, _, _⟩ _ _ _; (first | refine e_append ?_ | refine e_appendIn ?_); intro _ _ _)) | (show wpC _ _ _ _ _ _; first | refine wpC_seq ?_ | refine wpC_region ?_ | refine c_true ?_ | refine c_false ?_ | (refine c_b (fun _ => ?_) (fun _ => ?_) <;> (first | (exfalso; omega) | contradiction | skip)) | refine wpC_ret ?_ | refine wpC_skip ?_ | refine wpC_label ?_ | (apply wpC_drawX (id := 7) ([]) [0, 1, 2, 3, 4, 5, 6, 7, 8, 9, 10, 11, 12] rfl (by kernel_rfl); (case hpk => (repeat (first | exact Pcs.blk (by infer_instance) | exact Pcs.nil | (apply Pcs.cons; infer_instance) | apply Pcs.app))))) | (show Then _ _ _ _ _ _ _; first | refine then_normal ?_ | refine then_ret ?_) | (show wpD _ _ _ _ _ _ _ _; first | refine wpD_nil ?_ | refine d_rdp ?_ | refine d_rdm ?_ | refine d_sks ?_ | refine d_tt ?_ | refine d_ff ?_ | (refine d_cmp (fun _ => ?_) (fun _ => ?_) <;> (first | (exfalso; omega) | contradiction | skip)) | (refine d_cb (fun _ => ?_) (fun _ => ?_) <;> (first | (exfalso; omega) | contradiction | skip)) | refine d_look (fun _ _ => ?_) (fun _ => ?_) | refine d_exs ?_ | refine d_exn ?_ | (refine d_p (fun _ => ?_) (fun _ => ?_) <;> (first | (exfalso; omega) | contradiction | skip)) | (refine d_g (fun _ => ?_) (fun _ => ?_) <;> (first | (exfalso; omega) | contradiction | skip))) | (show (_ ∨ Subs _ _) ∧ _; first | refine d_sub ?_ | refine d_cov ?_) | (show RetP _ _ _ _ _ _ _ _; first | refine r_1 ?_) | assumption | intro _)
    · exact q_drop (h0 _ _ _ _ hd hnm (by omega) (.inr (by rw [hlm] at h1024; omega)) hM3 hok2 hab (.inl ⟨‹_›, rfl⟩))
    · exact q_drop (h0 _ _ _ _ hd hnm (by omega) (.inr (by rw [hlm] at h1024; omega)) hM3 hok2 hab (.inr ⟨‹_›, ‹_›, rfl⟩))
    · rename_i h1 l' hM' hok' hab'
      refine q_drop (hcr l' _ _ hd hnm (by omega) (.inr (by rw [hlm] at h1024; omega)) hM' hok' ?_ h1)
      rw [hab', ← hab, List.map_map]
      rfl
end Go.Vl
