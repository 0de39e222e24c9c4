/-
  THE SMALL LOGIC's RULE FOR A REGION THAT DRAWS ITS ORDER: operations that only read blocks which every other operation keeps are done first; of the others just one is ready at a time. Nothing of the seat's program is named here.
-/
import Derived.Test.YtpegidbkplgplaaVb
namespace Go.Vl
open Go.RowKit

/-- does it only read? -/
def isRd : Op → Bool
  | .move _ | .assign _ | .pick .. | .load .. | .nilCheck _ | .binOp .. | .unOp .. | .fieldAddr .. | .field .. | .indexAddr .. | .index .. | .lookup .. | .extract .. | .makeFunc .. | .build .. | .slice .. | .makeInterface .. => true
  | .convert .. | .entry _ => true
  | .call { callee := .builtin .len, .. } => true
  | .call { callee := .builtin .cap, .. } => true
  | .call { callee := .builtin .min, .. } => true
  | .call { callee := .builtin .max, .. } => true
  | _ => false

/-- what a reader answers, its guard taken in -/
def Rv (C : Cx) (ops : Array Oper) (o : Oper) (ρ : Fr) (Hs : Hp) (v : Value) : Prop :=
  (wantV C.N ops ρ o = true ∧ Rd C.P C.e ρ Hs o v) ∨ (wantV C.N ops ρ o = false ∧ v = undef)

/-- one operation, its guard taken in -/
def opV (C : Cx) (ops : Array Oper) (o : Oper) (K : Fr → Hp → Prop) (ρ : Fr) (H : Hp) : Prop :=
  dstOK C.N o.dst = true ∧ ((wantV C.N ops ρ o = true ∧ Ex C o (fun v H' => K (updO ρ o.dst v) H') ρ H) ∨ (wantV C.N ops ρ o = false ∧ K (updO ρ o.dst undef) H))

/-- does it read blocks? -/
def memRd : Op → Bool
  | .load .. | .lookup .. | .convert .. | .entry _ => true
  | .call { callee := .builtin .len, .. } => true
  | .call { callee := .builtin .cap, .. } => true
  | _ => false
def Hn (o : Oper) (Hs : Hp) : Hp := bif memRd o.op then Hs else []
theorem memRd_isRd {o : Op} (h : memRd o = true) : isRd o = true := by
  unfold memRd at h
  split at h <;> first | rfl | cases h
/-- an operation that turns blocks, behind all that read them -/
def covers (ops : Array Oper) (j : Nat) : Bool :=
  match ops[j]? with
  | some oj => !isRd oj.op && (List.range ops.size).all fun i => match ops[i]? with
      | some oi => !memRd oi.op || oj.after.any fun e => Region.binds .any e && Nat.beq e.on i
      | none => true
  | none => false
theorem covers_spec {ops : Array Oper} {j : Nat} (h : covers ops j = true) : ∃ oj, ops[j]? = some oj ∧ isRd oj.op = false ∧ ∀ i oi, ops[i]? = some oi → memRd oi.op = true → ∃ e ∈ oj.after, Region.binds .any e = true ∧ e.on = i := by
  unfold covers at h
  cases ho : ops[j]? with
  | none => rw [ho] at h; cases h
  | some oj =>
    rw [ho] at h
    simp only [Bool.and_eq_true, Bool.not_eq_true'] at h
    refine ⟨oj, rfl, h.1, fun i oi hi hm => ?_⟩
    have h2 := List.all_eq_true.1 h.2 i (List.mem_range.2 (Array.getElem?_eq_some_iff.1 hi).1)
    rw [hi] at h2
    simp only [hm, Bool.not_true, Bool.false_or, Array.any_eq_true'] at h2
    obtain ⟨e, he, h3⟩ := h2
    rw [Bool.and_eq_true] at h3
    exact ⟨e, he, h3.1, Nat.eq_of_beq_eq_true h3.2⟩
def Good (ops : Array Oper) (Hs : Hp) (listed : Array Bool) (H : Hp) : Prop := (∃ j, listed.getD j false = true ∧ covers ops j = true) ∨ ∀ x ∈ Hs, x ∈ H
def Closed (ops : Array Oper) (listed : Array Bool) : Prop := ∀ j oj, ops[j]? = some oj → listed.getD j false = true → ∀ e ∈ oj.after, Region.binds .any e = true → listed.getD e.on false = true
theorem closed_set {ops : Array Oper} {listed : Array Bool} {i : Nat} (h : Closed ops listed) (hi : i ∈ Region.ready .any ops listed) : Closed ops (listed.setIfInBounds i true) := by
  intro j oj hj hl e he hb
  apply getD_set_true
  by_cases hji : j = i
  · subst hji
    obtain ⟨_, o, ho, hall⟩ := mem_ready.1 hi
    rw [hj] at ho; cases ho
    exact hall e he hb
  · rw [getD_set_ne false (Ne.symm hji)] at hl
    exact h j oj hj hl e he hb
theorem good_mono {ops : Array Oper} {Hs : Hp} {listed : Array Bool} {H : Hp} (i : Nat) (h : Good ops Hs listed H) : Good ops Hs (listed.setIfInBounds i true) H :=
  h.imp (fun ⟨j, h1, h2⟩ => ⟨j, getD_set_true h1, h2⟩) id
theorem good_need {ops : Array Oper} {Hs : Hp} {listed : Array Bool} {H : Hp} {i : Nat} {oi : Oper} (h : Good ops Hs listed H) (hc : Closed ops listed) (hi : i ∈ Region.ready .any ops listed) (ho : ops[i]? = some oi) : ∀ x ∈ Hn oi Hs, x ∈ H := by
  unfold Hn
  cases hm : memRd oi.op with
  | false => simp
  | true =>
    simp only [cond_true]
    rcases h with ⟨j, hj, hcov⟩ | h
    · obtain ⟨oj, hoj, _, hall⟩ := covers_spec hcov
      obtain ⟨e, he, hb, rfl⟩ := hall i oi ho hm
      have h1 := hc j oj hoj hj e he hb
      have h0 := (mem_ready.1 hi).1
      cases hg : listed[e.on]? with
      | none => simp [hg] at h1
      | some x => simp [hg] at h0 h1; rw [h0] at h1; cases h1
    · exact h
theorem hn_nodup {o : Oper} {Hs : Hp} (h : (Hs.map Prod.fst).Nodup) : ((Hn o Hs).map Prod.fst).Nodup := by
  unfold Hn
  cases memRd o.op
  · simp
  · exact h

def anyV (C : Cx) (ops : Array Oper) (Hs : Hp) (Q : Post) : Nat → Array Bool → Fr → List Nat → Hp → Prop
  | 0, listed, ρ, ds, H => Good ops Hs listed H ∧ Region.ready .any ops listed = [] ∧ Q .normal ρ ds H
  | fuel + 1, listed, ρ, ds, H => Good ops Hs listed H ∧ (Region.ready .any ops listed = [] → Q .normal ρ ds H) ∧
      ∀ i ∈ Region.ready .any ops listed, ∀ o, ops[i]? = some o → opV C ops o (fun ρ' H' => anyV C ops Hs Q fuel (listed.setIfInBounds i true) ρ' ds H') ρ H

theorem anyV_sub {C : Cx} {ops : Array Oper} {Hs : Hp} {Q : Post} {fuel : Nat} {listed : Array Bool} {ρ : Fr} {ds : List Nat} {H : Hp} (h : anyV C ops Hs Q fuel listed ρ ds H) : Good ops Hs listed H := by
  cases fuel <;> exact h.1

theorem anyV_sound {C : Cx} {ops : Array Oper} {Hs : Hp} {Q : Post} {ds : List Nat} : ∀ (fuel : Nat) (listed : Array Bool) (ρ : Fr) (H : Hp), anyV C ops Hs Q fuel listed ρ ds H →
    ∀ a w, Rel C.N a ρ ds → Kn C.e w H → wpAnyIn (fence C.r) 0 C.P .any ops (lift C Q) fuel listed a w := by
  intro fuel
  induction fuel with
  | zero => exact fun listed ρ H h a w ha hw => ⟨h.2.1, ρ, ds, H, ha, hw, h.2.2⟩
  | succ fuel ih =>
    intro listed ρ H h a w ha hw
    refine ⟨fun h0 => ⟨ρ, ds, H, ha, hw, h.2.1 h0⟩, fun i hi => ?_⟩
    obtain ⟨_, o, ho, _⟩ := mem_ready.1 hi
    obtain ⟨hd, h1⟩ := h.2.2 i hi o ho
    unfold wpOpIn
    simp only [ho]
    rw [ha.yielded]
    rcases h1 with ⟨hw', hx⟩ | ⟨hw', hx⟩
    · rw [if_pos (show Region.wanted o (gval C.N ops ρ) = true from hw')]
      exact hx.wpIn ha hw fun v H' w' k1 k2 => ih _ _ _ k2 _ _ (ha.put hd v) k1
    · rw [if_neg (by rw [show Region.wanted o (gval C.N ops ρ) = false from hw']; simp)]
      exact ⟨fun f _ => trivial, ih _ _ _ hx _ _ (ha.put hd undef) hw⟩

theorem ev_looks {ops : Array Oper} {o : Oper} {ρ : Fr} {dst : Option Nat} {v : Value} (h : ∀ d, dst = some d → d ∉ o.looksAt ops) : ∀ x ∈ o.op.operands, ev (updO ρ dst v) x = ev ρ x := by
  intro x hx
  refine ev_updO fun d hd hxd => h d hd ?_
  subst hxd
  exact List.mem_append_left _ (List.mem_filterMap.2 ⟨.tmp d, by simpa using hx, rfl⟩)
theorem exec_looks {ops : Array Oper} {o : Oper} {ρ : Fr} {dst : Option Nat} {v : Value} (hs : ∀ cs b, o.op ≠ .select cs b) (h : ∀ d, dst = some d → d ∉ o.looksAt ops) : execOp (ev (updO ρ dst v)) o = execOp (ev ρ) o :=
  execOp_congr o hs (ev_looks h)
theorem want_looks {N : Nat} {ops : Array Oper} {o : Oper} {ρ : Fr} {dst : Option Nat} {v : Value} (h : ∀ d, dst = some d → d ∉ o.looksAt ops) : wantV N ops (updO ρ dst v) o = wantV N ops ρ o := by
  unfold wantV Region.wanted
  cases hg : o.guard with
  | none => rfl
  | some x =>
    obtain ⟨j, b⟩ := x
    have : gval N ops (updO ρ dst v) j = gval N ops ρ j := by
      unfold gval
      cases hj : (ops[j]?).bind (·.dst) with
      | none => rfl
      | some d =>
        have hne : ∀ c, dst = some c → d ≠ c := fun c hc e => h c hc (by
          refine List.mem_append_right _ ?_
          rw [hg]
          simp [hj, e])
        have : updO ρ dst v d = ρ d := by
          cases dst with
          | none => rfl
          | some c => exact upd_other _ _ (hne c rfl)
        simp only [this]
    simp only [this]

theorem anyV_first {C : Cx} {ops : Array Oper} {Hs : Hp} {Q : Post} {ds : List Nat} {i : Nat} {oi : Oper} {v : Value} (hi : ops[i]? = some oi) (hn : (Hs.map Prod.fst).Nodup)
    (hsel : ∀ (j : Nat) (o : Oper) cs b, ops[j]? = some o → o.op ≠ .select cs b) (hdi : dstOK C.N oi.dst = true) (hrdi : isRd oi.op = true) :
    ∀ (fuel : Nat) (listed : Array Bool) (ρ : Fr) (H : Hp),
      (∀ j oj, ops[j]? = some oj → j ≠ i → listed.getD j true = false → (∀ e ∈ oj.after, Region.binds .any e = true → e.on ≠ i) → oi.apart ops oj = true) →
      Closed ops listed → i ∈ Region.ready .any ops listed → Rv C ops oi ρ (Hn oi Hs) v → Good ops Hs listed H → anyV C ops Hs Q fuel (listed.setIfInBounds i true) (updO ρ oi.dst v) ds H → anyV C ops Hs Q (fuel + 1) listed ρ ds H := by
  have here : ∀ {fuel : Nat} {listed : Array Bool} {ρ : Fr} {H : Hp}, Rv C ops oi ρ (Hn oi Hs) v → (∀ x ∈ Hn oi Hs, x ∈ H) → anyV C ops Hs Q fuel (listed.setIfInBounds i true) (updO ρ oi.dst v) ds H →
      opV C ops oi (fun ρ' H' => anyV C ops Hs Q fuel (listed.setIfInBounds i true) ρ' ds H') ρ H := by
    intro fuel listed ρ H hv hsub h
    refine ⟨hdi, ?_⟩
    rcases hv with ⟨h1, h2⟩ | ⟨h1, rfl⟩
    · exact .inl ⟨h1, (h2.more hsub (hn_nodup hn)).ex h⟩
    · exact .inr ⟨h1, h⟩
  intro fuel
  induction fuel with
  | zero =>
    intro listed ρ H _ hcl hr hv hsub h
    refine ⟨hsub, fun h0 => (by rw [h0] at hr; cases hr), fun j hj o ho => ?_⟩
    by_cases hji : j = i
    · subst hji
      rw [hi] at ho; cases ho
      exact here hv (good_need hsub hcl hr hi) h
    · have := ready_mono hj hji
      rw [h.2.1] at this
      cases this
  | succ fuel ih =>
    intro listed ρ H hfree hcl hr hv hsub h
    refine ⟨hsub, fun h0 => (by rw [h0] at hr; cases hr), fun j hj oj hoj => ?_⟩
    by_cases hji : j = i
    · subst hji
      rw [hi] at hoj; cases hoj
      exact here hv (good_need hsub hcl hr hi) h
    · obtain ⟨hjun, oj', hoj', hall⟩ := mem_ready.1 hj
      rw [hoj] at hoj'; cases hoj'
      have hnot : ∀ e ∈ oj.after, Region.binds .any e = true → e.on ≠ i := fun e he hb heq => by
        have h1 := hall e he hb
        have h0 := (mem_ready.1 hr).1
        rw [heq] at h1
        cases hg : listed[i]? with
        | none => simp [hg] at h1
        | some x => simp [hg] at h0 h1; rw [h0] at h1; cases h1
      obtain ⟨p1, p2, p3⟩ := Oper.apart_spec (hfree j oj hoj hji hjun hnot)
      obtain ⟨hdj, h1⟩ := h.2.2 j (ready_mono hj hji) oj hoj
      have hfree' : ∀ k ok, ops[k]? = some ok → k ≠ i → (listed.setIfInBounds j true).getD k true = false → (∀ e ∈ ok.after, Region.binds .any e = true → e.on ≠ i) → oi.apart ops ok = true := fun k ok hk hki hun hno => by
        refine hfree k ok hk hki ?_ hno
        by_cases hjk : j = k
        · subst hjk; exact hjun
        · rw [getD_set_ne true hjk] at hun; exact hun
      have good_back : ∀ {H' : Hp}, Good ops Hs ((listed.setIfInBounds i true).setIfInBounds j true) H' → Good ops Hs (listed.setIfInBounds j true) H' := fun hg => by
        rcases hg with ⟨k, hk, hcov⟩ | hg
        · refine .inl ⟨k, ?_, hcov⟩
          have hki : k ≠ i := by
            rintro rfl
            obtain ⟨ok, hok, hnr, _⟩ := covers_spec hcov
            rw [hi] at hok; cases hok
            rw [hrdi] at hnr; cases hnr
          rw [Array.setIfInBounds_comm _ _ (Ne.symm hji), getD_set_ne false (Ne.symm hki)] at hk
          exact hk
        · exact .inr hg
      have again : ∀ (u : Value) (H' : Hp), anyV C ops Hs Q fuel ((listed.setIfInBounds i true).setIfInBounds j true) (updO (updO ρ oi.dst v) oj.dst u) ds H' → anyV C ops Hs Q (fuel + 1) (listed.setIfInBounds j true) (updO ρ oj.dst u) ds H' := by
        intro u H' h3
        refine ih _ _ _ hfree' (closed_set hcl hj) (ready_mono hr (Ne.symm hji)) ?_ (good_back (anyV_sub h3)) ?_
        · rcases hv with ⟨q1, q2⟩ | ⟨q1, q2⟩
          · refine .inl ⟨by rw [want_looks p3]; exact q1, fun w hw => ?_⟩
            rw [exec_looks (fun cs b => hsel i oi cs b hi) p3]
            exact q2 w hw
          · exact .inr ⟨by rw [want_looks p3]; exact q1, q2⟩
        · rw [Array.setIfInBounds_comm _ _ hji, updO_comm ρ u v (fun d hd hd' => p2 d hd' hd)]
          exact h3
      refine ⟨hdj, ?_⟩
      rcases h1 with ⟨q1, q2⟩ | ⟨q1, q2⟩
      · refine .inl ⟨by rw [want_looks p1] at q1; exact q1, fun w hw => ?_⟩
        have := q2 w hw
        rw [exec_looks (fun cs b => hsel j oj cs b hoj) p1] at this
        have mk : ∀ x w, retOnly (knK C.e fun u H' => anyV C ops Hs Q fuel ((listed.setIfInBounds i true).setIfInBounds j true) (updO (updO ρ oi.dst v) oj.dst u) ds H') x w →
            retOnly (knK C.e fun u H' => anyV C ops Hs Q (fuel + 1) (listed.setIfInBounds j true) (updO ρ oj.dst u) ds H') x w := fun x w => by
          cases x with
          | returned v => exact fun ⟨H, k1, k2⟩ => ⟨H, k1, again _ _ k2⟩
          | _ => exact id
        cases hx : (execOp (ev ρ) oj).run C.P w with
        | halt y w' => rw [hx] at this; exact this
        | ok n w' =>
          rw [hx] at this
          cases n with
          | value u => exact mk (.returned u) w' this
          | skip => exact mk (.returned undef) w' this
          | enter f args => exact CallsIn.mono this mk
          | round l f tmps assign body => exact RoundIn.mono this mk
          | _ => exact this
      · exact .inr ⟨by rw [want_looks p1] at q1; exact q1, again _ _ q2⟩

def Subs (A B : Hp) : Prop := ∀ x ∈ A, x ∈ B
theorem Subs.all {xs H : Hp} (h : Subs xs H) : ∀ x ∈ xs, x ∈ H := h

/-- The order in which the region is walked: readers first, then the one other operation that is ready. -/
def planOK (ops : Array Oper) : List Nat → Array Bool → Bool
  | [], listed => Region.ready .any ops listed == []
  | i :: pl, listed =>
    (match ops[i]? with
      | some o => bif isRd o.op then (Region.ready .any ops listed).contains i && Region.free .any ops listed i else Region.ready .any ops listed == [i]
      | none => false) && planOK ops pl (listed.setIfInBounds i true)

def wpD (C : Cx) (ops : Array Oper) (Hs : Hp) (Q : Post) : List Nat → Fr → List Nat → Hp → Prop
  | [], ρ, ds, H => Q .normal ρ ds H
  | i :: pl, ρ, ds, H => ∀ o, ops[i]? = some o → dstOK C.N o.dst = true ∧
      ((isRd o.op = true ∧ ∃ v, Rv C ops o ρ (Hn o Hs) v ∧ wpD C ops Hs Q pl (updO ρ o.dst v) ds H) ∨
       (isRd o.op = false ∧ ((wantV C.N ops ρ o = true ∧ Ex C o (fun v H' => (covers ops i = true ∨ Subs Hs H') ∧ wpD C ops Hs Q pl (updO ρ o.dst v) ds H') ρ H) ∨ (wantV C.N ops ρ o = false ∧ wpD C ops Hs Q pl (updO ρ o.dst undef) ds H))))

theorem anyV_of_wpD {C : Cx} {ops : Array Oper} {Hs : Hp} {Q : Post} {ds : List Nat} (hn : (Hs.map Prod.fst).Nodup) (hs : Region.noSelect ops = true) :
    ∀ (pl : List Nat) (listed : Array Bool) (ρ : Fr) (H : Hp) (fuel : Nat), pl.length ≤ fuel → planOK ops pl listed = true → Closed ops listed → Good ops Hs listed H → wpD C ops Hs Q pl ρ ds H → anyV C ops Hs Q fuel listed ρ ds H := by
  intro pl
  induction pl with
  | nil =>
    intro listed ρ H fuel _ hp hcl hsub h
    have h0 : Region.ready .any ops listed = [] := by simpa [planOK] using hp
    cases fuel with
    | zero => exact ⟨hsub, h0, h⟩
    | succ f => exact ⟨hsub, fun _ => h, by rw [h0]; simp⟩
  | cons i pl ih =>
    intro listed ρ H fuel hf hp hcl hsub h
    obtain ⟨f, rfl⟩ : ∃ f, fuel = f + 1 := ⟨fuel - 1, by simp at hf; omega⟩
    simp only [List.length_cons, Nat.add_le_add_iff_right] at hf
    unfold planOK at hp
    simp only [Bool.and_eq_true] at hp
    obtain ⟨hp1, hp2⟩ := hp
    cases ho : ops[i]? with
    | none => rw [ho] at hp1; cases hp1
    | some o =>
      rw [ho] at hp1
      obtain ⟨hd, h1⟩ := h o ho
      rcases h1 with ⟨hrd, v, hv, hk⟩ | ⟨hrd, h1⟩
      · simp only [hrd, cond_true, Bool.and_eq_true] at hp1
        have hir : i ∈ Region.ready .any ops listed := by simpa using hp1.1
        exact anyV_first ho hn (Region.noSelect_spec hs) hd hrd f listed ρ H (Region.free_spec ho hp1.2) hcl hir hv hsub (ih _ _ _ _ hf hp2 (closed_set hcl hir) (good_mono i hsub) hk)
      · simp only [hrd, cond_false, beq_iff_eq] at hp1
        refine ⟨hsub, fun h0 => (by rw [hp1] at h0; cases h0), fun j hj oj hoj => ?_⟩
        have hjr := hj
        rw [hp1] at hj
        have hj' : j = i := by simpa using hj
        subst hj'
        rw [ho] at hoj; cases hoj
        refine ⟨hd, ?_⟩
        rcases h1 with ⟨w1, w2⟩ | ⟨w1, w2⟩
        · refine .inl ⟨w1, w2.mono fun u H' ⟨k1, k2⟩ => ih _ _ _ _ hf hp2 (closed_set hcl hjr) ?_ k2⟩
          rcases k1 with k1 | k1
          · refine .inl ⟨j, ?_, k1⟩
            have h0 := (mem_ready.1 hjr).1
            have hlt : j < listed.size := by
              rcases Nat.lt_or_ge j listed.size with h | h
              · exact h
              · simp [h] at h0
            simp [hlt]
          · exact .inr k1.all
        · exact .inr ⟨w1, ih _ _ _ _ hf hp2 (closed_set hcl hjr) (good_mono j hsub) w2⟩

theorem wpC_draw {C : Cx} {Q : Post} {ρ : Fr} {ds : List Nat} {H R : Hp} {id : Nat} {ops : Array Oper} (Hs : Hp) (pl : List Nat) (hm : C.P.follows .mixedOrders = true)
    (hp : (planOK ops pl (Array.replicate ops.size false) && Region.noSelect ops && Nat.ble pl.length ops.size) = true) (hpk : H.Perm (Hs ++ R)) (h : wpD C ops Hs Q pl ρ ds H) : wpC C (.region id ops true) Q ρ ds H := by
  intro a w ha hw
  simp only [Bool.and_eq_true] at hp
  have hk := hw.perm hpk
  exact wpIn_region_any hm (anyV_sound _ _ _ _ (anyV_of_wpD hk.left.nodup hp.1.2 pl _ ρ H _ (Nat.le_of_ble_eq_true hp.2) hp.1.1 (fun j oj _ hl => (by rw [Array.getD_eq_getD_getElem?, Array.getElem?_replicate] at hl; split at hl <;> simp at hl)) (.inr fun x hx => hpk.mem_iff.2 (List.mem_append_left _ hx)) h) a _ ha (hw.drawn _))

section
variable {C : Cx} {ops : Array Oper} {Hs : Hp} {Q : Post} {pl : List Nat} {ρ : Fr} {ds : List Nat} {H : Hp} {i : Nat}
variable {op : Op} {ty : TypeId} {pos : String} {af : Array Edge} {g : Option (Nat × Bool)} {d : Nat} {v : Value}
theorem wpD_nil (h : Q .normal ρ ds H) : wpD C ops Hs Q [] ρ ds H := h
theorem wpD_rds (ho : ops[i]? = some ⟨some d, op, ty, pos, af, g⟩) (hi : isRd op = true) (hw : wantV C.N ops ρ ⟨some d, op, ty, pos, af, g⟩ = true) (hd : Nat.blt d C.N = true) (hr : Rd C.P C.e ρ (bif memRd op then Hs else []) ⟨some d, op, ty, pos, af, g⟩ v)
    (h : wpD C ops Hs Q pl (upd ρ d v) ds H) : wpD C ops Hs Q (i :: pl) ρ ds H := by
  intro o ho'
  rw [ho] at ho'; cases ho'
  exact ⟨hd, .inl ⟨hi, v, .inl ⟨hw, hr⟩, h⟩⟩
theorem wpD_sks (ho : ops[i]? = some ⟨some d, op, ty, pos, af, g⟩) (hw : wantV C.N ops ρ ⟨some d, op, ty, pos, af, g⟩ = false) (hd : Nat.blt d C.N = true)
    (h : wpD C ops Hs Q pl (upd ρ d undef) ds H) : wpD C ops Hs Q (i :: pl) ρ ds H := by
  intro o ho'
  rw [ho] at ho'; cases ho'
  refine ⟨hd, ?_⟩
  by_cases hi : isRd op = true
  · exact .inl ⟨hi, undef, .inr ⟨hw, rfl⟩, h⟩
  · exact .inr ⟨by simpa using hi, .inr ⟨hw, h⟩⟩
theorem wpD_exs (ho : ops[i]? = some ⟨some d, op, ty, pos, af, g⟩) (hi : isRd op = false) (hw : wantV C.N ops ρ ⟨some d, op, ty, pos, af, g⟩ = true) (hd : Nat.blt d C.N = true)
    (h : Ex C ⟨some d, op, ty, pos, af, g⟩ (fun v H' => (covers ops i = true ∨ Subs Hs H') ∧ wpD C ops Hs Q pl (upd ρ d v) ds H') ρ H) : wpD C ops Hs Q (i :: pl) ρ ds H := by
  intro o ho'
  rw [ho] at ho'; cases ho'
  exact ⟨hd, .inr ⟨hi, .inl ⟨hw, h⟩⟩⟩
theorem wpD_exn (ho : ops[i]? = some ⟨none, op, ty, pos, af, g⟩) (hi : isRd op = false) (hw : wantV C.N ops ρ ⟨none, op, ty, pos, af, g⟩ = true)
    (h : Ex C ⟨none, op, ty, pos, af, g⟩ (fun _ H' => (covers ops i = true ∨ Subs Hs H') ∧ wpD C ops Hs Q pl ρ ds H') ρ H) : wpD C ops Hs Q (i :: pl) ρ ds H := by
  intro o ho'
  rw [ho] at ho'; cases ho'
  exact ⟨rfl, .inr ⟨hi, .inl ⟨hw, h⟩⟩⟩
end

/-- A place where the ways meet: what is known there, and all that follows shown once. -/
theorem wpC_cut {C : Cx} {x y : Code} {Q : Post} {ρ : Fr} {ds : List Nat} {H : Hp} {κ : Type} (S : κ → List (Nat × Value)) (F : κ → Hp) (ok : κ → Prop)
    (hx : wpC C x (LoopPost Q (fun ρ' ds' H' => ∃ k, ok k ∧ slots ρ' (S k) ∧ ds' = ds ∧ Drp (F k) H')) ρ ds H) (hy : ∀ k ρx, ok k → wpC C y Q (setL (S k) ρx) ds (F k)) : wpC C (.seq x y) Q ρ ds H := by
  refine wpC_seq (wpC_mono hx fun z ρ' ds' H' h => ?_)
  cases z with
  | normal =>
    obtain ⟨k, ho, hs, rfl, G, hp⟩ := h
    have h1 := hy k ρ' ho
    rw [setL_self hs] at h1
    exact then_normal (wpC_drop hp h1)
  | _ => exact h
end Go.Vl
