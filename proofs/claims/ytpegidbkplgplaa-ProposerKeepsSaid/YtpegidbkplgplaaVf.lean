/-
  RANGES OVER FUNCTIONS: a function value called; yield called; the statement itself. Nothing of the seat's program is named here.
-/
import Derived.Test.YtpegidbkplgplaaVd
import Derived.RangeFuncRecord
namespace Go.Vl
open Go.RowKit

/-- A frame as the cells that hold it. -/
def frameA (N : Nat) (ρ : Fr) : Array Value := ((List.range N).map ρ).toArray
theorem Rel.arr {N : Nat} {a : Act} {ρ : Fr} {ds : List Nat} (h : Rel N a ρ ds) : a.tmps = frameA N ρ := by
  apply Array.ext
  · simp [frameA, h.size]
  · intro i h1 h2
    have h3 := h.val i
    rw [Array.getD_eq_getD_getElem?, Array.getElem?_eq_getElem h1] at h3
    simp only [Option.getD_some] at h3
    rw [h3]
    simp [frameA]
def setPs (ρ : Fr) : List Nat → List Value → Fr
  | t :: ts, v :: vs => setPs (upd ρ t v) ts vs
  | _, _ => ρ
theorem rel_setPs {N : Nat} : ∀ (ps : List Nat) (vs : List Value) (T : Array Value) (ρ : Fr), Rel N { tmps := T, defers := [] } ρ [] → (ps.all fun t => Nat.blt t N) = true →
    Rel N { tmps := (ps.zip vs).foldl (fun tmps (x : Nat × Value) => tmps.setIfInBounds x.1 x.2) T, defers := [] } (setPs ρ ps vs) []
  | [], _, _, _, h, _ => h
  | _ :: _, [], _, _, h, _ => h
  | t :: ts, v :: vs, T, ρ, h, hp => by
    rw [List.all_cons, Bool.and_eq_true] at hp
    exact rel_setPs ts vs _ _ (h.put (dst := some t) hp.1 v) hp.2

/-- the record of a range over a function -/
def recL (fn : FuncId) (N : Nat) (ρ : Fr) (ps : List Nat) (assign body : Code) (D : Nat) (st : LoopState) (pend : Option Code) : Obj :=
  .loop { state := st, pending := pend, fn, tmps := frameA N ρ, params := ps.toArray, assign, body, defers := D }

/-- A function value called. -/
def valK (P : Program) (e : World) (fv : Value) (args : List Value) (H : Hp) (K : Value → Hp → Prop) : Prop :=
  ∀ w, Kn e w H → resOK ⟨P, 0, none, e⟩ K ((do let d ← Deferred.ofValue fv args.toArray; invoke d.target d.args).run P w)
theorem valK_perm {P : Program} {e : World} {fv : Value} {args : List Value} {H H' : Hp} {K : Value → Hp → Prop} (hp : H.Perm H') (h : valK P e fv args H' K) : valK P e fv args H K := fun w hw => h w (hw.perm hp)
theorem valK_mono {P : Program} {e : World} {fv : Value} {args : List Value} {H : Hp} {K K' : Value → Hp → Prop} (h : valK P e fv args H K) (hk : ∀ v H, K v H → K' v H) : valK P e fv args H K' := fun w hw => by
  have := h w hw
  cases hr : (do let d ← Deferred.ofValue fv args.toArray; invoke d.target d.args : Sem Next).run P w with
  | halt h w' => rw [hr] at this; exact this
  | ok n w' =>
    rw [hr] at this
    have hm : ∀ x w', retOnly (knK e K) x w' → retOnly (knK e K') x w' := fun x w' hx => by
      cases x with
      | returned v => obtain ⟨H', h1, h2⟩ := hx; exact ⟨H', h1, hk _ _ h2⟩
      | _ => exact hx
    cases n with
    | value v => obtain ⟨H', h1, h2⟩ := this; exact ⟨H', h1, hk _ _ h2⟩
    | skip => obtain ⟨H', h1, h2⟩ := this; exact ⟨H', h1, hk _ _ h2⟩
    | enter f args => exact CallsIn.mono this hm
    | round l f tmps assign body => exact RoundIn.mono this hm
    | _ => exact this.elim

section
variable {C : Cx} {ρ : Fr} {H : Hp} {d : Option Nat} {ty : TypeId} {pos : String} {af : Array Edge} {g : Option (Nat × Bool)} {K : Value → Hp → Prop}
theorem ex_callV {x : Operand} {args : List Operand} {ats : Array TypeId} {fv : Value} {vs : List Value} (hx : ev ρ x = fv) (ha : EvL ρ args vs) (h : valK C.P C.e fv vs H K) :
    Ex C ⟨d, .call ⟨.value x, args.toArray, ats⟩, ty, pos, af, g⟩ K ρ H := fun w hw => by
  have h1 := h w hw
  have hargs : args.toArray.map (ev ρ) = vs.toArray := by rw [← ha.map]; simp
  have h2 : execOp (ev ρ) ⟨d, .call ⟨.value x, args.toArray, ats⟩, ty, pos, af, g⟩ = (do let d ← Deferred.ofValue fv vs.toArray; invoke d.target d.args) := by
    simp only [execOp, resolve, hargs, hx]
  rw [h2]
  exact h1
/-- a closure -/
theorem val_func {P : Program} {e : World} {f : FuncId} {first cap : Array Value} {vs : List Value} {fn : Func} (hf : P.funcs[f]? = some fn) (hb : fn.body.isNone = false) (hn : (fn.name == "runtime.NumGoroutine") = false)
    (h : callsK P e f (first ++ vs.toArray ++ cap) H K) : valK P e (.func (.func f) first cap) vs H K := fun w hw => by
  have h1 : (do let d ← Deferred.ofValue (.func (.func f) first cap) vs.toArray; invoke d.target d.args : Sem Next).run P w = .ok (.enter f (first ++ vs.toArray ++ cap)) w := by
    have hn' : ¬ fn.name = "runtime.NumGoroutine" := by simpa using hn
    have hb' : ¬ fn.body = none := by intro h; rw [h] at hb; cases hb
    simp [Deferred.ofValue, invoke, callFunc, hf, hn', hb']
  rw [h1]
  exact h w hw

/-- A round's end. -/
def RQ (l : Nat) (rc : LoopState → Option Code → Obj) (K : Value → Hp → Prop) : Post := fun x _ _ H2 => ∃ R p, Drp ((l, rc .busy p) :: R) H2 ∧
  match x with
  | .normal => K (.bool true) ((l, rc .ready none) :: R)
  | .ret => K (.bool false) ((l, rc .done (some .ret)) :: R)
  | .exit i => K (.bool false) ((l, rc .done (some (.exit i))) :: R)
  | _ => False

theorem kn_putObj {e w : World} {l : Nat} {o o' : Obj} {R : Hp} (hw : Kn e w ((l, o) :: R)) : Kn e (w.putObj l o') ((l, o') :: R) := by
  have hlt := hw.lt List.mem_cons_self
  refine hw.set (f := fun o => (l, o) :: R) .head rfl rfl rfl ?_ fun k hk => World.putObj_heap_other hk
  simp only at hlt
  simp [World.putObj, hlt]

theorem val_yield {P : Program} {e : World} {l : Nat} {fn : FuncId} {N : Nat} {ρ0 : Fr} {ps : List Nat} {assign body : Code} {D : Nat} {p : Option Code} {vs : List Value} {R : Hp} {a0 : Act} {ds0 : List Nat}
    (hrel : Rel N a0 ρ0 ds0) (hps : (ps.all fun t => Nat.blt t N) = true) (hlen : vs.length = ps.length)
    (h : wpC ⟨P, N, some l, e⟩ assign (fun x ρ1 ds1 H1 => x = .normal ∧ ds1 = [] ∧ ∃ R1 p1, Drp ((l, recL fn N ρ0 ps assign body D .ready p1) :: R1) H1 ∧
      wpC ⟨P, N, some l, e⟩ body (RQ l (recL fn N ρ0 ps assign body D) K) ρ1 [] ((l, recL fn N ρ0 ps assign body D .busy p1) :: R1)) (setPs ρ0 ps vs) [] ((l, recL fn N ρ0 ps assign body D .ready p) :: R)) :
    valK P e (.func (.yield l) #[] #[]) vs ((l, recL fn N ρ0 ps assign body D .ready p) :: R) K := fun w hw => by
  have hl := hw.has _ List.mem_cons_self
  have h1 : (do let d ← Deferred.ofValue (.func (.yield l) #[] #[]) vs.toArray; invoke d.target d.args : Sem Next).run P w =
      .ok (.round l fn ((ps.toArray.zip vs.toArray).foldl (fun tmps (t, a) => tmps.setIfInBounds t a) (frameA N ρ0)) assign body) w := by
    have := run_yield (P := P) (w := w) (args := vs.toArray) hl (by simp [hlen])
    simpa [Deferred.ofValue, invoke] using this
  rw [h1]
  show RoundIn (fence none) 0 P l fn _ assign body w (retOnly (knK e K))
  refine roundIn_of_wpIn trivial ?_
  have hr0 : Rel N { tmps := frameA N ρ0, defers := [] } ρ0 [] := ⟨by simp [frameA], by rw [← hrel.arr]; exact hrel.val, rfl⟩
  have hr1 := rel_setPs ps vs _ _ hr0 hps
  have e1 : (ps.toArray.zip vs.toArray).foldl (fun tmps (x : Nat × Value) => tmps.setIfInBounds x.1 x.2) (frameA N ρ0) = (ps.zip vs).foldl (fun tmps (x : Nat × Value) => tmps.setIfInBounds x.1 x.2) (frameA N ρ0) := by
    rw [List.zip_toArray, List.foldl_toArray]
  rw [← e1] at hr1
  refine Go.wpIn_mono (h _ _ hr1 hw) ?_
  rintro x a w1 ⟨ρ1, ds1, H1, ra, ka, rfl, rfl, R1, p1, hd, hbody⟩
  obtain ⟨G, hG⟩ := hd
  have k1 := (ka.perm hG).left
  refine ⟨_, run_beginRound (k1.has _ List.mem_cons_self) rfl, ?_⟩
  refine Go.wpIn_mono (hbody _ _ ra (kn_putObj k1)) ?_
  rintro x a w2 ⟨ρ2, ds2, H2, rb, kb, R2, p2, ⟨G2, hG2⟩, hx⟩
  have k2 := (kb.perm hG2).left
  have hl2 := k2.has _ List.mem_cons_self
  cases x with
  | normal => exact ⟨_, _, run_endRound none hl2, _, kn_putObj k2, hx⟩
  | ret => exact ⟨_, _, run_endRound (some .ret) hl2, _, kn_putObj k2, hx⟩
  | exit i => exact ⟨_, _, run_endRound (some (.exit i)) hl2, _, kn_putObj k2, hx⟩
  | _ => exact hx.elim

/-- What stands behind the call of the function that was ranged over. -/
def RangeQ (C : Cx) (l : Nat) (rc : LoopState → Option Code → Obj) (Q : Post) (ρ : Fr) (ds : List Nat) : Value → Hp → Prop := fun _ H' => ∃ st p R, st ≠ .busy ∧ Drp ((l, rc st p) :: R) H' ∧
  match p with
  | none => Q .normal ρ ds R
  | some c => wpC C c Q ρ ds R

theorem range_post {C : Cx} {l : Nat} {rc : LoopState → Option Code → Obj} {Q : Post} {ρ : Fr} {ds : List Nat} {a : Act} (hrc : ∀ st p, ∃ r : Loop, rc st p = .loop r ∧ r.state = st ∧ r.pending = p) (ha : Rel C.N a ρ ds) {x : Ending} {w : World}
    (h : retOnly (knK C.e (RangeQ C l rc Q ρ ds)) x w) : rangePost (fence C.r) 0 C.P l (lift C Q) a x w := by
  cases x with
  | returned v =>
    obtain ⟨H', k, st, p, R, hst, ⟨G, hG⟩, hq⟩ := h
    have k1 := (k.perm hG).left
    obtain ⟨⟨s0, p0, f1, t1, ps1, as1, bd1, D1⟩, hr, h1, h2⟩ := hrc st p
    simp only at h1 h2
    subst h1 h2
    have hl := k1.has _ List.mem_cons_self
    rw [hr] at hl
    have k3 := kn_putObj (o' := .loop { state := .exhausted, pending := p0, fn := f1, tmps := t1, params := ps1, assign := as1, body := bd1, defers := D1 }) k1
    have k2 : Kn C.e (w.putObj l (.loop { state := .exhausted, pending := p0, fn := f1, tmps := t1, params := ps1, assign := as1, body := bd1, defers := D1 })) R :=
      ⟨k3.os, k3.tape, k3.output, by have := k3.nodup; rw [List.map_cons, List.nodup_cons] at this; exact this.2, fun x hx => k3.has x (List.mem_cons_of_mem _ hx)⟩
    refine ⟨p0, _, run_endLoop hl hst, ?_⟩
    cases p0 with
    | none => exact ⟨ρ, ds, R, ha, k2, hq⟩
    | some c => exact hq _ _ ha k2
  | _ => exact h.elim

/-- The statement, outermost. -/
theorem wpC_rangeFunc {C : Cx} {g : Operand} {ps : List Nat} {assign body : Code} {Q : Post} {ρ : Fr} {ds : List Nat} {H : Hp} {gf : FuncId} {first cap : Array Value} {fn : Func} (hr : C.r = none)
    (hg : ev ρ g = .func (.func gf) first cap) (hf : C.P.funcs[gf]? = some fn) (hb : fn.body.isNone = false) (hn : (fn.name == "runtime.NumGoroutine") = false)
    (h : ∀ (a : Act) (l D : Nat) (f0 : FuncId), Rel C.N a ρ ds → callsK C.P C.e gf (first ++ #[.func (.yield l) #[] #[]] ++ cap) ((l, recL f0 C.N ρ ps assign body D .ready none) :: (D, .deferred (some [])) :: H)
      (RangeQ C l (recL f0 C.N ρ ps assign body D) Q ρ (D :: ds))) : wpC C (.rangeFunc g ps.toArray assign body) Q ρ ds H := fun a w ha hw => by
  refine wpIn_rangeFunc fun f0 _ => ?_
  have h1 := h a (w.heap.size + 1) w.heap.size f0 ha
  have k1 := hw.alloc (.deferred (some []))
  have k2 := k1.alloc (recL f0 C.N ρ ps assign body w.heap.size .ready none)
  have hsz : ({ w with heap := w.heap.push (.deferred (some [])) } : World).heap.size = w.heap.size + 1 := by simp
  rw [hsz] at k2
  have he := run_enterLoop_outer (P := C.P) (w := w) f0 a.tmps ps.toArray assign body
  rw [ha.arr] at he
  have hev : a.eval g = .func (.func gf) first cap := by rw [ha.eval]; exact hg
  have hn' : ¬ fn.name = "runtime.NumGoroutine" := by simpa using hn
  have hb' : ¬ fn.body = none := by intro h; rw [h] at hb; cases hb
  refine ⟨w.heap.size + 1, [{ target := .collected w.heap.size, args := #[] }], (w.alloc (.deferred (some []))).alloc (recL f0 C.N ρ ps assign body w.heap.size .ready none), { target := .fn (.func gf) cap, args := first ++ #[.func (.yield (w.heap.size + 1)) #[] #[]] }, (w.alloc (.deferred (some []))).alloc (recL f0 C.N ρ ps assign body w.heap.size .ready none), gf, first ++ #[.func (.yield (w.heap.size + 1)) #[] #[]] ++ cap, (w.alloc (.deferred (some []))).alloc (recL f0 C.N ρ ps assign body w.heap.size .ready none), ?_, ?_, fun _ _ => trivial, ?_, fun h => by simp [fence] at h, ?_⟩
  · rw [ha.arr]
    have : (fence C.r).round = none := hr
    rw [this]
    exact he
  · have : resolve a.eval (rangeCall g (w.heap.size + 1)) 0 = Deferred.ofValue (a.eval g) #[.func (.yield (w.heap.size + 1)) #[] #[]] := by
      simp only [resolve, List.map_toArray, List.map_cons, List.map_nil]
      rfl
    rw [this, hev]
    rfl
  · simp [invoke, callFunc, hf, hn', hb']
  · refine CallsIn.mono (F := fence C.r) (show CallsIn (fence C.r) 0 C.P gf _ _ _ from h1 _ k2) fun e w' hR => ?_
    exact range_post (a := { a with defers := [{ target := .collected w.heap.size, args := #[] }] ++ a.defers }) (fun st p => ⟨_, rfl, rfl, rfl⟩) ⟨ha.size, ha.val, by show _ :: a.defers = _; rw [ha.defers]; rfl⟩ hR
end

/-! ### Iterators -/

/-- What a yield does with one element, at the iterator's side: A is the iterator's own memory. -/
def YK (P : Program) (e : World) (yv : Value) (S : List (List Value) → Prop) (inv : List (List Value) → Hp → Prop) (stop : Hp → Prop) : Prop :=
  ∀ done x T A, (∃ rest, S (done ++ x :: rest)) → inv done T →
    valK P e yv x (A ++ T) (fun b H' => (b = .bool true ∧ ∃ T', inv (done ++ [x]) T' ∧ Drp (A ++ T') H') ∨ (b = .bool false ∧ ∃ T', stop T' ∧ Drp (A ++ T') H'))
/-- An iterator: it hands out one of the sequences of S, or as much of one as is asked for; B: what it reads. -/
def Iter (P : Program) (e : World) (gf : FuncId) (first cap : Array Value) (B : Hp) (S : List (List Value) → Prop) : Prop :=
  ∀ yv inv stop (K : Value → Hp → Prop) T, YK P e yv S inv stop → inv [] T → (∀ all T, S all → inv all T → K (.tuple #[]) (B ++ T)) → (∀ T, stop T → K (.tuple #[]) (B ++ T)) →
    callsK P e gf (first ++ #[yv] ++ cap) (B ++ T) K

theorem Drp.perm {X H H' : Hp} (h : Drp X H) (hp : H'.Perm H) : Drp X H' := let ⟨G, hG⟩ := h; ⟨G, hp.trans hG⟩

/-- A range over an iterator, outermost: I: what is known after some elements; St: at an early end. -/
theorem wpC_rangeIter {C : Cx} {g : Operand} {ps : List Nat} {assign body : Code} {Q : Post} {ρ : Fr} {ds : List Nat} {H : Hp} {gf : FuncId} {first cap : Array Value} {fn : Func} {B T0 : Hp} {S : List (List Value) → Prop}
    (I : List (List Value) → Hp → Prop) (St : Exit → Hp → Prop) (hI : Iter C.P C.e gf first cap B S) (hp : H.Perm (B ++ T0)) (hr : C.r = none)
    (hg : ev ρ g = .func (.func gf) first cap) (hf : C.P.funcs[gf]? = some fn) (hb : fn.body.isNone = false) (hn : (fn.name == "runtime.NumGoroutine") = false)
    (hps : (ps.all fun t => Nat.blt t C.N) = true) (hS : ∀ l, S l → ∀ x ∈ l, x.length = ps.length) (h0 : I [] T0)
    (hround : ∀ (done : List (List Value)) (x : List Value) (T A : Hp) (l : Nat) (rc : LoopState → Option Code → Obj), (∃ rest, S (done ++ x :: rest)) → I done T →
      wpC ⟨C.P, C.N, some l, C.e⟩ assign (fun z ρ1 ds1 H1 => z = .normal ∧ ds1 = [] ∧ ∃ R1 p1, Drp ((l, rc .ready p1) :: R1) H1 ∧
        wpC ⟨C.P, C.N, some l, C.e⟩ body (fun z _ _ H2 => ∃ p, match z with
          | .normal => ∃ T', I (done ++ [x]) T' ∧ Drp ((l, rc .busy p) :: (T' ++ A)) H2
          | .ret => ∃ T', St .ret T' ∧ Drp ((l, rc .busy p) :: (T' ++ A)) H2
          | .exit i => ∃ T', St (.exit i) T' ∧ Drp ((l, rc .busy p) :: (T' ++ A)) H2
          | _ => False) ρ1 [] ((l, rc .busy p1) :: R1)) (setPs ρ ps x) [] ((l, rc .ready none) :: (T ++ A)))
    (hend : ∀ D all T, S all → I all T → Q .normal ρ (D :: ds) ((D, .deferred (some [])) :: (T ++ B)))
    (hstop : ∀ D z T, St z T → match z with
      | .ret => wpC C .ret Q ρ (D :: ds) ((D, .deferred (some [])) :: (T ++ B))
      | .exit i => wpC C (.exit i) Q ρ (D :: ds) ((D, .deferred (some [])) :: (T ++ B))
      | _ => True) : wpC C (.rangeFunc g ps.toArray assign body) Q ρ ds H := by
  refine wpC_perm hp (wpC_rangeFunc hr hg hf hb hn fun a l D f0 ha => ?_)
  have h1 := hI (.func (.yield l) #[] #[])
    (fun done T => ∃ T1, I done T1 ∧ T = (l, recL f0 C.N ρ ps assign body D .ready none) :: (D, .deferred (some [])) :: T1)
    (fun T => ∃ z T1, St z T1 ∧ ((z = .ret ∧ T = (l, recL f0 C.N ρ ps assign body D .done (some .ret)) :: (D, .deferred (some [])) :: T1) ∨
      ∃ i, z = .exit i ∧ T = (l, recL f0 C.N ρ ps assign body D .done (some (.exit i))) :: (D, .deferred (some [])) :: T1))
    (RangeQ C l (recL f0 C.N ρ ps assign body D) Q ρ (D :: ds)) ((l, recL f0 C.N ρ ps assign body D .ready none) :: (D, .deferred (some [])) :: T0) ?_ ⟨T0, h0, rfl⟩ ?_ ?_
  · refine callsK_perm ?_ h1
    refine (List.Perm.trans ?_ List.perm_middle.symm)
    exact (List.Perm.trans (.refl _) List.perm_middle.symm).cons _
  · rintro done x _ A hx ⟨T1, hT1, rfl⟩
    obtain ⟨rest, hrest⟩ := hx
    have hlen := hS _ hrest x (by simp)
    have p1 : (A ++ (l, recL f0 C.N ρ ps assign body D .ready none) :: (D, .deferred (some [])) :: T1).Perm ((l, recL f0 C.N ρ ps assign body D .ready none) :: (T1 ++ ((D, .deferred (some [])) :: A))) := by
      refine List.perm_middle.trans (.cons _ ?_)
      refine List.Perm.trans List.perm_middle ?_
      exact ((List.perm_append_comm).cons _).trans List.perm_middle.symm
    refine valK_perm p1 ?_
    refine val_yield ha hps hlen ?_
    refine wpC_mono (hround done x T1 ((D, .deferred (some [])) :: A) l (recL f0 C.N ρ ps assign body D) ⟨rest, hrest⟩ hT1) ?_
    rintro z ρ1 ds1 H1 ⟨rfl, rfl, R1, p2, hd, hbody⟩
    refine ⟨rfl, rfl, R1, p2, hd, wpC_mono hbody ?_⟩
    have p2 : ∀ (o : Obj) (T' : Hp), ((l, o) :: (T' ++ ((D, Obj.deferred (some [])) :: A))).Perm (A ++ (l, o) :: (D, .deferred (some [])) :: T') := fun o T' => by
      refine List.Perm.trans (.cons _ ?_) List.perm_middle.symm
      refine List.Perm.trans ?_ List.perm_middle.symm
      exact List.perm_middle.trans ((List.perm_append_comm).cons _)
    rintro z ρ2 ds2 H2 ⟨p, hz⟩
    cases z with
    | normal =>
      obtain ⟨T', hT', hd⟩ := hz
      exact ⟨_, p, hd, .inl ⟨rfl, _, ⟨T', hT', rfl⟩, [], by rw [List.append_nil]; exact p2 _ _⟩⟩
    | ret =>
      obtain ⟨T', hT', hd⟩ := hz
      exact ⟨_, p, hd, .inr ⟨rfl, _, ⟨_, T', hT', .inl ⟨rfl, rfl⟩⟩, [], by rw [List.append_nil]; exact p2 _ _⟩⟩
    | exit i =>
      obtain ⟨T', hT', hd⟩ := hz
      exact ⟨_, p, hd, .inr ⟨rfl, _, ⟨_, T', hT', .inr ⟨i, rfl, rfl⟩⟩, [], by rw [List.append_nil]; exact p2 _ _⟩⟩
    | _ => exact hz.elim
  · rintro all _ hall ⟨T1, hT1, rfl⟩
    refine ⟨.ready, none, (D, .deferred (some [])) :: (T1 ++ B), by decide, ⟨[], ?_⟩, hend D all T1 hall hT1⟩
    rw [List.append_nil]
    exact List.perm_middle.trans ((List.perm_middle.trans (List.perm_append_comm.cons _)).cons _)
  · rintro _ ⟨z, T1, hz, ⟨rfl, rfl⟩ | ⟨i, rfl, rfl⟩⟩
    · refine ⟨.done, some .ret, (D, .deferred (some [])) :: (T1 ++ B), by decide, ⟨[], ?_⟩, hstop D _ T1 hz⟩
      rw [List.append_nil]
      exact List.perm_middle.trans ((List.perm_middle.trans (List.perm_append_comm.cons _)).cons _)
    · refine ⟨.done, some (.exit i), (D, .deferred (some [])) :: (T1 ++ B), by decide, ⟨[], ?_⟩, hstop D _ T1 hz⟩
      rw [List.append_nil]
      exact List.perm_middle.trans ((List.perm_middle.trans (List.perm_append_comm.cons _)).cons _)

theorem wpO_drp {C : Cx} {ops : Array Oper} {Q : Post} {rest : List Oper} {ρ : Fr} {ds : List Nat} {H H2 : Hp} (hd : Drp H2 H) (h : wpO C ops Q rest ρ ds H2) : wpO C ops Q rest ρ ds H :=
  fun a w ha hk => let ⟨_, hG⟩ := hd; h a w ha (hk.perm hG).left
theorem ret1D {P : Program} {e : World} {K : Value → Hp → Prop} {ρ : Fr} {H : Hp} {x : Exit} {t D : Nat} {v : Value} (hx : x = .normal ∨ x = .ret) (hv : ρ t = v) (h : Drop K v H) : RetP P e [.tmp t] K x ρ [D] ((D, .deferred (some [])) :: H) :=
  ⟨hx, H, [v], .refl _, .tmp hv .nil, h⟩
theorem drop_mk {K : Value → Hp → Prop} {v : Value} {R : Hp} (R' G : Hp) (hp : R.Perm (R' ++ G)) (h : K v R') : Drop K v R := ⟨R', G, hp, h⟩
end Go.Vl
