/-
  RANGES OVER FUNCTIONS WHOSE ELEMENTS COME WITH MEMORY OF THEIR OWN: what is yielded is handed over with its blocks. Nothing of the seat's program is named here.
-/
import Derived.Test.YtagdhnbodddipaaVs
namespace Go.Vl
open Go.RowKit

/-- What a yield does with one element and its blocks. -/
def YKo {β : Type} (val : β → List Value) (own : β → Hp) (P : Program) (e : World) (yv : Value) (S : List β → Prop) (inv : List β → Hp → Prop) (stop : Hp → Prop) : Prop :=
  ∀ done x T A, (∃ rest, S (done ++ x :: rest)) → inv done T →
    valK P e yv (val x) (A ++ (own x ++ T)) (fun b H' => (b = .bool true ∧ ∃ T', inv (done ++ [x]) T' ∧ Drp (A ++ T') H') ∨ (b = .bool false ∧ ∃ T', stop T' ∧ Drp (A ++ T') H'))
/-- An iterator that hands out elements with their blocks. -/
def Itero {β : Type} (val : β → List Value) (own : β → Hp) (P : Program) (e : World) (gf : FuncId) (first cap : Array Value) (B : Hp) (S : List β → Prop) : Prop :=
  ∀ yv inv stop (K : Value → Hp → Prop) T, YKo val own P e yv S inv stop → inv [] T → (∀ all T, S all → inv all T → K (.tuple #[]) (B ++ T)) → (∀ T, stop T → K (.tuple #[]) (B ++ T)) →
    callsK P e gf (first ++ #[yv] ++ cap) (B ++ T) K

theorem wpC_rangeItero {β : Type} {val : β → List Value} {own : β → Hp} {C : Cx} {g : Operand} {ps : List Nat} {assign body : Code} {Q : Post} {ρ : Fr} {ds : List Nat} {H : Hp} {gf : FuncId} {first cap : Array Value} {fn : Func} {B T0 : Hp} {S : List β → Prop}
    (I : List β → Hp → Prop) (St : Exit → Hp → Prop) (hI : Itero val own C.P C.e gf first cap B S) (hp : H.Perm (B ++ T0)) (hr : C.r = none)
    (hg : ev ρ g = .func (.func gf) first cap) (hf : C.P.funcs[gf]? = some fn) (hb : fn.body.isNone = false) (hn : (fn.name == "runtime.NumGoroutine") = false)
    (hps : (ps.all fun t => Nat.blt t C.N) = true) (hS : ∀ x, (val x).length = ps.length) (h0 : I [] T0)
    (hround : ∀ (done : List β) (x : β) (T A : Hp) (l : Nat) (rc : LoopState → Option Code → Obj), (∃ rest, S (done ++ x :: rest)) → I done T →
      wpC ⟨C.P, C.N, some l, C.e⟩ assign (fun z ρ1 ds1 H1 => z = .normal ∧ ds1 = [] ∧ ∃ R1 p1, Drp ((l, rc .ready p1) :: R1) H1 ∧
        wpC ⟨C.P, C.N, some l, C.e⟩ body (fun z _ _ H2 => ∃ p, match z with
          | .normal => ∃ T', I (done ++ [x]) T' ∧ Drp ((l, rc .busy p) :: (T' ++ A)) H2
          | .ret => ∃ T', St .ret T' ∧ Drp ((l, rc .busy p) :: (T' ++ A)) H2
          | .exit i => ∃ T', St (.exit i) T' ∧ Drp ((l, rc .busy p) :: (T' ++ A)) H2
          | _ => False) ρ1 [] ((l, rc .busy p1) :: R1)) (setPs ρ ps (val x)) [] ((l, rc .ready none) :: ((own x ++ T) ++ A)))
    (hend : ∀ D all T, S all → I all T → Q .normal ρ (D :: ds) ((D, .deferred (some [])) :: (T ++ B)))
    (hstop : ∀ D z T, St z T → match z with
      | .ret => wpC C .ret Q ρ (D :: ds) ((D, .deferred (some [])) :: (T ++ B))
      | .exit i => wpC C (.exit i) Q ρ (D :: ds) ((D, .deferred (some [])) :: (T ++ B))
      | _ => True) : wpC C (.rangeFunc g ps.toArray assign body) Q ρ ds H := by
  refine wpC_perm hp (wpC_rangeFunc hr hg hf hb hn fun a l D f0 ha => ?_)
  have h1 := hI (.func (.yield l) #[] #[])
    (fun done T => ∃ T1, I done T1 ∧ T = (l, recL f0 C.N ρ ps assign body D .ready none) :: (D, .deferred (some [])) :: T1)
    (fun T => ∃ z T1, St z T1 ∧ ((z = .ret ∧ T = (l, recL f0 C.N ρ ps assign body D .done (some .ret)) :: (D, .deferred (some [])) :: T1) ∨
      ∃ i, z = .exit i ∧ T = (l, recL f0 C.N ρ ps assign body D .done (some (.exit i))) :: (D, .deferred (some [])) :: T1))
    (RangeQ C l (recL f0 C.N ρ ps assign body D) Q ρ (D :: ds)) ((l, recL f0 C.N ρ ps assign body D .ready none) :: (D, .deferred (some [])) :: T0) ?_ ⟨T0, h0, rfl⟩ ?_ ?_
  · refine callsK_perm ?_ h1
    refine (List.Perm.trans ?_ List.perm_middle.symm)
    exact (List.Perm.trans (.refl _) List.perm_middle.symm).cons _
  · rintro done x _ A hx ⟨T1, hT1, rfl⟩
    have hlen := hS x
    have p1 : (A ++ (own x ++ (l, recL f0 C.N ρ ps assign body D .ready none) :: (D, .deferred (some [])) :: T1)).Perm ((l, recL f0 C.N ρ ps assign body D .ready none) :: ((own x ++ T1) ++ ((D, .deferred (some [])) :: A))) := by
      have q1 : (own x ++ (l, recL f0 C.N ρ ps assign body D .ready none) :: (D, .deferred (some [])) :: T1).Perm ((l, recL f0 C.N ρ ps assign body D .ready none) :: (D, .deferred (some [])) :: (own x ++ T1)) :=
        List.perm_middle.trans (.cons _ List.perm_middle)
      refine (q1.append_left A).trans ?_
      refine List.perm_middle.trans (.cons _ ?_)
      refine List.Perm.trans List.perm_middle ?_
      exact ((List.perm_append_comm).cons _).trans List.perm_middle.symm
    refine valK_perm p1 ?_
    refine val_yield ha hps hlen ?_
    refine wpC_mono (hround done x T1 ((D, .deferred (some [])) :: A) l (recL f0 C.N ρ ps assign body D) hx hT1) ?_
    rintro z ρ1 ds1 H1 ⟨rfl, rfl, R1, p2, hd, hbody⟩
    refine ⟨rfl, rfl, R1, p2, hd, wpC_mono hbody ?_⟩
    have p2 : ∀ (o : Obj) (T' : Hp), ((l, o) :: (T' ++ ((D, Obj.deferred (some [])) :: A))).Perm (A ++ (l, o) :: (D, .deferred (some [])) :: T') := fun o T' => by
      refine List.Perm.trans (.cons _ ?_) List.perm_middle.symm
      refine List.Perm.trans ?_ List.perm_middle.symm
      exact List.perm_middle.trans ((List.perm_append_comm).cons _)
    rintro z ρ2 ds2 H2 ⟨p, hz⟩
    cases z with
    | normal =>
      obtain ⟨T', hT', hd⟩ := hz
      exact ⟨_, p, hd, .inl ⟨rfl, _, ⟨T', hT', rfl⟩, [], by rw [List.append_nil]; exact p2 _ _⟩⟩
    | ret =>
      obtain ⟨T', hT', hd⟩ := hz
      exact ⟨_, p, hd, .inr ⟨rfl, _, ⟨_, T', hT', .inl ⟨rfl, rfl⟩⟩, [], by rw [List.append_nil]; exact p2 _ _⟩⟩
    | exit i =>
      obtain ⟨T', hT', hd⟩ := hz
      exact ⟨_, p, hd, .inr ⟨rfl, _, ⟨_, T', hT', .inr ⟨i, rfl, rfl⟩⟩, [], by rw [List.append_nil]; exact p2 _ _⟩⟩
    | _ => exact hz.elim
  · rintro all _ hall ⟨T1, hT1, rfl⟩
    refine ⟨.ready, none, (D, .deferred (some [])) :: (T1 ++ B), by decide, ⟨[], ?_⟩, hend D all T1 hall hT1⟩
    rw [List.append_nil]
    exact List.perm_middle.trans ((List.perm_middle.trans (List.perm_append_comm.cons _)).cons _)
  · rintro _ ⟨z, T1, hz, ⟨rfl, rfl⟩ | ⟨i, rfl, rfl⟩⟩
    · refine ⟨.done, some .ret, (D, .deferred (some [])) :: (T1 ++ B), by decide, ⟨[], ?_⟩, hstop D _ T1 hz⟩
      rw [List.append_nil]
      exact List.perm_middle.trans ((List.perm_middle.trans (List.perm_append_comm.cons _)).cons _)
    · refine ⟨.done, some (.exit i), (D, .deferred (some [])) :: (T1 ++ B), by decide, ⟨[], ?_⟩, hstop D _ T1 hz⟩
      rw [List.append_nil]
      exact List.perm_middle.trans ((List.perm_middle.trans (List.perm_append_comm.cons _)).cons _)

section
variable {C : Cx} {ops : Array Oper} {Q : Post} {rest : List Oper} {ρ : Fr} {ds : List Nat} {H : Hp} {d : Nat} {ty : TypeId} {pos : String} {af : Array Edge} {g : Option (Nat × Bool)}
theorem s_yieldo {β : Type} {val : β → List Value} {own : β → Hp} {x : Operand} {args : List Operand} {ats : Array TypeId} {yv : Value} {S : List β → Prop} {inv : List β → Hp → Prop} {stop : Hp → Prop} {done : List β} {X : β} {T A : Hp}
    (hY : YKo val own C.P C.e yv S inv stop) (hex : ∃ rest, S (done ++ X :: rest)) (hi : inv done T) (h1 : ∀ T', inv (done ++ [X]) T' → wpO C ops Q rest (upd ρ d (.bool true)) ds (A ++ T')) (h2 : ∀ T', stop T' → wpO C ops Q rest (upd ρ d (.bool false)) ds (A ++ T'))
    (hp : H.Perm (A ++ (own X ++ T))) (hx : ev ρ x = yv := by (conv => lhs; whnf)) (ha : EvL ρ args (val X) := by (repeat (first | exact EvL.nil | (apply EvL.cons; (conv => lhs; whnf))))) (hw : wantV C.N ops ρ ⟨some d, .call ⟨.value x, args.toArray, ats⟩, ty, pos, af, g⟩ = true := by exact rfl) (hd : Nat.blt d C.N = true := by exact rfl) :
    wpO C ops Q (⟨some d, .call ⟨.value x, args.toArray, ats⟩, ty, pos, af, g⟩ :: rest) ρ ds H :=
  wpO_exs hw hd (ex_callV hx ha (valK_perm hp (valK_mono (hY done X T A hex hi) (by
    rintro b H' (⟨rfl, T', hinv, hd⟩ | ⟨rfl, T', hst, hd⟩)
    · exact wpO_drp hd (h1 T' hinv)
    · exact wpO_drp hd (h2 T' hst)))))
end
end Go.Vl
