/-
  Steps of the proof: Vw, Va.
-/
import Derived.Test.YtpegidbkplgplaaGreatQ03
import Derived.Laws.StructEq
import Derived.Laws.AppendOwn
namespace Go.Vl
open Go.RowKit

/-! ### Blocks found by classes -/
class Has (H : Hp) (b : Nat) (o : outParam Obj) : Prop where
  mem : (b, o) ∈ H
instance has_head {b : Nat} {o : Obj} {R : Hp} : Has ((b, o) :: R) b o := ⟨List.mem_cons_self⟩
instance has_tail {x : Nat × Obj} {b : Nat} {o : Obj} {R : Hp} [h : Has R b o] : Has (x :: R) b o := ⟨List.mem_cons_of_mem _ h.mem⟩
instance has_left {b : Nat} {o : Obj} {A B : Hp} [h : Has A b o] : Has (A ++ B) b o := ⟨List.mem_append_left _ h.mem⟩
instance has_right {b : Nat} {o : Obj} {A B : Hp} [h : Has B b o] : Has (A ++ B) b o := ⟨List.mem_append_right _ h.mem⟩
class Zp (H : Hp) (b : Nat) (o : outParam Obj) (f : outParam (Obj → Hp)) : Prop where
  zip : Zip H b o f
instance zp_head {b : Nat} {o : Obj} {R : Hp} : Zp ((b, o) :: R) b o (fun o' => (b, o') :: R) := ⟨.head⟩
instance zp_tail {x : Nat × Obj} {b : Nat} {o : Obj} {R : Hp} {f : Obj → Hp} [h : Zp R b o f] : Zp (x :: R) b o (fun o' => x :: f o') := ⟨.tail h.zip⟩
instance zp_left {b : Nat} {o : Obj} {A B : Hp} {f : Obj → Hp} [h : Zp A b o f] : Zp (A ++ B) b o (fun o' => f o' ++ B) := ⟨.inl h.zip⟩
instance zp_right {b : Nat} {o : Obj} {A B : Hp} {f : Obj → Hp} [h : Zp B b o f] : Zp (A ++ B) b o (fun o' => A ++ f o') := ⟨.inr h.zip⟩
class Pk (H : Hp) (b : Nat) (o : outParam Obj) (R : outParam Hp) : Prop where
  pick : Pick H (b, o) R
instance pk_head {b : Nat} {o : Obj} {R : Hp} : Pk ((b, o) :: R) b o R := ⟨.head⟩
instance pk_tail {x : Nat × Obj} {b : Nat} {o : Obj} {R R' : Hp} [h : Pk R b o R'] : Pk (x :: R) b o (x :: R') := ⟨.tail h.pick⟩
instance pk_left {b : Nat} {o : Obj} {A A' B : Hp} [h : Pk A b o A'] : Pk (A ++ B) b o (A' ++ B) := ⟨.inl h.pick⟩
instance (priority := 1100) pk_last {b : Nat} {o : Obj} {B : Hp} : Pk ([(b, o)] ++ B) b o B := ⟨.head⟩
instance pk_right {b : Nat} {o : Obj} {A B B' : Hp} [h : Pk B b o B'] : Pk (A ++ B) b o (A ++ B') := ⟨.inr h.pick⟩
/-- a part of the list taken out -/
class Rm (H Bs : Hp) (R : outParam Hp) : Prop where
  perm : H.Perm (Bs ++ R)
theorem perm_swap (X Y Z : Hp) : (X ++ (Y ++ Z)).Perm (Y ++ (X ++ Z)) := by
  rw [← List.append_assoc, ← List.append_assoc]
  exact List.perm_append_comm.append_right Z
instance rm_all {Bs : Hp} : Rm Bs Bs [] := ⟨by simp⟩
instance (priority := 1200) rm_nil {H : Hp} : Rm H [] H := ⟨.refl _⟩
instance rm_here {Bs R : Hp} : Rm (Bs ++ R) Bs R := ⟨.refl _⟩
instance rm_tail {x : Nat × Obj} {R Bs R' : Hp} [h : Rm R Bs R'] : Rm (x :: R) Bs (x :: R') := ⟨(h.perm.cons x).trans List.perm_middle.symm⟩
instance rm_left {A B Bs A' : Hp} [h : Rm A Bs A'] : Rm (A ++ B) Bs (A' ++ B) := ⟨by rw [← List.append_assoc]; exact h.perm.append_right B⟩
instance rm_right {A B Bs B' : Hp} [h : Rm B Bs B'] : Rm (A ++ B) Bs (A ++ B') := ⟨(h.perm.append_left A).trans (perm_swap _ _ _)⟩

class Sbs (A B : Hp) : Prop where
  sub : Subs A B
instance (priority := 1200) sbs_refl {A : Hp} : Sbs A A := ⟨fun _ h => h⟩
instance (priority := 1150) sbs_nil {B : Hp} : Sbs [] B := ⟨fun _ h => by cases h⟩
instance (priority := 1100) sbs_append {A A' B : Hp} [h : Sbs A B] [h' : Sbs A' B] : Sbs (A ++ A') B := ⟨fun x hx => (List.mem_append.1 hx).elim (h.sub x) (h'.sub x)⟩
instance (priority := 1050) sbs_cons {A B : Hp} {b : Nat} {o : Obj} [h : Has B b o] [h' : Sbs A B] : Sbs ((b, o) :: A) B := ⟨fun x hx => (List.mem_cons.1 hx).elim (fun e => e ▸ h.mem) (h'.sub x)⟩
instance sbs_skip {A B : Hp} {x : Nat × Obj} [h : Sbs A B] : Sbs A (x :: B) := ⟨fun y hy => List.mem_cons_of_mem _ (h.sub y hy)⟩
instance sbs_left {A B D : Hp} [h : Sbs A B] : Sbs A (B ++ D) := ⟨fun y hy => List.mem_append_left _ (h.sub y hy)⟩
instance sbs_right {A B D : Hp} [h : Sbs A D] : Sbs A (B ++ D) := ⟨fun y hy => List.mem_append_right _ (h.sub y hy)⟩
inductive Pcs : Hp → Hp → Hp → Prop
  | nil {H : Hp} : Pcs H [] H
  | cons {H R R' xs : Hp} {b : Nat} {o : Obj} (h : Pk H b o R) (t : Pcs R xs R') : Pcs H ((b, o) :: xs) R'
  | app {H A B R R' : Hp} (h : Pcs H A R) (t : Pcs R B R') : Pcs H (A ++ B) R'
  | blk {H Bs R : Hp} (h : Rm H Bs R) : Pcs H Bs R
theorem Pcs.perm {H xs R : Hp} (h : Pcs H xs R) : H.Perm (xs ++ R) := by
  induction h with
  | nil => exact .refl _
  | cons h _ ih => exact h.pick.perm.trans (ih.cons _)
  | app _ _ ih1 ih2 => rw [List.append_assoc]; exact ih1.trans (ih2.append_left _)
  | blk h => exact h.perm
theorem via_pcs {P : Program} {e : World} {f : FuncId} {args : Array Value} {H xs R : Hp} {K : Value → Hp → Prop} (h : callsK P e f args (xs ++ R) K) (hp : Pcs H xs R) : callsK P e f args H K := callsK_perm hp.perm h
theorem drop_pcs {K : Value → Hp → Prop} {v : Value} {R xs R2 : Hp} (h : K v xs) (hp : Pcs R xs R2) : Drop K v R := ⟨xs, R2, hp.perm, h⟩
theorem drp_pcs {R xs R2 : Hp} (hp : Pcs R xs R2) : Drp xs R := ⟨R2, hp.perm⟩

/-- A region that draws its order; xs: the blocks that it turns midway. -/
theorem wpC_drawX {C : Cx} {Q : Post} {ρ : Fr} {ds : List Nat} {H R : Hp} {id : Nat} {ops : Array Oper} (xs : Hp) (pl : List Nat) (hm : C.P.follows .mixedOrders = true)
    (hp : (planOK ops pl (Array.replicate ops.size false) && Region.noSelect ops && Nat.ble pl.length ops.size) = true) (hpk : Pcs H xs R) (h : wpD C ops R Q pl ρ ds H) : wpC C (.region id ops true) Q ρ ds H :=
  wpC_draw R pl hm hp (hpk.perm.trans List.perm_append_comm) h

/-- of a list of blocks: the rows of cells of some types -/
class InL (T : TypeId) (Ts : List TypeId) : Prop where
  mem : T ∈ Ts
instance inl_head {T : TypeId} {Ts : List TypeId} : InL T (T :: Ts) := ⟨List.mem_cons_self⟩
instance inl_tail {T S : TypeId} {Ts : List TypeId} [h : InL T Ts] : InL T (S :: Ts) := ⟨List.mem_cons_of_mem _ h.mem⟩
class Kp (Ts : List TypeId) (H : Hp) (A B : outParam Hp) : Prop where
  perm : H.Perm (A ++ B)
instance (priority := 1200) kp_nil {Ts : List TypeId} : Kp Ts [] [] [] := ⟨.refl _⟩
instance (priority := 1200) kp_keep {Ts : List TypeId} {b : Nat} {cs : Array Value} {T : TypeId} {fz : Nat × Nat} {R A B : Hp} [InL T Ts] [h : Kp Ts R A B] : Kp Ts ((b, .cells cs T fz) :: R) ((b, .cells cs T fz) :: A) B := ⟨h.perm.cons _⟩
instance (priority := 1100) kp_drop {Ts : List TypeId} {x : Nat × Obj} {R A B : Hp} [h : Kp Ts R A B] : Kp Ts (x :: R) A (x :: B) := ⟨(h.perm.cons x).trans List.perm_middle.symm⟩
instance (priority := 1150) kp_app {Ts : List TypeId} {X Y A B A' B' : Hp} [h : Kp Ts X A B] [h' : Kp Ts Y A' B'] : Kp Ts (X ++ Y) (A ++ A') (B ++ B') :=
  ⟨(h.perm.append h'.perm).trans (by rw [List.append_assoc, List.append_assoc]; exact (perm_swap B A' B').append_left A)⟩
instance (priority := 100) kp_opaque {Ts : List TypeId} {X : Hp} : Kp Ts X [] X := ⟨.refl _⟩
theorem wpC_drawK {C : Cx} {Q : Post} {ρ : Fr} {ds : List Nat} {H A B : Hp} {id : Nat} {ops : Array Oper} (Ts : List TypeId) (pl : List Nat) (hm : C.P.follows .mixedOrders = true)
    (hp : (planOK ops pl (Array.replicate ops.size false) && Region.noSelect ops && Nat.ble pl.length ops.size) = true) (hpk : Kp Ts H A B) (h : wpD C ops A Q pl ρ ds H) : wpC C (.region id ops true) Q ρ ds H :=
  wpC_draw A pl hm hp hpk.perm h

/-! ### Operations that only reckon -/
def binV (P : Program) (op : BinOp) (t : TypeId) : Value → Value → Option Value
  | .int k a, .int k' b => if k = k' then
      match op with
      | .lss => some (.bool (decide (a < b)))
      | .leq => some (.bool (decide (a ≤ b)))
      | .gtr => some (.bool (decide (b < a)))
      | .geq => some (.bool (decide (b ≤ a)))
      | .eql => some (.bool (decide (a = b)))
      | .neq => some (.bool (decide (a ≠ b)))
      | _ => none
    else none
  | .string a, .string b =>
      match op with
      | .eql => some (.bool (decide (a = b)))
      | .neq => some (.bool (decide (a ≠ b)))
      | .lss => some (.bool (Op.bytesLess a.toList b.toList))
      | _ => none
  | .bool a, .bool b =>
    match P.underlying t with
    | some .bool => match op with
      | .eql => some (.bool (decide (a = b)))
      | .neq => some (.bool (decide (a ≠ b)))
      | _ => none
    | _ => none
  | .pointer x, .pointer none =>
    match P.underlying t with
    | some (.pointer _) => match op with
      | .eql => some (.bool x.isNone)
      | .neq => some (.bool (!x.isNone))
      | _ => none
    | _ => none
  | .map x, .map none =>
    match P.underlying t with
    | some (.map _ _) => match op with
      | .eql => some (.bool x.isNone)
      | .neq => some (.bool (!x.isNone))
      | _ => none
    | _ => none
  | .slice x _ _, .slice none _ _ =>
    match P.underlying t with
    | some (.slice _) => match op with
      | .eql => some (.bool x.isNone)
      | .neq => some (.bool (!x.isNone))
      | _ => none
    | _ => none
  | _, _ => none

theorem str_beq (a b : ByteArray) : (a.toList == b.toList) = decide (a = b) := by rw [← beq_toListBytes, ba_beq]
section
variable {P : Program} {e : World} {ρ : Fr} {H : Hp} {d : Option Nat} {ty : TypeId} {pos : String} {af : Array Edge} {g : Option (Nat × Bool)}
theorem rd_bin {op : BinOp} {t yt : TypeId} {x y : Operand} {X Y v : Value} (hx : ev ρ x = X) (hy : ev ρ y = Y) (hg : eqGuard op t x y X Y = pure ()) (h : ∀ w : World, (binOp op t X Y).run P w = .ok v w) :
    Rd P e ρ H ⟨d, .binOp op t x y yt, ty, pos, af, g⟩ v := fun w _ => by
  show Sem.run P (do pure (Next.value (← (do eqGuard op t x y (ev ρ x) (ev ρ y); binOp op t (ev ρ x) (ev ρ y))))) w = _
  rw [hx, hy, hg, Sem.run_bind, Sem.run_bind, Sem.run_pure, Result.andThen_ok, h w]
  rfl
theorem eqGuard_plain {op : BinOp} {t : TypeId} {x y : Operand} {X Y : Value} (h : match X with | .nilIface => False | .agg _ => False | _ => True) : eqGuard op t x y X Y = pure () := by
  cases X <;> first | exact h.elim | (cases op <;> rfl)

theorem binV_run {op : BinOp} {t : TypeId} {X Y v : Value} (h : binV P op t X Y = some v) : (∀ (x y : Operand), eqGuard op t x y X Y = pure ()) ∧ ∀ w : World, (binOp op t X Y).run P w = .ok v w := by
  have hnil : ∀ {A B : Value} {c : Bool}, (∀ w : World, (Op.equalIn (9999 + 1) t A B).run P w = .ok c w) → ∀ w : World, ((do pure (.bool (← Op.equal t A B))) : Sem Value).run P w = .ok (.bool c) w ∧ ((do pure (.bool (!(← Op.equal t A B)))) : Sem Value).run P w = .ok (.bool (!c)) w := fun he w => by
    have h1 : (Op.equal t _ _).run P w = .ok _ w := he w
    constructor
    · simp only [Sem.run_bind, h1, Result.andThen_ok, Sem.run_pure]
    · simp only [Sem.run_bind, h1, Result.andThen_ok, Sem.run_pure]
  unfold binV at h
  split at h
  · split at h
    · rename_i k a k' b hk
      subst hk
      refine ⟨fun _ _ => eqGuard_plain trivial, fun w => ?_⟩
      split at h
      · cases h; simp [binOp, Op.intCmp]
      · cases h; simp [binOp, Op.intCmp]
      · cases h; simp [binOp, Op.intCmp]
      · cases h; simp [binOp, Op.intCmp]
      · cases h
        have : (a == b) = decide (a = b) := by rw [Bool.eq_iff_iff]; simp
        simp [binOp, Op.intCmp, this]
      · cases h
        have : (a != b) = decide (a ≠ b) := by rw [Bool.eq_iff_iff]; simp
        simp [binOp, Op.intCmp, this]
      · cases h
    · cases h
  · rename_i a b
    refine ⟨fun _ _ => eqGuard_plain trivial, fun w => ?_⟩
    split at h
    · cases h; simp [binOp, Op.stringOp, str_beq]
    · cases h; simp [binOp, Op.stringOp, str_beq]
    · cases h; simp [binOp, Op.stringOp]
    · cases h
  · rename_i a b
    refine ⟨fun _ _ => eqGuard_plain trivial, fun w => ?_⟩
    split at h
    · rename_i hu
      have he : ∀ w : World, (Op.equalIn (9999 + 1) t (.bool a) (.bool b)).run P w = .ok (decide (a = b)) w := fun w => by
        have : (a == b) = decide (a = b) := by rw [Bool.eq_iff_iff]; simp
        unfold Op.equalIn; simp only [Sem.run_bind, underlying_run hu, Result.andThen_ok]; rw [← this]; rfl
      split at h
      · cases h; exact (hnil he w).1
      · cases h
        have h2 := (hnil he w).2
        have h3 : decide (a ≠ b) = !decide (a = b) := by simp
        rw [h3]; exact h2
      · cases h
    · cases h
  · rename_i x
    refine ⟨fun _ _ => eqGuard_plain trivial, fun w => ?_⟩
    split at h
    · rename_i el hu
      have he : ∀ w : World, (Op.equalIn (9999 + 1) t (.pointer x) (.pointer none)).run P w = .ok x.isNone w := fun w => by
        unfold Op.equalIn; simp only [Sem.run_bind, underlying_run hu, Result.andThen_ok]; cases x <;> rfl
      split at h
      · cases h; exact (hnil he w).1
      · cases h; exact (hnil he w).2
      · cases h
    · cases h
  · rename_i x
    refine ⟨fun _ _ => eqGuard_plain trivial, fun w => ?_⟩
    split at h
    · rename_i kt et hu
      have he : ∀ w : World, (Op.equalIn (9999 + 1) t (.map x) (.map none)).run P w = .ok x.isNone w := fun w => by
        unfold Op.equalIn; simp only [Sem.run_bind, underlying_run hu, Result.andThen_ok]; cases x <;> rfl
      split at h
      · cases h; exact (hnil he w).1
      · cases h; exact (hnil he w).2
      · cases h
    · cases h
  · rename_i x n c n' c'
    refine ⟨fun _ _ => eqGuard_plain trivial, fun w => ?_⟩
    split at h
    · rename_i el hu
      have he : ∀ w : World, (Op.equalIn (9999 + 1) t (.slice x n c) (.slice none n' c')).run P w = .ok x.isNone w := fun w => by
        unfold Op.equalIn; simp only [Sem.run_bind, underlying_run hu, Result.andThen_ok]; cases x <;> rfl
      split at h
      · cases h; exact (hnil he w).1
      · cases h; exact (hnil he w).2
      · cases h
    · cases h
  · cases h

def minV : Value → Value → Option Value
  | .int k a, .int _ b => some (.int k (if b < a then b else a))
  | _, _ => none
def maxV : Value → Value → Option Value
  | .int k a, .int _ b => some (.int k (if a < b then b else a))
  | _, _ => none

def rdP (P : Program) (ρ : Fr) : Op → Option Value
  | .move x => some (ev ρ x)
  | .assign x => some (ev ρ x)
  | .pick c a b => match ev ρ c with
    | .bool true => some (ev ρ a)
    | .bool false => some (ev ρ b)
    | _ => none
  | .nilCheck x => match ev ρ x with
    | .pointer (some a) => some (.pointer (some a))
    | _ => none
  | .fieldAddr s x f => match ev ρ x with
    | .pointer (some ⟨b, o, none⟩) => match fldA P s f with
      | some off => some (.pointer (some ⟨b, o + off, none⟩))
      | none => none
    | _ => none
  | .field s x f => match ev ρ x with
    | .agg cs => match fld P s f with
      | some (off, none) => cs[off]?
      | some (off, some n) => some (.agg (cs.extract off (off + n)))
      | none => none
    | _ => none
  | .extract x i => match ev ρ x with
    | .tuple vs => vs[i]?
    | _ => none
  | .unOp .not _ x => match ev ρ x with
    | .bool b => some (.bool (!b))
    | _ => none
  | .binOp op t x y _ => binV P op t (ev ρ x) (ev ρ y)
  | .call { callee := .builtin .len, args, argTypes } => match args.toList, argTypes[0]? with
    | [x], some t => match ev ρ x, P.underlying t with
      | .slice _ n _, some (.slice _) => some (.int .i64 n)
      | .string s, some .string => some (.int .i64 s.size)
      | _, _ => none
    | _, _ => none
  | .call { callee := .builtin .min, args, argTypes := _ } => match args.toList with
    | [x, y] => minV (ev ρ x) (ev ρ y)
    | _ => none
  | .call { callee := .builtin .max, args, argTypes := _ } => match args.toList with
    | [x, y] => maxV (ev ρ x) (ev ρ y)
    | _ => none
  | _ => none

theorem rdP_sound {op : Op} {v : Value} (h : rdP P ρ op = some v) : Rd P e ρ H ⟨d, op, ty, pos, af, g⟩ v := by
  unfold rdP at h
  split at h
  · cases h; exact rd_move rfl
  · cases h; exact rd_assign rfl
  · split at h
    · rename_i hc; cases h; exact rd_pick_t hc rfl
    · rename_i hc; cases h; exact rd_pick_f hc rfl
    · cases h
  · split at h
    · rename_i hx; cases h; exact rd_nilCheck hx
    · cases h
  · split at h
    · rename_i hx
      split at h
      · rename_i hf; cases h; exact rd_fieldAddr hx hf
      · cases h
    · cases h
  · split at h
    · rename_i hx
      split at h
      · rename_i hf; exact rd_field hx hf h
      · rename_i hf; cases h; exact rd_fieldN hx hf
      · cases h
    · cases h
  · split at h
    · rename_i hx; exact rd_extract hx h
    · cases h
  · split at h
    · rename_i hx; cases h; exact rd_not hx
    · cases h
  · obtain ⟨h1, h2⟩ := binV_run h
    exact rd_bin rfl rfl (h1 _ _) h2
  · rename_i args ats
    split at h
    · rename_i x t hx ht
      obtain ⟨l⟩ := args
      simp only at hx
      subst hx
      split at h
      · rename_i hv hu; cases h; exact rd_len_slice hv ht hu
      · rename_i hv hu; cases h; exact rd_len_string hv ht hu
      · cases h
    · cases h
  · rename_i args ats
    split at h
    · rename_i x y hx
      obtain ⟨l⟩ := args
      simp only at hx
      subst hx
      unfold minV at h
      split at h
      · rename_i ha hb
        cases h
        intro w _
        simp [execOp, resolve, invoke, Go.builtin, Builtin.min_, Builtin.min2, ha, hb]
      · cases h
    · cases h
  · rename_i args ats
    split at h
    · rename_i x y hx
      obtain ⟨l⟩ := args
      simp only at hx
      subst hx
      unfold maxV at h
      split at h
      · rename_i ha hb
        cases h
        intro w _
        simp [execOp, resolve, invoke, Go.builtin, Builtin.max_, Builtin.max2, ha, hb]
      · cases h
    · cases h
  · cases h
end

theorem rd_makeFuncE {P : Program} {e : World} {ρ : Fr} {H : Hp} {d : Option Nat} {ty : TypeId} {pos : String} {af : Array Edge} {g : Option (Nat × Bool)} {fn : Fn} {first captured : List Operand} {f' c' : List Value} (h1 : EvL ρ first f') (h2 : EvL ρ captured c') :
    Rd P e ρ H ⟨d, .makeFunc fn first.toArray captured.toArray, ty, pos, af, g⟩ (.func fn f'.toArray c'.toArray) := rd_makeFunc (by rw [← h1.map]; simp) (by rw [← h2.map]; simp)
/-! ### A loop: the frame is kept but for the slots in W -/
def inW : List Nat → Nat → Bool
  | [], _ => false
  | w :: ws, t => bif Nat.beq t w then true else inW ws t
def mix (W : List Nat) (ρ ρx : Fr) : Fr := fun t => bif inW W t then ρx t else ρ t
def Agr (W : List Nat) (ρ ρ' : Fr) : Prop := ∀ t, inW W t = false → ρ' t = ρ t
theorem agr_refl {W : List Nat} {ρ : Fr} : Agr W ρ ρ := fun _ _ => rfl
theorem agr_mix {W : List Nat} {ρ ρx : Fr} : Agr W ρ (mix W ρ ρx) := fun t h => by unfold mix; rw [h]; rfl
theorem agr_upd {W : List Nat} {ρ ρ' : Fr} {d : Nat} {v : Value} (hd : inW W d = true) (h : Agr W ρ ρ') : Agr W ρ (upd ρ' d v) := fun t ht => by
  rw [upd_other]
  · exact h t ht
  · rintro rfl; rw [hd] at ht; cases ht
/-- an inner loop's slots are among the outer one's -/
theorem agr_mixIn {W W' : List Nat} {ρ ρ' ρx : Fr} (hW : (W'.all fun t => inW W t) = true) (h : Agr W ρ ρ') : Agr W ρ (mix W' ρ' ρx) := fun t ht => by
  unfold mix
  cases h' : inW W' t with
  | false => exact h t ht
  | true =>
    have key : ∀ (L : List Nat), (L.all fun t => inW W t) = true → inW L t = true → inW W t = true := by
      intro L
      induction L with
      | nil => intro _ h; cases h
      | cons a L ih =>
        intro hL hx
        rw [List.all_cons, Bool.and_eq_true] at hL
        unfold inW at hx
        cases hb : Nat.beq t a with
        | true => rw [Nat.eq_of_beq_eq_true hb]; exact hL.1
        | false => rw [hb] at hx; exact ih hL.2 hx
    have := key W' hW h'
    rw [ht] at this
    cases this
theorem mix_of {W : List Nat} {ρ ρ' : Fr} (h : Agr W ρ ρ') : mix W ρ ρ' = ρ' := by
  funext t
  unfold mix
  cases hw : inW W t with
  | true => rfl
  | false => exact (h t hw).symm

structure LpEnd {κ : Type} (W : List Nat) (S : κ → List (Nat × Value)) (F : κ → Hp) (ok : κ → Prop) (μ : κ → Nat) (ρ : Fr) (ds : List Nat) (n : Nat) (ρ' : Fr) (ds' : List Nat) (H' : Hp) (k' : κ) : Prop where
  less : μ k' < n
  good : ok k'
  sl : slots ρ' (S k')
  agr : Agr W ρ ρ'
  def' : ds' = ds
  hp : Drp (F k') H'

theorem wpC_loopA {C : Cx} {c : Code} {Q : Post} {ρ : Fr} {ds : List Nat} {H : Hp} {κ : Type} (W : List Nat) (S : κ → List (Nat × Value)) (F : κ → Hp) (ok : κ → Prop) (μ : κ → Nat) (k0 : κ) (hok : ok k0) (hS : slots ρ (S k0)) (hF : Drp (F k0) H)
    (round : ∀ k ρx, ok k → wpC C c (LoopPost Q (fun ρ' ds' H' => ∃ k', LpEnd W S F ok μ ρ ds (μ k) ρ' ds' H' k')) (setL (S k) (mix W ρ ρx)) ds (F k)) : wpC C (.loop c) Q ρ ds H := by
  intro a w ha hw b k cs hro hb hr
  have key : ∀ n κ0 ρ' a w, μ κ0 = n → ok κ0 → slots ρ' (S κ0) → Agr W ρ ρ' → Rel C.N a ρ' ds → Kn C.e w (F κ0) →
      ∃ x a' w', lift C Q x a' w' ∧ ArrivesIn (Machine.fenced C.P (fence C.r)) C.P (lone (b.atR a (.code c :: .inLoop c :: k)) cs w) b k cs x a' w' := by
    intro n
    induction n using Nat.strongRecOn with
    | _ n ih =>
      intro κ0 ρ' a w hn ho hs hagr ha hw
      have h1 := round κ0 ρ' ho
      rw [mix_of hagr, setL_self hs] at h1
      obtain ⟨x, a₁, w₁, ⟨ρ1, ds1, H1, r1, k1, hq⟩, harr⟩ := h1 a w ha hw b (.inLoop c :: k) cs hro hb hr
      by_cases hx : x = .normal
      · subst hx
        obtain ⟨κ1, hlt, ho1, hs1, hag1, rfl, G1, hp1⟩ := hq
        obtain ⟨x₂, a₂, w₂, hq₂, harr₂⟩ := ih (μ κ1) (hn ▸ hlt) κ1 ρ1 a₁ w₁ rfl ho1 hs1 hag1 r1 (k1.perm hp1).left
        exact ⟨x₂, a₂, w₂, hq₂, .of_steps (StepsIn.trans harr (.one (fenced_calm hb hr rfl) stepR_inLoop)) harr₂⟩
      · refine ⟨x, a₁, w₁, ⟨ρ1, ds1, H1, r1, k1, ?_⟩, .pass (x := .inLoop c) rfl (fun _ _ => .inl hx) harr⟩
        cases x <;> first | exact hq | exact (hx rfl).elim
  obtain ⟨x, a', w', hq, harr⟩ := key _ k0 ρ a w rfl hok hS agr_refl ha (let ⟨_, hp⟩ := hF; (hw.perm hp).left)
  exact ⟨x, a', w', hq, .of_steps (.one (fenced_calm hb hr rfl) stepR_loop) harr⟩

theorem lp_mk {κ : Type} {W : List Nat} {S : κ → List (Nat × Value)} {F : κ → Hp} {ok : κ → Prop} {μ : κ → Nat} {ρ : Fr} {ds : List Nat} {n : Nat} {ρ' : Fr} {ds' : List Nat} {H' : Hp} (k' : κ) (h1 : μ k' < n) (h2 : ok k') (h3 : slots ρ' (S k')) (h4 : Agr W ρ ρ') (h5 : ds' = ds) (h6 : Drp (F k') H') :
    ∃ k', LpEnd W S F ok μ ρ ds n ρ' ds' H' k' := ⟨k', h1, h2, h3, h4, h5, h6⟩
section
variable {C : Cx} {ops : Array Oper} {Hs : Hp} {Q : Post} {pl : List Nat} {rest : List Oper} {ρ : Fr} {ds : List Nat} {H : Hp} {i : Nat}
variable {op : Op} {ty : TypeId} {pos : String} {af : Array Edge} {d : Nat} {D : Option Nat}
theorem c_split {x y : Code} {o : Operand} {b : Bool} (hg : ev ρ o = .bool b) (h1 : b = true → wpC C x Q ρ ds H) (h2 : b = false → wpC C y Q ρ ds H) : wpC C (.cond o x y) Q ρ ds H := by
  cases b with
  | true => exact wpC_cond_true hg (h1 rfl)
  | false => exact wpC_cond_false hg (h2 rfl)
theorem s_split {j dj : Nat} {bb b : Bool} (hv : ρ dj = .bool b) (h1 : b = true → wpO C ops Q (⟨D, op, ty, pos, af, some (j, bb)⟩ :: rest) (upd ρ dj (.bool true)) ds H) (h2 : b = false → wpO C ops Q (⟨D, op, ty, pos, af, some (j, bb)⟩ :: rest) (upd ρ dj (.bool false)) ds H) :
    wpO C ops Q (⟨D, op, ty, pos, af, some (j, bb)⟩ :: rest) ρ ds H := by
  cases b with
  | true => have := h1 rfl; rwa [← hv, upd_self] at this
  | false => have := h2 rfl; rwa [← hv, upd_self] at this
theorem s_splitP {dj : Nat} {a c : Operand} {g : Option (Nat × Bool)} {b : Bool} (hv : ρ dj = .bool b) (h1 : b = true → wpO C ops Q (⟨D, .pick (.tmp dj) a c, ty, pos, af, g⟩ :: rest) (upd ρ dj (.bool true)) ds H)
    (h2 : b = false → wpO C ops Q (⟨D, .pick (.tmp dj) a c, ty, pos, af, g⟩ :: rest) (upd ρ dj (.bool false)) ds H) : wpO C ops Q (⟨D, .pick (.tmp dj) a c, ty, pos, af, g⟩ :: rest) ρ ds H := by
  cases b with
  | true => have := h1 rfl; rwa [← hv, upd_self] at this
  | false => have := h2 rfl; rwa [← hv, upd_self] at this
theorem d_split {dj : Nat} {b : Bool} (hv : ρ dj = .bool b) (h1 : b = true → wpD C ops Hs Q (i :: pl) (upd ρ dj (.bool true)) ds H) (h2 : b = false → wpD C ops Hs Q (i :: pl) (upd ρ dj (.bool false)) ds H) : wpD C ops Hs Q (i :: pl) ρ ds H := by
  cases b with
  | true => have := h1 rfl; rwa [← hv, upd_self] at this
  | false => have := h2 rfl; rwa [← hv, upd_self] at this
end
end Go.Vl

namespace Go.Vl
open Go.RowKit

/-- An owned slice: nil, or a block of its own; what its elements hold; the blocks. -/
def SlO (e : TypeId) (sz : Nat) (v : Value) (n : Nat) (xs : List Value) (Bs : Hp) : Prop :=
  xs.length = n * sz ∧ ((∃ a, v = .slice a 0 0 ∧ n = 0 ∧ Bs = []) ∨
    ∃ g cap cur, v = .slice (some ⟨g, 0, none⟩) n cap ∧ Bs = [(g, .cells cur e (0, 0))] ∧ n ≤ cap ∧ cap ≤ maxLen ∧ cap * sz ≤ cur.size ∧ cur.toList.take (n * sz) = xs)
theorem SlO.one {e : TypeId} {sz : Nat} {v : Value} {n : Nat} {xs : List Value} {Bs : Hp} (h : SlO e sz v n xs Bs) : v.oneCell' = true := by
  rcases h.2 with ⟨a, rfl, _⟩ | ⟨g, cap, cur, rfl, _⟩ <;> rfl
theorem SlO.nil (e : TypeId) (sz : Nat) : SlO e sz (.slice none 0 0) 0 [] [] := ⟨by simp, .inl ⟨none, rfl, rfl, rfl⟩⟩

theorem take_some {α : Type} {l : List α} {n j : Nat} {x : α} (h : (l.take n)[j]? = some x) : l[j]? = some x := by
  rw [List.getElem?_take] at h
  split at h
  · exact h
  · cases h

theorem SlO.inSl {e : TypeId} {sz : Nat} {v : Value} {rows : List (List Value)} {Bs F : Hp} (h : SlO e sz v rows.length rows.flatten Bs) (hr : ∀ r ∈ rows, r.length = sz ∧ ones r = true) : InSl (Bs ++ F) sz rows v := by
  rcases h.2 with ⟨a, rfl, h0, rfl⟩ | ⟨g, cap, cur, rfl, rfl, hn, hc, hs, ht⟩
  · have : rows = [] := List.eq_nil_of_length_eq_zero h0
    subst this
    exact .nil
  · refine ⟨some ⟨g, 0, none⟩, cap, rfl, hn, hr, .inr ⟨g, 0, cur, e, (0, 0), rfl, by simp, h.1, fun j v hj => ?_⟩⟩
    rw [← ht] at hj
    have h2 := take_some hj
    rw [Array.getElem?_toList] at h2
    simpa using h2

section
variable {C : Cx} {ρ : Fr} {H : Hp} {d : Option Nat} {ty : TypeId} {pos : String} {af : Array Edge} {g : Option (Nat × Bool)} {K : Value → Hp → Prop}
theorem ex_append {x y : Operand} {t e : TypeId} {i : TypeInfo} {z : Value} {sz bytes : Nat} {v : Value} {n : Nat} {xs : List Value} {Bs R : Hp} {b o m c : Nat} {cs : Array Value} {T : TypeId} {fz : Nat × Nat} {news : List Value}
    (hx : ev ρ x = v) (hy : ev ρ y = .slice (some ⟨b, o, none⟩) m c) (ht : C.P.underlying t = some (.slice e)) (hi : C.P.info? e = some i) (hz : i.zero = some z) (hsize : i.size = sz) (hby : i.bytes = bytes) (hzs : z.cells.size = sz) (hsz : 0 < sz)
    (hS : SlO e sz v n xs Bs) (hp : H.Perm (Bs ++ R)) (hm : (b, Obj.cells cs T fz) ∈ H) (hr : RowAt cs o (m * sz) news) (h1 : ∀ u ∈ news, u.oneCell' = true) (h63 : n + m ≤ maxLen) (hbytes : (n + m) * bytes ≤ 140737488355328)
    (h : ∀ v' Bs', SlO e sz v' (n + m) (xs ++ news) Bs' → K v' (Bs' ++ R)) : Ex C ⟨d, .call ⟨.builtin .append, #[x, y], #[t, t]⟩, ty, pos, af, g⟩ K ρ H := fun w hw => by
  subst hsize
  subst hby
  have hw1 := hw.perm hp
  have hl := hr.1
  have hnews : ∀ j u, news[j]? = some u → w.cell? ((⟨b, o, none⟩ : Addr).add j) = some u := fun j u hj => by
    rw [addr_add, cell_kn hw hm]
    exact hr.2 j u hj
  have hex : ∀ {v' : Value} {w' : World}, (Builtin.append_ #[t, t] ty #[v, .slice (some ⟨b, o, none⟩) m c]).run C.P w = .ok v' w' → (∃ Bs', Kn C.e w' (Bs' ++ R) ∧ SlO e i.size v' (n + m) (xs ++ news) Bs') →
      resOK C K ((execOp (ev ρ) ⟨d, .call ⟨.builtin .append, #[x, y], #[t, t]⟩, ty, pos, af, g⟩).run C.P w) := by
    intro v' w' hrun ⟨Bs', hk, hs⟩
    have : (execOp (ev ρ) ⟨d, .call ⟨.builtin .append, #[x, y], #[t, t]⟩, ty, pos, af, g⟩).run C.P w = .ok (.value v') w' := by
      rw [← hx, ← hy] at hrun
      simp [execOp, resolve, invoke, Go.builtin, hrun]
    rw [this]
    exact ⟨_, hk, h v' Bs' hs⟩
  have hsmall : n + m ≤ 9223372036854775807 := by simp only [maxLen] at h63; omega
  have hlen : (xs ++ news).length = (n + m) * i.size := by rw [List.length_append, hS.1, hl, Nat.add_mul]
  have hRk : Kn C.e w R := ⟨hw1.os, hw1.tape, hw1.output, by have := hw1.nodup; rw [List.map_append] at this; exact (List.nodup_append.1 this).2.1, fun x hx => hw1.has x (List.mem_append_right _ hx)⟩
  have grown : ∀ (old : Nat), old < n + m → Kn C.e (w.drew.alloc (.cells (xs.toArray ++ news.toArray ++ Builtin.zeroCells z.cells (grownCap w (n + m) old e - (n + m))) e)) ([(w.heap.size, Obj.cells (xs.toArray ++ news.toArray ++ Builtin.zeroCells z.cells (grownCap w (n + m) old e - (n + m))) e (0, 0))] ++ R) ∧
      SlO e i.size (.slice (some ⟨w.heap.size, 0, none⟩) (n + m) (grownCap w (n + m) old e)) (n + m) (xs ++ news) [(w.heap.size, Obj.cells (xs.toArray ++ news.toArray ++ Builtin.zeroCells z.cells (grownCap w (n + m) old e - (n + m))) e (0, 0))] := by
    intro old ho
    have hge := grownCap_ge w (n + m) old e
    have hcm : grownCap w (n + m) old e ≤ maxLen := grownCap_le_maxLen w (n + m) old e h63
    refine ⟨(hRk.drawn w.drew.drawn).alloc _, hlen, .inr ⟨w.heap.size, _, _, rfl, rfl, hge, hcm, ?_, ?_⟩⟩
    · simp only [Array.size_append, List.size_toArray, size_zeroCells, hzs, hS.1, hl, ← Nat.add_mul]
      apply Nat.le_of_eq
      congr 1
      omega
    · simp only [Array.toList_append, List.append_assoc]
      rw [← List.append_assoc, ← hlen]
      exact List.take_left
  rcases hS.2 with ⟨a0, rfl, rfl, rfl⟩ | ⟨gb, cap, cur, rfl, rfl, hnc, hcm, hcs, htake⟩
  · have hxe : xs = [] := List.eq_nil_of_length_eq_zero (by simpa using hS.1)
    subst hxe
    by_cases hm0 : m = 0
    · subst hm0
      have hn : news = [] := List.eq_nil_of_length_eq_zero (by simpa using hl)
      subst hn
      refine hex (v' := .slice a0 0 0) (w' := w) ?_ ⟨[], hRk, by simp, .inl ⟨a0, rfl, rfl, rfl⟩⟩
      cases a0 <;> simp [Builtin.append_, run_underlying ht, sizeOf, typeInfo, hi, Builtin.lenOf, Builtin.firstCells, loadCells, loadCellsFrom, storeCells]
    · have hgr := grown 0 (by omega)
      simp only [Nat.zero_add, List.nil_append, Array.empty_append] at hgr
      cases a0 with
      | none =>
        have hr := run_append_nil (P := C.P) w t ty e i z ht hi hz ⟨b, o, none⟩ m c news hl hnews (by omega) (by omega) (by have hb := hbytes; simp only [Nat.zero_add] at hb; omega)
        exact hex hr ⟨_, hgr.1, by simpa using hgr.2⟩
      | some a1 =>
        have hr := run_append_grow (P := C.P) w t ty e i z ht hi hz a1 0 0 [] (by simp) (by simp) ⟨b, o, none⟩ m c news hl hnews (by omega) (by omega) (growslice_fits (by omega) hbytes)
        simp only [Nat.zero_add, Array.empty_append] at hr
        exact hex hr ⟨_, hgr.1, by simpa using hgr.2⟩
  · have hg : w.heap[gb]? = some (.cells cur e (0, 0)) := hw1.has (gb, .cells cur e (0, 0)) List.mem_cons_self
    by_cases hroom : n + m ≤ cap
    · have hfit : n * i.size + news.length ≤ cur.size := by rw [hl, ← Nat.add_mul]; exact Nat.le_trans (Nat.mul_le_mul_right _ hroom) hcs
      have hr := run_append_room (P := C.P) w t ty e i ht hi gb n cap cur hg ⟨b, o, none⟩ m c news hl hnews h1 hroom hfit
      refine hex hr ⟨[(gb, .cells (cur.toList.take (n * i.size) ++ news ++ cur.toList.drop (n * i.size + news.length)).toArray e (0, 0))], ?_, ⟨hlen, .inr ⟨gb, cap, _, rfl, rfl, hroom, hcm, ?_, ?_⟩⟩⟩
      · exact hw1.set (f := fun o => (gb, o) :: R) .head rfl rfl rfl (setRow_heap w gb cur _ e _ hg) fun k hk => setRow_other w gb k _ hk
      · simp only [List.size_toArray, List.length_append, List.length_take, List.length_drop, Array.length_toList]
        omega
      · rw [htake, ← hlen]
        exact List.take_left
    · have holds : ∀ j u, xs[j]? = some u → w.cell? ((⟨gb, 0, none⟩ : Addr).add j) = some u := fun j u hj => by
        rw [addr_add]
        rw [← htake] at hj
        have h2 := take_some hj
        rw [Array.getElem?_toList] at h2
        simpa [World.cell?, hg] using h2
      have hr := run_append_grow (P := C.P) w t ty e i z ht hi hz ⟨gb, 0, none⟩ n cap xs hS.1 holds ⟨b, o, none⟩ m c news hl hnews (by omega) (by omega) (growslice_fits (by omega) hbytes)
      have hgr := grown cap (by omega)
      exact hex hr ⟨_, hgr.1, hgr.2⟩

/-- a slice literal's cells -/
def bldS0 (P : Program) (t : TypeId) (len : Nat) (parts : List (Nat × Value)) : Option (TypeId × List Value) :=
  match P.underlying t with
  | some (.slice e) => match sz P e, zval P e with
    | some n, some z => bif Nat.blt 0 (len * n) && Nat.ble (len * n) 16777216 then
        match fillL (fun i => some (i * n, n)) ((List.range (len * n)).map (z.cells[· % z.cells.size]!)) parts with
        | some l => some (e, l)
        | none => none
      else none
    | _, _ => none
  | _ => none
theorem ex_buildSlice0 {t : TypeId} {len : Nat} {parts : List (Nat × Operand)} {vs : List (Nat × Value)} {e : TypeId} {l : List Value} (hp : EvP ρ parts vs) (hb : bldS0 C.P t len vs = some (e, l))
    (h : ∀ b, K (.slice (some ⟨b, 0, none⟩) len len) ((b, cellsO l e) :: H)) : Ex C ⟨d, .buildSlice t len parts.toArray, ty, pos, af, g⟩ K ρ H := fun w hw => by
  have hparts : (parts.toArray.map fun (i, x) => (i, ev ρ x)) = vs.toArray := by rw [← hp.map]; simp
  have h0 : (Instr.buildSlice t len (parts.toArray.map fun (i, x) => (i, ev ρ x))).run C.P w = .ok (.slice (some ⟨w.heap.size, 0, none⟩) len len) (w.alloc (cellsO l e)) := by
    rw [hparts]
    unfold bldS0 at hb
    cases hu : C.P.underlying t with
    | none => rw [hu] at hb; cases hb
    | some x =>
      rw [hu] at hb
      cases x with
      | slice e' =>
        simp only at hb
        cases hs : sz C.P e' with
        | none => rw [hs] at hb; cases hb
        | some n =>
          cases hz : zval C.P e' with
          | none => rw [hs, hz] at hb; cases hb
          | some z =>
            rw [hs, hz] at hb
            simp only at hb
            cases hc : (Nat.blt 0 (len * n) && Nat.ble (len * n) 16777216) with
            | false => rw [hc] at hb; cases hb
            | true =>
              rw [hc] at hb
              simp only [cond_true] at hb
              rw [Bool.and_eq_true] at hc
              have c1 : 0 < len * n := by simpa [Nat.blt_eq] using hc.1
              have c2 : len * n ≤ 16777216 := Nat.le_of_ble_eq_true hc.2
              cases hf : fillL (fun i => some (i * n, n)) ((List.range (len * n)).map (z.cells[· % z.cells.size]!)) vs with
              | none => rw [hf] at hb; cases hb
              | some l' =>
                rw [hf] at hb
                simp only [Option.some.injEq, Prod.mk.injEq] at hb
                obtain ⟨rfl, rfl⟩ := hb
                have hf' := fill_of hf
                have e1 : ((List.range (len * n)).map (z.cells[· % z.cells.size]!)).toArray = (Array.range (len * n)).map (z.cells[· % z.cells.size]!) := by
                  apply Array.toList_inj.1
                  simp
                rw [e1] at hf'
                have c2' : ¬ (len * n > 2 ^ 24) := by omega
                have c1' : ¬ (len * n = 0) := by omega
                unfold Instr.buildSlice
                simp only [Sem.run_bind, underlying_run hu, Result.andThen_ok, sizeOf_run hs, c2', c1', if_false, zero_run hz, Sem.run_pure, hf', newRow, run_newObj_alloc]
      | _ => cases hb
  have h1 : (execOp (ev ρ) ⟨d, .buildSlice t len parts.toArray, ty, pos, af, g⟩).run C.P w = .ok (.value (.slice (some ⟨w.heap.size, 0, none⟩) len len)) (w.alloc (cellsO l e)) := by
    simp only [execOp, Sem.run_bind, h0, Result.andThen_ok]
    rfl
  rw [h1]
  exact ⟨_, hw.alloc _, h _⟩
theorem putL_mid : ∀ (vs pre post : List Value), vs.length ≤ post.length → putL (pre ++ post) pre.length vs = pre ++ vs ++ post.drop vs.length
  | [], pre, post, _ => by simp [putL]
  | v :: vs, pre, [], h => by simp at h
  | v :: vs, pre, p :: post, h => by
    have h1 := putL_mid vs (pre ++ [v]) post (by simpa using h)
    have e1 : (pre ++ p :: post).set pre.length v = (pre ++ [v]) ++ post := by simp
    show putL ((pre ++ p :: post).set pre.length v) (pre.length + 1) vs = _
    rw [e1]
    simpa using h1
def fullP (n : Nat) : Nat → List (Nat × Value) → Bool
  | _, [] => true
  | k, p :: ps => Nat.beq p.1 k && Nat.beq (valL p.2).length n && fullP n (k + 1) ps
theorem fillL_full {n : Nat} : ∀ (ps : List (Nat × Value)) (k : Nat) (pre post : List Value), fullP n k ps = true → pre.length = k * n → post.length = ps.length * n →
    fillL (fun i => some (i * n, n)) (pre ++ post) ps = some (pre ++ ps.flatMap fun p => valL p.2)
  | [], k, pre, post, _, _, hp => by
    have : post = [] := List.eq_nil_of_length_eq_zero (by simpa using hp)
    subst this
    simp [fillL]
  | p :: ps, k, pre, post, h, h1, h2 => by
    unfold fullP at h
    simp only [Bool.and_eq_true] at h
    obtain ⟨⟨ha, hb⟩, hc⟩ := h
    have ha := Nat.eq_of_beq_eq_true ha
    have hb := Nat.eq_of_beq_eq_true hb
    obtain ⟨i, v⟩ := p
    simp only at ha hb
    subst ha
    rw [List.length_cons, Nat.succ_mul] at h2
    have h3 := putL_mid (valL v) pre post (by omega)
    have h4 := fillL_full ps (i + 1) (pre ++ valL v) (post.drop (valL v).length) hc (by simp [h1, hb, Nat.succ_mul]) (by simp [h2, hb])
    have e1 : Nat.beq (valL v).length n = true := by rw [hb]; exact Nat.beq_refl n
    have e2 : Nat.ble (i * n + (valL v).length) (pre ++ post).length = true := by
      rw [Nat.ble_eq, List.length_append, h1, h2, hb]
      omega
    simp only [fillL, e1, e2, cond_true]
    rw [← h1, h3, h4]
    simp
/-- a slice literal with all of its elements, in order -/
def bldS (P : Program) (t : TypeId) (len : Nat) (parts : List (Nat × Value)) : Option TypeId :=
  match P.underlying t with
  | some (.slice e) => match sz P e, zval P e with
    | some n, some _ => bif Nat.blt 0 (len * n) && (Nat.ble (len * n) 16777216 && (Nat.beq parts.length len && fullP n 0 parts)) then some e else none
    | _, _ => none
  | _ => none
theorem bldS_full {P : Program} {t : TypeId} {len : Nat} {parts : List (Nat × Value)} {e : TypeId} (h : bldS P t len parts = some e) : bldS0 P t len parts = some (e, parts.flatMap fun p => valL p.2) := by
  unfold bldS at h
  unfold bldS0
  cases hu : P.underlying t with
  | none => rw [hu] at h; cases h
  | some x =>
    rw [hu] at h
    cases x with
    | slice e' =>
      simp only at h ⊢
      cases hs : sz P e' with
      | none => rw [hs] at h; cases h
      | some n =>
        cases hz : zval P e' with
        | none => rw [hs, hz] at h; cases h
        | some z =>
          rw [hs, hz] at h
          simp only at h ⊢
          cases hc : (Nat.blt 0 (len * n) && (Nat.ble (len * n) 16777216 && (Nat.beq parts.length len && fullP n 0 parts))) with
          | false => rw [hc] at h; cases h
          | true =>
            rw [hc] at h
            simp only [cond_true, Option.some.injEq] at h
            simp only [Bool.and_eq_true] at hc
            obtain ⟨c1, c2, c3, c4⟩ := hc
            have c3 := Nat.eq_of_beq_eq_true c3
            have h4 := fillL_full parts 0 [] ((List.range (len * n)).map (z.cells[· % z.cells.size]!)) c4 (by simp) (by simp [c3])
            simp only [List.nil_append] at h4
            simp only [c1, c2, Bool.and_self, cond_true, h4, h]
    | _ => cases h
theorem ex_buildSlice {t : TypeId} {len : Nat} {parts : List (Nat × Operand)} {vs : List (Nat × Value)} {e : TypeId} {l : List Value} (hp : EvP ρ parts vs) (hb : bldS C.P t len vs = some e) (hl : (vs.flatMap fun p => valL p.2) = l)
    (h : ∀ b, K (.slice (some ⟨b, 0, none⟩) len len) ((b, cellsO l e) :: H)) : Ex C ⟨d, .buildSlice t len parts.toArray, ty, pos, af, g⟩ K ρ H := by
  subst hl
  exact ex_buildSlice0 hp (bldS_full hb) h
end

/-- Blocks somewhere in the list's tail, and the list with others in their place. -/
inductive TSZ : Hp → Hp → (Hp → Hp) → Prop
  | here {Bs F : Hp} : TSZ (Bs ++ F) Bs (fun B => B ++ F)
  | skip {x : Nat × Obj} {R Bs : Hp} {f : Hp → Hp} (h : TSZ R Bs f) : TSZ (x :: R) Bs (fun B => x :: f B)
  | inl {R Bs A : Hp} {f : Hp → Hp} (h : TSZ R Bs f) : TSZ (R ++ A) Bs (fun B => f B ++ A)
  | inr {R Bs A : Hp} {f : Hp → Hp} (h : TSZ R Bs f) : TSZ (A ++ R) Bs (fun B => A ++ f B)
theorem TSZ.perm {H Bs : Hp} {f : Hp → Hp} (h : TSZ H Bs f) : H.Perm (Bs ++ f []) ∧ ∀ B, (B ++ f []).Perm (f B) := by
  induction h with
  | here => exact ⟨.refl _, fun B => .refl _⟩
  | skip _ ih => exact ⟨(ih.1.cons _).trans List.perm_middle.symm, fun B => List.perm_middle.trans ((ih.2 B).cons _)⟩
  | inl _ ih =>
    refine ⟨(ih.1.append_right _).trans (by rw [List.append_assoc]), fun B => ?_⟩
    rw [← List.append_assoc]
    exact (ih.2 B).append_right _
  | @inr R Bs A f _ ih =>
    have hc : ∀ (X Y Z : Hp), (X ++ (Y ++ Z)).Perm (Y ++ (X ++ Z)) := fun X Y Z => by
      rw [← List.append_assoc, ← List.append_assoc]
      exact List.perm_append_comm.append_right Z
    exact ⟨(ih.1.append_left A).trans (hc _ _ _), fun B => (hc _ _ _).trans ((ih.2 B).append_left A)⟩

theorem rowAt_all (l : List Value) : RowAt l.toArray 0 l.length l := ⟨rfl, fun j v h => by simpa using h⟩
section
variable {C : Cx} {ρ : Fr} {H : Hp} {d : Option Nat} {ty : TypeId} {pos : String} {af : Array Edge} {g : Option (Nat × Bool)} {K : Value → Hp → Prop}
end

section
variable {C : Cx} {ρ : Fr} {H : Hp} {d : Option Nat} {ty : TypeId} {pos : String} {af : Array Edge} {g : Option (Nat × Bool)} {K : Value → Hp → Prop}
/-- append, the owned blocks found by a class -/
theorem ex_appendR {x y : Operand} {t e : TypeId} {i : TypeInfo} {z : Value} {sz bytes : Nat} {v : Value} {n : Nat} {xs : List Value} {Bs R : Hp} {b o m c : Nat} {cs : Array Value} {T : TypeId} {fz : Nat × Nat} {news : List Value}
    (hx : ev ρ x = v) (hS : SlO e sz v n xs Bs) (hy : ev ρ y = .slice (some ⟨b, o, none⟩) m c) (ht : C.P.underlying t = some (.slice e)) (hi : C.P.info? e = some i) (hz : i.zero = some z) (hsize : i.size = sz) (hby : i.bytes = bytes) (hzs : z.cells.size = sz) (hsz : Nat.blt 0 sz = true)
    (hp : Rm H Bs R) (hm : Has H b (.cells cs T fz)) (hr : RowAt cs o (m * sz) news) (h1 : ones news = true) (h63 : n + m ≤ maxLen) (hbytes : (n + m) * bytes ≤ 140737488355328)
    (h : ∀ v' Bs', SlO e sz v' (n + m) (xs ++ news) Bs' → K v' (Bs' ++ R)) : Ex C ⟨d, .call ⟨.builtin .append, #[x, y], #[t, t]⟩, ty, pos, af, g⟩ K ρ H :=
  ex_append hx hy ht hi hz hsize hby hzs (by simpa [Nat.blt_eq] using hsz) hS hp.perm hm.mem hr (ones_all h1) h63 hbytes h
/-- append of nothing -/
theorem ex_append0 {x y : Operand} {t e : TypeId} {i : TypeInfo} {sz : Nat} {v : Value} {n : Nat} {xs : List Value} {Bs : Hp} {a : Option Addr} {c : Nat}
    (hx : ev ρ x = v) (hS : SlO e sz v n xs Bs) (hy : ev ρ y = .slice a 0 c) (ht : C.P.underlying t = some (.slice e)) (hi : C.P.info? e = some i)
    (h : K v H) : Ex C ⟨d, .call ⟨.builtin .append, #[x, y], #[t, t]⟩, ty, pos, af, g⟩ K ρ H := fun w hw => by
  have hrun : (Builtin.append_ #[t, t] ty #[v, .slice a 0 c]).run C.P w = .ok v w := by
    rcases hS.2 with ⟨a0, rfl, rfl, rfl⟩ | ⟨gb, cap, cur, rfl, rfl, hnc, hcm, hcs, htake⟩
    · cases a0 <;> cases a <;> simp [Builtin.append_, run_underlying ht, sizeOf, typeInfo, hi, Builtin.lenOf, Builtin.firstCells, loadCells, loadCellsFrom, storeCells]
    · cases a <;> simp [Builtin.append_, run_underlying ht, sizeOf, typeInfo, hi, Builtin.lenOf, Builtin.firstCells, loadCells, loadCellsFrom, storeCells, hnc]
  have : (execOp (ev ρ) ⟨d, .call ⟨.builtin .append, #[x, y], #[t, t]⟩, ty, pos, af, g⟩).run C.P w = .ok (.value v) w := by
    rw [← hx, ← hy] at hrun
    rw [← hx]
    simp [execOp, resolve, invoke, Go.builtin, hrun]
  rw [this]
  exact ⟨_, hw, h⟩
/-- append of a slice that can be read -/
theorem ex_appendIn {x y : Operand} {t e : TypeId} {i : TypeInfo} {z : Value} {sz bytes : Nat} {v vy : Value} {n : Nat} {xs : List Value} {Bs R F : Hp} {rows : List (List Value)}
    (hx : ev ρ x = v) (hS : SlO e sz v n xs Bs) (hy : ev ρ y = vy) (hin : InSl F sz rows vy) (ht : C.P.underlying t = some (.slice e)) (hi : C.P.info? e = some i) (hz : i.zero = some z) (hsize : i.size = sz) (hby : i.bytes = bytes) (hzs : z.cells.size = sz) (hsz : Nat.blt 0 sz = true)
    (hp : Rm H Bs R) (hF : ∀ x ∈ F, x ∈ H) (h63 : n + rows.length ≤ maxLen) (hbytes : (n + rows.length) * bytes ≤ 140737488355328)
    (h : ∀ v' Bs', SlO e sz v' (n + rows.length) (xs ++ rows.flatten) Bs' → K v' (Bs' ++ R)) : Ex C ⟨d, .call ⟨.builtin .append, #[x, y], #[t, t]⟩, ty, pos, af, g⟩ K ρ H := by
  obtain ⟨a, c, rfl, _, hlen, hrow⟩ := hin
  rcases hrow with rfl | ⟨b, o, cs, T, fz, rfl, hm, hrow⟩
  · intro w hw
    have := ex_append0 (C := C) (d := d) (ty := ty) (pos := pos) (af := af) (g := g) (K := fun v' H' => v' = v ∧ H' = H) hx hS hy ht hi ⟨rfl, rfl⟩ w hw
    refine (show Ex C _ _ ρ H from fun w hw => ?_) w hw
    have h2 := ex_append0 (C := C) (H := Bs ++ R) (d := d) (ty := ty) (pos := pos) (af := af) (g := g) (K := K) hx hS hy ht hi (h v Bs (by simpa using hS)) w (hw.perm hp.perm)
    exact h2
  · refine ex_append hx hy ht hi hz hsize hby hzs (by simpa [Nat.blt_eq] using hsz) hS hp.perm (hF _ hm) hrow (fun u hu => ?_) h63 hbytes h
    obtain ⟨r, hr, hu⟩ := List.mem_flatten.1 hu
    exact ones_all (hlen r hr).2 u hu
end

theorem SlO.at {e : TypeId} {sz : Nat} {v : Value} {rows : List (List Value)} {Bs : Hp} (h : SlO e sz v rows.length rows.flatten Bs) (hr : ∀ r ∈ rows, r.length = sz) {i : Nat} {r : List Value} (hi : rows[i]? = some r) :
    ∃ g cap cur, v = .slice (some ⟨g, 0, none⟩) rows.length cap ∧ Bs = [(g, .cells cur e (0, 0))] ∧ RowAt cur (0 + i * sz) sz r := by
  rcases h.2 with ⟨a, rfl, h0, rfl⟩ | ⟨g, cap, cur, rfl, rfl, hn, hc, hs, ht⟩
  · have : rows = [] := List.eq_nil_of_length_eq_zero h0
    subst this
    simp at hi
  · refine ⟨g, cap, cur, rfl, rfl, hr r (List.mem_of_getElem? hi), fun j v hj => ?_⟩
    have h1 := flat_get hr hi j v hj
    rw [← ht] at h1
    have h2 := take_some h1
    rw [Array.getElem?_toList] at h2
    rw [show 0 + i * sz + j = i * sz + j from by omega]
    exact h2
theorem SlO.val {e : TypeId} {sz : Nat} {v : Value} {n : Nat} {xs : List Value} {Bs : Hp} (h : SlO e sz v n xs Bs) : ∃ a c, v = .slice a n c := by
  rcases h.2 with ⟨a, rfl, rfl, rfl⟩ | ⟨g, cap, cur, rfl, rfl, _⟩
  · exact ⟨a, 0, rfl⟩
  · exact ⟨_, _, rfl⟩
theorem rd_len_slo {P : Program} {e : World} {ρ : Fr} {H : Hp} {d : Option Nat} {ty : TypeId} {pos : String} {af : Array Edge} {g : Option (Nat × Bool)} {x : Operand} {ats : Array TypeId} {t el : TypeId} {v : Value} {n : Nat} {E : TypeId} {sz : Nat} {xs : List Value} {Bs : Hp}
    (hx : ev ρ x = v) (hS : SlO E sz v n xs Bs) (ha : ats[0]? = some t) (ht : P.underlying t = some (.slice el)) : Rd P e ρ H ⟨d, .call ⟨.builtin .len, #[x], ats⟩, ty, pos, af, g⟩ (.int .i64 n) := by
  obtain ⟨a, c, rfl⟩ := hS.val
  exact rd_len_slice hx ha ht

theorem SlO.inB {e : TypeId} {sz : Nat} {v : Value} {rows : List (List Value)} {Bs : Hp} (h : SlO e sz v rows.length rows.flatten Bs) (hr : ∀ r ∈ rows, r.length = sz ∧ ones r = true) : InSl Bs sz rows v := by
  have := h.inSl (F := []) hr
  rwa [List.append_nil] at this
section
variable {P : Program} {e : World} {ρ : Fr} {H : Hp} {d : Option Nat} {ty : TypeId} {pos : String} {af : Array Edge} {g : Option (Nat × Bool)} {x y : Operand} {t el : TypeId} {n : Nat} {F : Hp} {rows : List (List Value)} {v : Value} {q : IntKind} {i : Nat}
theorem rd_sliceHi (hx : ev ρ x = v) (hy : ev ρ y = .int q (i : Int)) (hin : InSl F n rows v) (ht : P.underlying t = some (.slice el)) (hs : sz P el = some n) (hi : i ≤ rows.length) :
    ∃ v', InSl F n (rows.take i) v' ∧ Rd P e ρ H ⟨d, .slice t x none (some y) none, ty, pos, af, g⟩ v' := by
  obtain ⟨a, c, rfl, hc, hr, hw⟩ := hin
  refine ⟨.slice (if c = 0 then a else a.map (·.add (0 * n))) i (c - 0), ?_, fun w _ => ?_⟩
  · refine ⟨_, _, by rw [List.length_take, Nat.min_eq_left hi], by rw [List.length_take]; omega, fun r hr' => hr r (List.mem_of_mem_take hr'), ?_⟩
    rcases hw with rfl | ⟨b, o, cs, T, fz, rfl, hm, hw⟩
    · exact .inl (by simp)
    · by_cases h0 : i = 0
      · exact .inl (by rw [h0, List.take_zero])
      · refine .inr ⟨b, o, cs, T, fz, ?_, hm, ?_⟩
        · split
          · omega
          · simp [addr_add]
        · have h1 := hw.part 0 (i * n) (by rw [Nat.zero_add]; exact Nat.mul_le_mul_right _ hi)
          rw [flat_take i (fun r hr' => (hr r hr').1), List.length_take, Nat.min_eq_left hi]
          simpa using h1
  · have h0 : (Instr.sliceAt t (ev ρ x) none (some (ev ρ y)) none).run P w = .ok (.slice (if c = 0 then a else a.map (·.add (0 * n))) i (c - 0)) w := by
      rw [hx, hy]
      have hb : (0 : Int) ≤ (i : Int) ∧ (i : Int) ≤ (c : Int) := ⟨by omega, by omega⟩
      unfold Instr.sliceAt Instr.slice Instr.sliceBounds Instr.sliceBound
      simp only [Sem.run_bind, underlying_run ht, Result.andThen_ok, asIntOf, Sem.run_pure, hb, and_self, if_true, sizeOf_run hs, Int.toNat_natCast, Nat.sub_zero]
    simp [execOp, h0]
theorem rd_sliceLo (hx : ev ρ x = v) (hy : ev ρ y = .int q (i : Int)) (hin : InSl F n rows v) (ht : P.underlying t = some (.slice el)) (hs : sz P el = some n) (hi : i ≤ rows.length) :
    ∃ v', InSl F n (rows.drop i) v' ∧ Rd P e ρ H ⟨d, .slice t x (some y) none none, ty, pos, af, g⟩ v' := by
  obtain ⟨a, c, rfl, hc, hr, hw⟩ := hin
  refine ⟨.slice (if c = i then a else a.map (·.add (i * n))) (rows.length - i) (c - i), ?_, fun w _ => ?_⟩
  · refine ⟨_, _, by rw [List.length_drop], by rw [List.length_drop]; omega, fun r hr' => hr r (List.mem_of_mem_drop hr'), ?_⟩
    rcases hw with rfl | ⟨b, o, cs, T, fz, rfl, hm, hw⟩
    · exact .inl (by simp)
    · by_cases h0 : rows.length ≤ i
      · exact .inl (List.drop_of_length_le h0)
      · refine .inr ⟨b, o + i * n, cs, T, fz, ?_, hm, ?_⟩
        · split
          · omega
          · simp [addr_add]
        · have h1 := hw.part (i * n) ((rows.length - i) * n) (by rw [← Nat.add_mul]; exact Nat.mul_le_mul_right _ (by omega))
          rw [flat_drop i (fun r hr' => (hr r hr').1), List.length_drop]
          have h2 : (rows.flatten.drop (i * n)).length = (rows.length - i) * n := by rw [List.length_drop, hw.1, ← Nat.sub_mul]
          rw [← h2, List.take_length] at h1
          rw [← h2]
          exact h1
  · have h0 : (Instr.sliceAt t (ev ρ x) (some (ev ρ y)) none none).run P w = .ok (.slice (if c = i then a else a.map (·.add (i * n))) (rows.length - i) (c - i)) w := by
      rw [hx, hy]
      have hb : (0 : Int) ≤ (i : Int) ∧ (i : Int) ≤ (rows.length : Int) := ⟨by omega, by omega⟩
      unfold Instr.sliceAt Instr.slice Instr.sliceBounds Instr.sliceBound
      simp only [Sem.run_bind, underlying_run ht, Result.andThen_ok, asIntOf, Sem.run_pure, hb, and_self, if_true, sizeOf_run hs, Int.toNat_natCast]
    simp [execOp, h0]
theorem rd_loadHF {b o j : Nat} {cs : Array Value} {T : TypeId} {fz : Nat × Nat} {r : List Value} {v' : Value} (hx : ev ρ x = .pointer (some ⟨b, o + j, none⟩)) (hm : Has H b (.cells cs T fz)) (hl : leaf P t = true) (hr : RowAt cs o n r) (hc : r[j]? = some v') (hv : v' = v) :
    Rd P e ρ H ⟨d, .load t x, ty, pos, af, g⟩ v := by subst hv; exact rd_load hx hl hm.mem (hr.2 j v' hc)
theorem rd_loadHF2 {b o j k : Nat} {cs : Array Value} {T : TypeId} {fz : Nat × Nat} {r : List Value} {v' : Value} (hx : ev ρ x = .pointer (some ⟨b, o + j + k, none⟩)) (hm : Has H b (.cells cs T fz)) (hl : leaf P t = true) (hr : RowAt cs o n r) (hc : r[j + k]? = some v') (hv : v' = v) :
    Rd P e ρ H ⟨d, .load t x, ty, pos, af, g⟩ v := by subst hv; exact rd_load hx hl hm.mem (by rw [Nat.add_assoc]; exact hr.2 (j + k) v' hc)
theorem rd_loadHQ {b o j k : Nat} {cs : Array Value} {T : TypeId} {fz : Nat × Nat} {r r' : List Value} (hx : ev ρ x = .pointer (some ⟨b, o + j, none⟩)) (hm : Has H b (.cells cs T fz)) (hl : aggB P t = true) (hs : sz P t = some k) (hr : RowAt cs o n r) (hc : TakeR r j k r') :
    Rd P e ρ H ⟨d, .load t x, ty, pos, af, g⟩ (.agg r'.toArray) := by
  have h1 := takeN_get hc
  exact rd_loadR hx hl (by rw [hs]; rfl) (by rw [hs]; rfl) hm.mem (n := k) ⟨h1.1, fun i v hi => by rw [Nat.add_assoc]; exact hr.2 _ v (h1.2 i v hi)⟩
end
end Go.Vl
