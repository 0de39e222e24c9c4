/-
  THE SMALL LOGIC's SECOND SET OF RULES: operations that only reckon, by one function; blocks found by classes; loops whose frame is kept but for what the loop writes. Nothing of the seat's program is named here.
-/
import Derived.Test.YtpegidbkplgplaaVm
import Derived.Test.YtpegidbkplgplaaVq
import Derived.Laws.StructEq
namespace Go.Vl
open Go.RowKit

/-! ### Blocks found by classes -/
class Has (H : Hp) (b : Nat) (o : outParam Obj) : Prop where
  mem : (b, o) ∈ H
instance has_head {b : Nat} {o : Obj} {R : Hp} : Has ((b, o) :: R) b o := ⟨List.mem_cons_self⟩
instance has_tail {x : Nat × Obj} {b : Nat} {o : Obj} {R : Hp} [h : Has R b o] : Has (x :: R) b o := ⟨List.mem_cons_of_mem _ h.mem⟩
instance has_left {b : Nat} {o : Obj} {A B : Hp} [h : Has A b o] : Has (A ++ B) b o := ⟨List.mem_append_left _ h.mem⟩
instance has_right {b : Nat} {o : Obj} {A B : Hp} [h : Has B b o] : Has (A ++ B) b o := ⟨List.mem_append_right _ h.mem⟩
class Zp (H : Hp) (b : Nat) (o : outParam Obj) (f : outParam (Obj → Hp)) : Prop where
  zip : Zip H b o f
instance zp_head {b : Nat} {o : Obj} {R : Hp} : Zp ((b, o) :: R) b o (fun o' => (b, o') :: R) := ⟨.head⟩
instance zp_tail {x : Nat × Obj} {b : Nat} {o : Obj} {R : Hp} {f : Obj → Hp} [h : Zp R b o f] : Zp (x :: R) b o (fun o' => x :: f o') := ⟨.tail h.zip⟩
instance zp_left {b : Nat} {o : Obj} {A B : Hp} {f : Obj → Hp} [h : Zp A b o f] : Zp (A ++ B) b o (fun o' => f o' ++ B) := ⟨.inl h.zip⟩
instance zp_right {b : Nat} {o : Obj} {A B : Hp} {f : Obj → Hp} [h : Zp B b o f] : Zp (A ++ B) b o (fun o' => A ++ f o') := ⟨.inr h.zip⟩
class Pk (H : Hp) (b : Nat) (o : outParam Obj) (R : outParam Hp) : Prop where
  pick : Pick H (b, o) R
instance pk_head {b : Nat} {o : Obj} {R : Hp} : Pk ((b, o) :: R) b o R := ⟨.head⟩
instance pk_tail {x : Nat × Obj} {b : Nat} {o : Obj} {R R' : Hp} [h : Pk R b o R'] : Pk (x :: R) b o (x :: R') := ⟨.tail h.pick⟩
instance pk_left {b : Nat} {o : Obj} {A A' B : Hp} [h : Pk A b o A'] : Pk (A ++ B) b o (A' ++ B) := ⟨.inl h.pick⟩
instance (priority := 1100) pk_last {b : Nat} {o : Obj} {B : Hp} : Pk ([(b, o)] ++ B) b o B := ⟨.head⟩
instance pk_right {b : Nat} {o : Obj} {A B B' : Hp} [h : Pk B b o B'] : Pk (A ++ B) b o (A ++ B') := ⟨.inr h.pick⟩
/-- a part of the list taken out -/
class Rm (H Bs : Hp) (R : outParam Hp) : Prop where
  perm : H.Perm (Bs ++ R)
theorem perm_swap (X Y Z : Hp) : (X ++ (Y ++ Z)).Perm (Y ++ (X ++ Z)) := by
  rw [← List.append_assoc, ← List.append_assoc]
  exact List.perm_append_comm.append_right Z
instance rm_all {Bs : Hp} : Rm Bs Bs [] := ⟨by simp⟩
instance (priority := 1200) rm_nil {H : Hp} : Rm H [] H := ⟨.refl _⟩
instance rm_here {Bs R : Hp} : Rm (Bs ++ R) Bs R := ⟨.refl _⟩
instance rm_tail {x : Nat × Obj} {R Bs R' : Hp} [h : Rm R Bs R'] : Rm (x :: R) Bs (x :: R') := ⟨(h.perm.cons x).trans List.perm_middle.symm⟩
instance rm_left {A B Bs A' : Hp} [h : Rm A Bs A'] : Rm (A ++ B) Bs (A' ++ B) := ⟨by rw [← List.append_assoc]; exact h.perm.append_right B⟩
instance rm_right {A B Bs B' : Hp} [h : Rm B Bs B'] : Rm (A ++ B) Bs (A ++ B') := ⟨(h.perm.append_left A).trans (perm_swap _ _ _)⟩

class Sbs (A B : Hp) : Prop where
  sub : Subs A B
instance (priority := 1200) sbs_refl {A : Hp} : Sbs A A := ⟨fun _ h => h⟩
instance (priority := 1150) sbs_nil {B : Hp} : Sbs [] B := ⟨fun _ h => by cases h⟩
instance (priority := 1100) sbs_append {A A' B : Hp} [h : Sbs A B] [h' : Sbs A' B] : Sbs (A ++ A') B := ⟨fun x hx => (List.mem_append.1 hx).elim (h.sub x) (h'.sub x)⟩
instance (priority := 1050) sbs_cons {A B : Hp} {b : Nat} {o : Obj} [h : Has B b o] [h' : Sbs A B] : Sbs ((b, o) :: A) B := ⟨fun x hx => (List.mem_cons.1 hx).elim (fun e => e ▸ h.mem) (h'.sub x)⟩
instance sbs_skip {A B : Hp} {x : Nat × Obj} [h : Sbs A B] : Sbs A (x :: B) := ⟨fun y hy => List.mem_cons_of_mem _ (h.sub y hy)⟩
instance sbs_left {A B D : Hp} [h : Sbs A B] : Sbs A (B ++ D) := ⟨fun y hy => List.mem_append_left _ (h.sub y hy)⟩
instance sbs_right {A B D : Hp} [h : Sbs A D] : Sbs A (B ++ D) := ⟨fun y hy => List.mem_append_right _ (h.sub y hy)⟩
inductive Pcs : Hp → Hp → Hp → Prop
  | nil {H : Hp} : Pcs H [] H
  | cons {H R R' xs : Hp} {b : Nat} {o : Obj} (h : Pk H b o R) (t : Pcs R xs R') : Pcs H ((b, o) :: xs) R'
  | app {H A B R R' : Hp} (h : Pcs H A R) (t : Pcs R B R') : Pcs H (A ++ B) R'
  | blk {H Bs R : Hp} (h : Rm H Bs R) : Pcs H Bs R
theorem Pcs.perm {H xs R : Hp} (h : Pcs H xs R) : H.Perm (xs ++ R) := by
  induction h with
  | nil => exact .refl _
  | cons h _ ih => exact h.pick.perm.trans (ih.cons _)
  | app _ _ ih1 ih2 => rw [List.append_assoc]; exact ih1.trans (ih2.append_left _)
  | blk h => exact h.perm
theorem via_pcs {P : Program} {e : World} {f : FuncId} {args : Array Value} {H xs R : Hp} {K : Value → Hp → Prop} (h : callsK P e f args (xs ++ R) K) (hp : Pcs H xs R) : callsK P e f args H K := callsK_perm hp.perm h
theorem drop_pcs {K : Value → Hp → Prop} {v : Value} {R xs R2 : Hp} (h : K v xs) (hp : Pcs R xs R2) : Drop K v R := ⟨xs, R2, hp.perm, h⟩
theorem drp_pcs {R xs R2 : Hp} (hp : Pcs R xs R2) : Drp xs R := ⟨R2, hp.perm⟩

theorem drp_pk {H R : Hp} {l : Nat} {o : Obj} [h : Pk H l o R] : Drp ((l, o) :: R) H := ⟨[], by simpa using h.pick.perm⟩
theorem perm_pcs {H xs : Hp} (h : Pcs H xs []) : H.Perm xs := by simpa using h.perm
/-- A region that draws its order; xs: the blocks that it turns midway. -/
theorem wpC_drawX {C : Cx} {Q : Post} {ρ : Fr} {ds : List Nat} {H R : Hp} {id : Nat} {ops : Array Oper} (xs : Hp) (pl : List Nat) (hm : C.P.follows .mixedOrders = true)
    (hp : (planOK ops pl (Array.replicate ops.size false) && Region.noSelect ops && Nat.ble pl.length ops.size) = true) (hpk : Pcs H xs R) (h : wpD C ops R Q pl ρ ds H) : wpC C (.region id ops true) Q ρ ds H :=
  wpC_draw R pl hm hp (hpk.perm.trans List.perm_append_comm) h

/-- of a list of blocks: the rows of cells of some types -/
class InL (T : TypeId) (Ts : List TypeId) : Prop where
  mem : T ∈ Ts
instance inl_head {T : TypeId} {Ts : List TypeId} : InL T (T :: Ts) := ⟨List.mem_cons_self⟩
instance inl_tail {T S : TypeId} {Ts : List TypeId} [h : InL T Ts] : InL T (S :: Ts) := ⟨List.mem_cons_of_mem _ h.mem⟩
class Kp (Ts : List TypeId) (H : Hp) (A B : outParam Hp) : Prop where
  perm : H.Perm (A ++ B)
instance (priority := 1200) kp_nil {Ts : List TypeId} : Kp Ts [] [] [] := ⟨.refl _⟩
instance (priority := 1200) kp_keep {Ts : List TypeId} {b : Nat} {cs : Array Value} {T : TypeId} {fz : Nat × Nat} {R A B : Hp} [InL T Ts] [h : Kp Ts R A B] : Kp Ts ((b, .cells cs T fz) :: R) ((b, .cells cs T fz) :: A) B := ⟨h.perm.cons _⟩
instance (priority := 1100) kp_drop {Ts : List TypeId} {x : Nat × Obj} {R A B : Hp} [h : Kp Ts R A B] : Kp Ts (x :: R) A (x :: B) := ⟨(h.perm.cons x).trans List.perm_middle.symm⟩
instance (priority := 1150) kp_app {Ts : List TypeId} {X Y A B A' B' : Hp} [h : Kp Ts X A B] [h' : Kp Ts Y A' B'] : Kp Ts (X ++ Y) (A ++ A') (B ++ B') :=
  ⟨(h.perm.append h'.perm).trans (by rw [List.append_assoc, List.append_assoc]; exact (perm_swap B A' B').append_left A)⟩
instance (priority := 100) kp_opaque {Ts : List TypeId} {X : Hp} : Kp Ts X [] X := ⟨.refl _⟩
theorem wpC_drawK {C : Cx} {Q : Post} {ρ : Fr} {ds : List Nat} {H A B : Hp} {id : Nat} {ops : Array Oper} (Ts : List TypeId) (pl : List Nat) (hm : C.P.follows .mixedOrders = true)
    (hp : (planOK ops pl (Array.replicate ops.size false) && Region.noSelect ops && Nat.ble pl.length ops.size) = true) (hpk : Kp Ts H A B) (h : wpD C ops A Q pl ρ ds H) : wpC C (.region id ops true) Q ρ ds H :=
  wpC_draw A pl hm hp hpk.perm h

/-! ### Operations that only reckon -/
def binV (P : Program) (op : BinOp) (t : TypeId) : Value → Value → Option Value
  | .int k a, .int k' b => if k = k' then
      match op with
      | .lss => some (.bool (decide (a < b)))
      | .leq => some (.bool (decide (a ≤ b)))
      | .gtr => some (.bool (decide (b < a)))
      | .geq => some (.bool (decide (b ≤ a)))
      | .eql => some (.bool (decide (a = b)))
      | .neq => some (.bool (decide (a ≠ b)))
      | _ => none
    else none
  | .string a, .string b =>
      match op with
      | .eql => some (.bool (decide (a = b)))
      | .neq => some (.bool (decide (a ≠ b)))
      | .lss => some (.bool (Op.bytesLess a.toList b.toList))
      | _ => none
  | .bool a, .bool b =>
    match P.underlying t with
    | some .bool => match op with
      | .eql => some (.bool (decide (a = b)))
      | .neq => some (.bool (decide (a ≠ b)))
      | _ => none
    | _ => none
  | .pointer x, .pointer none =>
    match P.underlying t with
    | some (.pointer _) => match op with
      | .eql => some (.bool x.isNone)
      | .neq => some (.bool (!x.isNone))
      | _ => none
    | _ => none
  | .map x, .map none =>
    match P.underlying t with
    | some (.map _ _) => match op with
      | .eql => some (.bool x.isNone)
      | .neq => some (.bool (!x.isNone))
      | _ => none
    | _ => none
  | .slice x _ _, .slice none _ _ =>
    match P.underlying t with
    | some (.slice _) => match op with
      | .eql => some (.bool x.isNone)
      | .neq => some (.bool (!x.isNone))
      | _ => none
    | _ => none
  | _, _ => none

theorem str_beq (a b : ByteArray) : (a.toList == b.toList) = decide (a = b) := by rw [← beq_toListBytes, ba_beq]
section
variable {P : Program} {e : World} {ρ : Fr} {H : Hp} {d : Option Nat} {ty : TypeId} {pos : String} {af : Array Edge} {g : Option (Nat × Bool)}
theorem rd_bin {op : BinOp} {t yt : TypeId} {x y : Operand} {X Y v : Value} (hx : ev ρ x = X) (hy : ev ρ y = Y) (hg : eqGuard op t x y X Y = pure ()) (h : ∀ w : World, (binOp op t X Y).run P w = .ok v w) :
    Rd P e ρ H ⟨d, .binOp op t x y yt, ty, pos, af, g⟩ v := fun w _ => by
  show Sem.run P (do pure (Next.value (← (do eqGuard op t x y (ev ρ x) (ev ρ y); binOp op t (ev ρ x) (ev ρ y))))) w = _
  rw [hx, hy, hg, Sem.run_bind, Sem.run_bind, Sem.run_pure, Result.andThen_ok, h w]
  rfl
theorem eqGuard_plain {op : BinOp} {t : TypeId} {x y : Operand} {X Y : Value} (h : match X with | .nilIface => False | .agg _ => False | _ => True) : eqGuard op t x y X Y = pure () := by
  cases X <;> first | exact h.elim | (cases op <;> rfl)

theorem binV_run {op : BinOp} {t : TypeId} {X Y v : Value} (h : binV P op t X Y = some v) : (∀ (x y : Operand), eqGuard op t x y X Y = pure ()) ∧ ∀ w : World, (binOp op t X Y).run P w = .ok v w := by
  have hnil : ∀ {A B : Value} {c : Bool}, (∀ w : World, (Op.equalIn (9999 + 1) t A B).run P w = .ok c w) → ∀ w : World, ((do pure (.bool (← Op.equal t A B))) : Sem Value).run P w = .ok (.bool c) w ∧ ((do pure (.bool (!(← Op.equal t A B)))) : Sem Value).run P w = .ok (.bool (!c)) w := fun he w => by
    have h1 : (Op.equal t _ _).run P w = .ok _ w := he w
    constructor
    · simp only [Sem.run_bind, h1, Result.andThen_ok, Sem.run_pure]
    · simp only [Sem.run_bind, h1, Result.andThen_ok, Sem.run_pure]
  unfold binV at h
  split at h
  · split at h
    · rename_i k a k' b hk
      subst hk
      refine ⟨fun _ _ => eqGuard_plain trivial, fun w => ?_⟩
      split at h
      · cases h; simp [binOp, Op.intCmp]
      · cases h; simp [binOp, Op.intCmp]
      · cases h; simp [binOp, Op.intCmp]
      · cases h; simp [binOp, Op.intCmp]
      · cases h
        have : (a == b) = decide (a = b) := by rw [Bool.eq_iff_iff]; simp
        simp [binOp, Op.intCmp, this]
      · cases h
        have : (a != b) = decide (a ≠ b) := by rw [Bool.eq_iff_iff]; simp
        simp [binOp, Op.intCmp, this]
      · cases h
    · cases h
  · rename_i a b
    refine ⟨fun _ _ => eqGuard_plain trivial, fun w => ?_⟩
    split at h
    · cases h; simp [binOp, Op.stringOp, str_beq]
    · cases h; simp [binOp, Op.stringOp, str_beq]
    · cases h; simp [binOp, Op.stringOp]
    · cases h
  · rename_i a b
    refine ⟨fun _ _ => eqGuard_plain trivial, fun w => ?_⟩
    split at h
    · rename_i hu
      have he : ∀ w : World, (Op.equalIn (9999 + 1) t (.bool a) (.bool b)).run P w = .ok (decide (a = b)) w := fun w => by
        have : (a == b) = decide (a = b) := by rw [Bool.eq_iff_iff]; simp
        unfold Op.equalIn; simp only [Sem.run_bind, underlying_run hu, Result.andThen_ok]; rw [← this]; rfl
      split at h
      · cases h; exact (hnil he w).1
      · cases h
        have h2 := (hnil he w).2
        have h3 : decide (a ≠ b) = !decide (a = b) := by simp
        rw [h3]; exact h2
      · cases h
    · cases h
  · rename_i x
    refine ⟨fun _ _ => eqGuard_plain trivial, fun w => ?_⟩
    split at h
    · rename_i el hu
      have he : ∀ w : World, (Op.equalIn (9999 + 1) t (.pointer x) (.pointer none)).run P w = .ok x.isNone w := fun w => by
        unfold Op.equalIn; simp only [Sem.run_bind, underlying_run hu, Result.andThen_ok]; cases x <;> rfl
      split at h
      · cases h; exact (hnil he w).1
      · cases h; exact (hnil he w).2
      · cases h
    · cases h
  · rename_i x
    refine ⟨fun _ _ => eqGuard_plain trivial, fun w => ?_⟩
    split at h
    · rename_i kt et hu
      have he : ∀ w : World, (Op.equalIn (9999 + 1) t (.map x) (.map none)).run P w = .ok x.isNone w := fun w => by
        unfold Op.equalIn; simp only [Sem.run_bind, underlying_run hu, Result.andThen_ok]; cases x <;> rfl
      split at h
      · cases h; exact (hnil he w).1
      · cases h; exact (hnil he w).2
      · cases h
    · cases h
  · rename_i x n c n' c'
    refine ⟨fun _ _ => eqGuard_plain trivial, fun w => ?_⟩
    split at h
    · rename_i el hu
      have he : ∀ w : World, (Op.equalIn (9999 + 1) t (.slice x n c) (.slice none n' c')).run P w = .ok x.isNone w := fun w => by
        unfold Op.equalIn; simp only [Sem.run_bind, underlying_run hu, Result.andThen_ok]; cases x <;> rfl
      split at h
      · cases h; exact (hnil he w).1
      · cases h; exact (hnil he w).2
      · cases h
    · cases h
  · cases h

def minV : Value → Value → Option Value
  | .int k a, .int _ b => some (.int k (if b < a then b else a))
  | _, _ => none
def maxV : Value → Value → Option Value
  | .int k a, .int _ b => some (.int k (if a < b then b else a))
  | _, _ => none

def rdP (P : Program) (ρ : Fr) : Op → Option Value
  | .move x => some (ev ρ x)
  | .assign x => some (ev ρ x)
  | .pick c a b => match ev ρ c with
    | .bool true => some (ev ρ a)
    | .bool false => some (ev ρ b)
    | _ => none
  | .nilCheck x => match ev ρ x with
    | .pointer (some a) => some (.pointer (some a))
    | _ => none
  | .fieldAddr s x f => match ev ρ x with
    | .pointer (some ⟨b, o, none⟩) => match fldA P s f with
      | some off => some (.pointer (some ⟨b, o + off, none⟩))
      | none => none
    | _ => none
  | .field s x f => match ev ρ x with
    | .agg cs => match fld P s f with
      | some (off, none) => cs[off]?
      | some (off, some n) => some (.agg (cs.extract off (off + n)))
      | none => none
    | _ => none
  | .extract x i => match ev ρ x with
    | .tuple vs => vs[i]?
    | _ => none
  | .unOp .not _ x => match ev ρ x with
    | .bool b => some (.bool (!b))
    | _ => none
  | .binOp op t x y _ => binV P op t (ev ρ x) (ev ρ y)
  | .call { callee := .builtin .len, args, argTypes } => match args.toList, argTypes[0]? with
    | [x], some t => match ev ρ x, P.underlying t with
      | .slice _ n _, some (.slice _) => some (.int .i64 n)
      | .string s, some .string => some (.int .i64 s.size)
      | _, _ => none
    | _, _ => none
  | .call { callee := .builtin .min, args, argTypes := _ } => match args.toList with
    | [x, y] => minV (ev ρ x) (ev ρ y)
    | _ => none
  | .call { callee := .builtin .max, args, argTypes := _ } => match args.toList with
    | [x, y] => maxV (ev ρ x) (ev ρ y)
    | _ => none
  | _ => none

theorem rdP_sound {op : Op} {v : Value} (h : rdP P ρ op = some v) : Rd P e ρ H ⟨d, op, ty, pos, af, g⟩ v := by
  unfold rdP at h
  split at h
  · cases h; exact rd_move rfl
  · cases h; exact rd_assign rfl
  · split at h
    · rename_i hc; cases h; exact rd_pick_t hc rfl
    · rename_i hc; cases h; exact rd_pick_f hc rfl
    · cases h
  · split at h
    · rename_i hx; cases h; exact rd_nilCheck hx
    · cases h
  · split at h
    · rename_i hx
      split at h
      · rename_i hf; cases h; exact rd_fieldAddr hx hf
      · cases h
    · cases h
  · split at h
    · rename_i hx
      split at h
      · rename_i hf; exact rd_field hx hf h
      · rename_i hf; cases h; exact rd_fieldN hx hf
      · cases h
    · cases h
  · split at h
    · rename_i hx; exact rd_extract hx h
    · cases h
  · split at h
    · rename_i hx; cases h; exact rd_not hx
    · cases h
  · obtain ⟨h1, h2⟩ := binV_run h
    exact rd_bin rfl rfl (h1 _ _) h2
  · rename_i args ats
    split at h
    · rename_i x t hx ht
      obtain ⟨l⟩ := args
      simp only at hx
      subst hx
      split at h
      · rename_i hv hu; cases h; exact rd_len_slice hv ht hu
      · rename_i hv hu; cases h; exact rd_len_string hv ht hu
      · cases h
    · cases h
  · rename_i args ats
    split at h
    · rename_i x y hx
      obtain ⟨l⟩ := args
      simp only at hx
      subst hx
      unfold minV at h
      split at h
      · rename_i ha hb
        cases h
        intro w _
        simp [execOp, resolve, invoke, Go.builtin, Builtin.min_, Builtin.min2, ha, hb]
      · cases h
    · cases h
  · rename_i args ats
    split at h
    · rename_i x y hx
      obtain ⟨l⟩ := args
      simp only at hx
      subst hx
      unfold maxV at h
      split at h
      · rename_i ha hb
        cases h
        intro w _
        simp [execOp, resolve, invoke, Go.builtin, Builtin.max_, Builtin.max2, ha, hb]
      · cases h
    · cases h
  · cases h
end

theorem rd_makeFuncE {P : Program} {e : World} {ρ : Fr} {H : Hp} {d : Option Nat} {ty : TypeId} {pos : String} {af : Array Edge} {g : Option (Nat × Bool)} {fn : Fn} {first captured : List Operand} {f' c' : List Value} (h1 : EvL ρ first f') (h2 : EvL ρ captured c') :
    Rd P e ρ H ⟨d, .makeFunc fn first.toArray captured.toArray, ty, pos, af, g⟩ (.func fn f'.toArray c'.toArray) := rd_makeFunc (by rw [← h1.map]; simp) (by rw [← h2.map]; simp)
/-! ### A loop: the frame is kept but for the slots in W -/
def inW : List Nat → Nat → Bool
  | [], _ => false
  | w :: ws, t => bif Nat.beq t w then true else inW ws t
def mix (W : List Nat) (ρ ρx : Fr) : Fr := fun t => bif inW W t then ρx t else ρ t
def Agr (W : List Nat) (ρ ρ' : Fr) : Prop := ∀ t, inW W t = false → ρ' t = ρ t
theorem agr_refl {W : List Nat} {ρ : Fr} : Agr W ρ ρ := fun _ _ => rfl
theorem agr_mix {W : List Nat} {ρ ρx : Fr} : Agr W ρ (mix W ρ ρx) := fun t h => by unfold mix; rw [h]; rfl
theorem agr_upd {W : List Nat} {ρ ρ' : Fr} {d : Nat} {v : Value} (hd : inW W d = true) (h : Agr W ρ ρ') : Agr W ρ (upd ρ' d v) := fun t ht => by
  rw [upd_other]
  · exact h t ht
  · rintro rfl; rw [hd] at ht; cases ht
theorem agr_setL {W : List Nat} {ρ ρ' : Fr} : ∀ {l : List (Nat × Value)}, (l.all fun x => inW W x.1) = true → Agr W ρ ρ' → Agr W ρ (setL l ρ')
  | [], _, h => h
  | (d, v) :: l, hl, h => by
    simp only [List.all_cons, Bool.and_eq_true] at hl
    exact agr_upd hl.1 (agr_setL hl.2 h)
/-- an inner loop's slots are among the outer one's -/
theorem agr_mixIn {W W' : List Nat} {ρ ρ' ρx : Fr} (hW : (W'.all fun t => inW W t) = true) (h : Agr W ρ ρ') : Agr W ρ (mix W' ρ' ρx) := fun t ht => by
  unfold mix
  cases h' : inW W' t with
  | false => exact h t ht
  | true =>
    have key : ∀ (L : List Nat), (L.all fun t => inW W t) = true → inW L t = true → inW W t = true := by
      intro L
      induction L with
      | nil => intro _ h; cases h
      | cons a L ih =>
        intro hL hx
        rw [List.all_cons, Bool.and_eq_true] at hL
        unfold inW at hx
        cases hb : Nat.beq t a with
        | true => rw [Nat.eq_of_beq_eq_true hb]; exact hL.1
        | false => rw [hb] at hx; exact ih hL.2 hx
    have := key W' hW h'
    rw [ht] at this
    cases this
theorem mix_of {W : List Nat} {ρ ρ' : Fr} (h : Agr W ρ ρ') : mix W ρ ρ' = ρ' := by
  funext t
  unfold mix
  cases hw : inW W t with
  | true => rfl
  | false => exact (h t hw).symm

structure LpEnd {κ : Type} (W : List Nat) (S : κ → List (Nat × Value)) (F : κ → Hp) (ok : κ → Prop) (μ : κ → Nat) (ρ : Fr) (ds : List Nat) (n : Nat) (ρ' : Fr) (ds' : List Nat) (H' : Hp) (k' : κ) : Prop where
  less : μ k' < n
  good : ok k'
  sl : slots ρ' (S k')
  agr : Agr W ρ ρ'
  def' : ds' = ds
  hp : Drp (F k') H'

theorem wpC_loopA {C : Cx} {c : Code} {Q : Post} {ρ : Fr} {ds : List Nat} {H : Hp} {κ : Type} (W : List Nat) (S : κ → List (Nat × Value)) (F : κ → Hp) (ok : κ → Prop) (μ : κ → Nat) (k0 : κ) (hok : ok k0) (hS : slots ρ (S k0)) (hF : Drp (F k0) H)
    (round : ∀ k ρx, ok k → wpC C c (LoopPost Q (fun ρ' ds' H' => ∃ k', LpEnd W S F ok μ ρ ds (μ k) ρ' ds' H' k')) (setL (S k) (mix W ρ ρx)) ds (F k)) : wpC C (.loop c) Q ρ ds H := by
  intro a w ha hw b k cs hro hb hr
  have key : ∀ n κ0 ρ' a w, μ κ0 = n → ok κ0 → slots ρ' (S κ0) → Agr W ρ ρ' → Rel C.N a ρ' ds → Kn C.e w (F κ0) →
      ∃ x a' w', lift C Q x a' w' ∧ ArrivesIn (Machine.fenced C.P (fence C.r)) C.P (lone (b.atR a (.code c :: .inLoop c :: k)) cs w) b k cs x a' w' := by
    intro n
    induction n using Nat.strongRecOn with
    | _ n ih =>
      intro κ0 ρ' a w hn ho hs hagr ha hw
      have h1 := round κ0 ρ' ho
      rw [mix_of hagr, setL_self hs] at h1
      obtain ⟨x, a₁, w₁, ⟨ρ1, ds1, H1, r1, k1, hq⟩, harr⟩ := h1 a w ha hw b (.inLoop c :: k) cs hro hb hr
      by_cases hx : x = .normal
      · subst hx
        obtain ⟨κ1, hlt, ho1, hs1, hag1, rfl, G1, hp1⟩ := hq
        obtain ⟨x₂, a₂, w₂, hq₂, harr₂⟩ := ih (μ κ1) (hn ▸ hlt) κ1 ρ1 a₁ w₁ rfl ho1 hs1 hag1 r1 (k1.perm hp1).left
        exact ⟨x₂, a₂, w₂, hq₂, .of_steps (StepsIn.trans harr (.one (fenced_calm hb hr rfl) stepR_inLoop)) harr₂⟩
      · refine ⟨x, a₁, w₁, ⟨ρ1, ds1, H1, r1, k1, ?_⟩, .pass (x := .inLoop c) rfl (fun _ _ => .inl hx) harr⟩
        cases x <;> first | exact hq | exact (hx rfl).elim
  obtain ⟨x, a', w', hq, harr⟩ := key _ k0 ρ a w rfl hok hS agr_refl ha (let ⟨_, hp⟩ := hF; (hw.perm hp).left)
  exact ⟨x, a', w', hq, .of_steps (.one (fenced_calm hb hr rfl) stepR_loop) harr⟩

theorem lp_mk {κ : Type} {W : List Nat} {S : κ → List (Nat × Value)} {F : κ → Hp} {ok : κ → Prop} {μ : κ → Nat} {ρ : Fr} {ds : List Nat} {n : Nat} {ρ' : Fr} {ds' : List Nat} {H' : Hp} (k' : κ) (h1 : μ k' < n) (h2 : ok k') (h3 : slots ρ' (S k')) (h4 : Agr W ρ ρ') (h5 : ds' = ds) (h6 : Drp (F k') H') :
    ∃ k', LpEnd W S F ok μ ρ ds n ρ' ds' H' k' := ⟨k', h1, h2, h3, h4, h5, h6⟩
/-- A place where the ways meet; the frame is kept but for the slots in W. -/
theorem wpC_cutA {C : Cx} {x y : Code} {Q : Post} {ρ : Fr} {ds : List Nat} {H : Hp} {κ : Type} (W : List Nat) (S : κ → List (Nat × Value)) (F : κ → Hp) (ok : κ → Prop)
    (hx : wpC C x (LoopPost Q (fun ρ' ds' H' => ∃ k, LpEnd W S F ok (fun _ => 0) ρ ds 1 ρ' ds' H' k)) ρ ds H) (hy : ∀ k ρx, ok k → wpC C y Q (setL (S k) (mix W ρ ρx)) ds (F k)) : wpC C (.seq x y) Q ρ ds H := by
  refine wpC_seq (wpC_mono hx fun z ρ' ds' H' h => ?_)
  cases z with
  | normal =>
    obtain ⟨k, _, ho, hs, hag, rfl, G, hp⟩ := h
    have h1 := hy k ρ' ho
    rw [mix_of hag, setL_self hs] at h1
    exact then_normal (wpC_drop hp h1)
  | _ => exact h

structure LpEndD {κ : Type} (W : List Nat) (S : κ → List (Nat × Value)) (F : κ → Hp) (D : κ → List Nat) (ok : κ → Prop) (μ : κ → Nat) (ρ : Fr) (n : Nat) (ρ' : Fr) (ds' : List Nat) (H' : Hp) (k' : κ) : Prop where
  less : μ k' < n
  good : ok k'
  sl : slots ρ' (S k')
  agr : Agr W ρ ρ'
  def' : ds' = D k'
  hp : Drp (F k') H'
theorem lpd_mk {κ : Type} {W : List Nat} {S : κ → List (Nat × Value)} {F : κ → Hp} {D : κ → List Nat} {ok : κ → Prop} {μ : κ → Nat} {ρ : Fr} {n : Nat} {ρ' : Fr} {ds' : List Nat} {H' : Hp} (k' : κ) (h1 : μ k' < n) (h2 : ok k') (h3 : slots ρ' (S k')) (h4 : Agr W ρ ρ') (h5 : ds' = D k') (h6 : Drp (F k') H') :
    ∃ k', LpEndD W S F D ok μ ρ n ρ' ds' H' k' := ⟨k', h1, h2, h3, h4, h5, h6⟩
/-- A loop in which ranges over functions stand: the calls that are put off grow. -/
theorem wpC_loopD {C : Cx} {c : Code} {Q : Post} {ρ : Fr} {ds : List Nat} {H : Hp} {κ : Type} (W : List Nat) (S : κ → List (Nat × Value)) (F : κ → Hp) (D : κ → List Nat) (ok : κ → Prop) (μ : κ → Nat) (k0 : κ) (hok : ok k0) (hS : slots ρ (S k0)) (hD : ds = D k0) (hF : Drp (F k0) H)
    (round : ∀ k ρx, ok k → wpC C c (LoopPost Q (fun ρ' ds' H' => ∃ k', LpEndD W S F D ok μ ρ (μ k) ρ' ds' H' k')) (setL (S k) (mix W ρ ρx)) (D k) (F k)) : wpC C (.loop c) Q ρ ds H := by
  intro a w ha hw b k cs hro hb hr
  have key : ∀ n κ0 ρ' a w, μ κ0 = n → ok κ0 → slots ρ' (S κ0) → Agr W ρ ρ' → Rel C.N a ρ' (D κ0) → Kn C.e w (F κ0) →
      ∃ x a' w', lift C Q x a' w' ∧ ArrivesIn (Machine.fenced C.P (fence C.r)) C.P (lone (b.atR a (.code c :: .inLoop c :: k)) cs w) b k cs x a' w' := by
    intro n
    induction n using Nat.strongRecOn with
    | _ n ih =>
      intro κ0 ρ' a w hn ho hs hagr ha hw
      have h1 := round κ0 ρ' ho
      rw [mix_of hagr, setL_self hs] at h1
      obtain ⟨x, a₁, w₁, ⟨ρ1, ds1, H1, r1, k1, hq⟩, harr⟩ := h1 a w ha hw b (.inLoop c :: k) cs hro hb hr
      by_cases hx : x = .normal
      · subst hx
        obtain ⟨κ1, hlt, ho1, hs1, hag1, rfl, G1, hp1⟩ := hq
        obtain ⟨x₂, a₂, w₂, hq₂, harr₂⟩ := ih (μ κ1) (hn ▸ hlt) κ1 ρ1 a₁ w₁ rfl ho1 hs1 hag1 r1 (k1.perm hp1).left
        exact ⟨x₂, a₂, w₂, hq₂, .of_steps (StepsIn.trans harr (.one (fenced_calm hb hr rfl) stepR_inLoop)) harr₂⟩
      · refine ⟨x, a₁, w₁, ⟨ρ1, ds1, H1, r1, k1, ?_⟩, .pass (x := .inLoop c) rfl (fun _ _ => .inl hx) harr⟩
        cases x <;> first | exact hq | exact (hx rfl).elim
  subst hD
  obtain ⟨x, a', w', hq, harr⟩ := key _ k0 ρ a w rfl hok hS agr_refl ha (let ⟨_, hp⟩ := hF; (hw.perm hp).left)
  exact ⟨x, a', w', hq, .of_steps (.one (fenced_calm hb hr rfl) stepR_loop) harr⟩

/-! ### Splitting -/
section
variable {C : Cx} {ops : Array Oper} {Hs : Hp} {Q : Post} {pl : List Nat} {rest : List Oper} {ρ : Fr} {ds : List Nat} {H : Hp} {i : Nat}
variable {op : Op} {ty : TypeId} {pos : String} {af : Array Edge} {d : Nat} {D : Option Nat}
theorem c_split {x y : Code} {o : Operand} {b : Bool} (hg : ev ρ o = .bool b) (h1 : b = true → wpC C x Q ρ ds H) (h2 : b = false → wpC C y Q ρ ds H) : wpC C (.cond o x y) Q ρ ds H := by
  cases b with
  | true => exact wpC_cond_true hg (h1 rfl)
  | false => exact wpC_cond_false hg (h2 rfl)
theorem s_split {j dj : Nat} {bb b : Bool} (hv : ρ dj = .bool b) (h1 : b = true → wpO C ops Q (⟨D, op, ty, pos, af, some (j, bb)⟩ :: rest) (upd ρ dj (.bool true)) ds H) (h2 : b = false → wpO C ops Q (⟨D, op, ty, pos, af, some (j, bb)⟩ :: rest) (upd ρ dj (.bool false)) ds H) :
    wpO C ops Q (⟨D, op, ty, pos, af, some (j, bb)⟩ :: rest) ρ ds H := by
  cases b with
  | true => have := h1 rfl; rwa [← hv, upd_self] at this
  | false => have := h2 rfl; rwa [← hv, upd_self] at this
theorem s_splitP {dj : Nat} {a c : Operand} {g : Option (Nat × Bool)} {b : Bool} (hv : ρ dj = .bool b) (h1 : b = true → wpO C ops Q (⟨D, .pick (.tmp dj) a c, ty, pos, af, g⟩ :: rest) (upd ρ dj (.bool true)) ds H)
    (h2 : b = false → wpO C ops Q (⟨D, .pick (.tmp dj) a c, ty, pos, af, g⟩ :: rest) (upd ρ dj (.bool false)) ds H) : wpO C ops Q (⟨D, .pick (.tmp dj) a c, ty, pos, af, g⟩ :: rest) ρ ds H := by
  cases b with
  | true => have := h1 rfl; rwa [← hv, upd_self] at this
  | false => have := h2 rfl; rwa [← hv, upd_self] at this
theorem d_split {dj : Nat} {b : Bool} (hv : ρ dj = .bool b) (h1 : b = true → wpD C ops Hs Q (i :: pl) (upd ρ dj (.bool true)) ds H) (h2 : b = false → wpD C ops Hs Q (i :: pl) (upd ρ dj (.bool false)) ds H) : wpD C ops Hs Q (i :: pl) ρ ds H := by
  cases b with
  | true => have := h1 rfl; rwa [← hv, upd_self] at this
  | false => have := h2 rfl; rwa [← hv, upd_self] at this
end
end Go.Vl
