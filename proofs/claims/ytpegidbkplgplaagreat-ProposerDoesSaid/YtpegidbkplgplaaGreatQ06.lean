/-
  Steps of the proof: Vs, Vt.
-/
import Derived.Test.YtpegidbkplgplaaGreatQ02
import Derived.Test.YtpegidbkplgplaaGreatQ04
import Derived.Test.YtpegidbkplgplaaGreatQ05
import Derived.Sort.Grow
namespace Go.Vl
set_option linter.unusedSectionVars false
set_option linter.unusedVariables false
def rdQ (P : Program) (ρ : Fr) : Op → Option Value
  | .binOp .. => none
  | o => rdP P ρ o
theorem rdQ_eq {P : Program} {e : World} {ρ : Fr} {H : Hp} {d : Option Nat} {op : Op} {ty : TypeId} {pos : String} {af : Array Edge} {g : Option (Nat × Bool)} {v v' : Value} (h : rdQ P ρ op = some v') (hv : v' = v) : Rd P e ρ H ⟨d, op, ty, pos, af, g⟩ v := by
  subst hv
  unfold rdQ at h
  split at h
  · cases h
  · exact rdP_sound h
section
variable {P : Program} {e : World} {ρ : Fr} {H : Hp} {d : Option Nat} {ty : TypeId} {pos : String} {af : Array Edge} {g : Option (Nat × Bool)} {x y : Operand} {t n kt et : TypeId} {b o clk bi : Nat} {cs : Array Value} {l r : List Value} {T : TypeId} {fz : Nat × Nat} {v v' : Value}
theorem rd_fieldAddrN {s f off : Nat} (hx : ev ρ x = .pointer (some ⟨b, o, none⟩)) (hf : (fldA P s f).isSome = true) (ho : (fldA P s f).getD 0 = off) : Rd P e ρ H ⟨d, .fieldAddr s x f, ty, pos, af, g⟩ (.pointer (some ⟨b, o + off, none⟩)) := by
  obtain ⟨k, hk⟩ := Option.isSome_iff_exists.1 hf
  rw [hk] at ho
  exact rd_fieldAddr hx (by rw [hk]; exact congrArg some ho)
theorem rd_addN1 {m : Nat} {yt : TypeId} (hx : ev ρ x = .int .i64 (m : Int)) (hy : ev ρ y = .int .i64 1) (h : (m : Int) + 1 ≤ 9223372036854775807) : Rd P e ρ H ⟨d, .binOp .add t x y yt, ty, pos, af, g⟩ (.int .i64 ((m + 1 : Nat) : Int)) := rd_add64 hx hy (by omega) h
theorem rd_len_inT {F : Hp} {sz : Nat} {α : Type} {ws : List α} {C' : α → List Value} {ats : Array TypeId} {el : TypeId} (hx : ev ρ x = v) (hin : InSl F sz (ws.map C') v) (ha : ats[0]? = some t) (ht : P.underlying t = some (.slice el)) : Rd P e ρ H ⟨d, .call ⟨.builtin .len, #[x], ats⟩, ty, pos, af, g⟩ (.int .i64 ws.length) := by
  obtain ⟨a, c, rfl, _⟩ := hin
  have := rd_len_slice (e := e) (H := H) (d := d) (ty := ty) (pos := pos) (af := af) (g := g) hx ha ht
  simpa using this
theorem rd_loadH (hx : ev ρ x = .pointer (some ⟨b, o, none⟩)) (hm : Has H b (.cells cs T fz)) (hl : leaf P t = true) (hc : cs[o]? = some v') (hv : v' = v) : Rd P e ρ H ⟨d, .load t x, ty, pos, af, g⟩ v := by subst hv; exact rd_load hx hl hm.mem hc
theorem rd_loadHN (hx : ev ρ x = .pointer (some ⟨b, o, none⟩)) (hm : Has H b (.cells l.toArray T fz)) (hl : aggB P t = true) (hs : sz P t = some n) (hc : TakeR l o n r) : Rd P e ρ H ⟨d, .load t x, ty, pos, af, g⟩ (.agg r.toArray) := rd_loadN hx hl hs hm.mem hc
theorem rd_loadHR (hx : ev ρ x = .pointer (some ⟨b, o, none⟩)) (hm : Has H b (.cells cs T fz)) (hl : aggB P t = true) (hs' : (sz P t).isSome = true) (hn : (sz P t).getD 0 = n) (hr : RowAt cs o n r) : Rd P e ρ H ⟨d, .load t x, ty, pos, af, g⟩ (.agg r.toArray) := rd_loadR hx hl hs' hn hm.mem hr
theorem rd_loadHA (hx : ev ρ x = .pointer (some ⟨b, o, none⟩)) (hm : Has H b (.cells cs T fz)) (hl : leaf P t = true) (hr : RowAt cs o 1 [v]) : Rd P e ρ H ⟨d, .load t x, ty, pos, af, g⟩ v := rd_loadA hx hl hm.mem hr
section
variable {κ α : Type} {inst : DecidableEq κ} {kv : κ → Value} {enc : α → Value} {es : Array MapEntry} {ml : List (κ × α)} {k : κ} {a : α} {okb : Bool} {z : Value}
theorem rd_lookup_someH (hg : aget ml k = some a) (hx : ev ρ x = .map (some b)) (hm : Has H b (.map es clk)) (hM : MapK kv enc es clk ml) (hy : ev ρ y = kv k) (ht : P.underlying t = some (.map kt et)) (hk : KeyOK P kt kv) :
    Rd P e ρ H ⟨d, .lookup t x y okb, ty, pos, af, g⟩ (lookV okb (enc a) true) := rd_lookup_some hg hx hm.mem hM hy ht hk
theorem rd_lookup_noneH (hg : aget ml k = none) (hx : ev ρ x = .map (some b)) (hm : Has H b (.map es clk)) (hM : MapK kv enc es clk ml) (hy : ev ρ y = kv k) (ht : P.underlying t = some (.map kt et)) (hk : KeyOK P kt kv) (hz : zval P et = some z) :
    Rd P e ρ H ⟨d, .lookup t x y okb, ty, pos, af, g⟩ (lookV okb z false) := rd_lookup_none hg hx hm.mem hM hy ht hk hz
theorem rd_len_mapH {ats : Array TypeId} (hx : ev ρ x = .map (some b)) (hm : Has H b (.map es clk)) (hM : MapK kv enc es clk ml) (ha : ats[0]? = some t) (ht : P.underlying t = some (.map kt et)) :
    Rd P e ρ H ⟨d, .call ⟨.builtin .len, #[x], ats⟩, ty, pos, af, g⟩ (.int .i64 ml.length) := rd_len_map hx hm.mem hM ha ht
end
end
section
variable {C : Cx} {ops : Array Oper} {Hs : Hp} {Q : Post} {pl : List Nat} {rest : List Oper} {ρ : Fr} {ds : List Nat} {H : Hp} {i : Nat}
variable {op : Op} {ty : TypeId} {pos : String} {af : Array Edge} {g : Option (Nat × Bool)} {d : Nat} {v v' : Value} {K : Value → Hp → Prop}
theorem rd_entryH {κ α : Type} {kv : κ → Value} {enc : α → Value} {es : Array MapEntry} {ml left : List (κ × α)} {p : κ × α} {bi b clk : Nat} {x : Operand} {o : Obj} (hx : ev ρ x = .pointer (some ⟨bi, 0, none⟩)) (ho : Has H bi o) (hI : IterK kv enc b es clk (some p) left o) (hm : Has H b (.map es clk)) (hM : MapK kv enc es clk ml) :
    Rd C.P C.e ρ H ⟨some d, .entry x, ty, pos, af, g⟩ (.tuple #[kv p.1, enc p.2]) := rd_entry hx ho.mem hI hm.mem hM
theorem s_rdp (h : wpO C ops Q rest (upd ρ d v) ds H) (hi : isRd op = true := by exact rfl) (hm : memRd op = false := by exact rfl) (hw : wantV C.N ops ρ ⟨some d, op, ty, pos, af, g⟩ = true := by exact rfl) (hd : Nat.blt d C.N = true := by exact rfl) (hr : Rd C.P C.e ρ H ⟨some d, op, ty, pos, af, g⟩ v := by first | (apply rd_fieldAddrN; exact rfl; exact rfl; (conv => lhs; whnf); done) | (apply rd_minNN; exact rfl; exact rfl; done) | (apply rdQ_eq; exact rfl; (conv => lhs; whnf); done) | (apply rd_makeFuncE; (repeat (first | exact EvL.nil | (apply EvL.cons; (conv => lhs; whnf)))); (repeat (first | exact EvL.nil | (apply EvL.cons; (conv => lhs; whnf)))); done) | (apply rd_buildE; (repeat (first | exact EvP.nil | (apply EvP.cons; (conv => lhs; whnf)))); exact rfl; (first | (conv => lhs; simp only [putL, List.set, valL, List.toList_toArray]) | exact rfl); done) | (apply rd_addN1; exact rfl; exact rfl; omega; done) | (apply rd_addNN; exact rfl; exact rfl; omega; done) | (apply rd_subNN; exact rfl; exact rfl; omega; omega; done) | (apply rd_add64; exact rfl; exact rfl; omega; omega; done) | (apply rd_sub64; exact rfl; exact rfl; omega; omega; done) | (apply rd_indexAddrK; exact rfl; exact rfl; exact rfl; exact rfl; (conv => lhs; whnf); omega; done) | (apply rd_indexAddr; exact rfl; exact rfl; exact rfl; exact rfl; omega; omega; done) | (apply rd_slice00; exact rfl; exact rfl; exact rfl; exact rfl; exact rfl; done) | (apply rd_minNN; exact rfl; exact rfl; done) | (apply rd_min; exact rfl; exact rfl; done) | (apply rd_max; exact rfl; exact rfl; done) | (apply rd_addw; exact rfl; exact rfl; done) | (apply rd_subw; exact rfl; exact rfl; done) | (apply rd_mulw; exact rfl; exact rfl; done) | (apply rd_eqS; exact rfl; exact rfl; kernel_rfl; assumption; done) | (apply rd_neS; exact rfl; exact rfl; kernel_rfl; assumption; exact rfl; done) | (apply rd_eqA; exact rfl; exact rfl; kernel_rfl; assumption; done) | (apply rd_neA; exact rfl; exact rfl; kernel_rfl; assumption; exact rfl; done)) : wpO C ops Q (⟨some d, op, ty, pos, af, g⟩ :: rest) ρ ds H := wpO_rds hw hd hr h
theorem s_rdm (h : wpO C ops Q rest (upd ρ d v) ds H) (hi : isRd op = true := by exact rfl) (hm : memRd op = true := by exact rfl) (hw : wantV C.N ops ρ ⟨some d, op, ty, pos, af, g⟩ = true := by exact rfl) (hd : Nat.blt d C.N = true := by exact rfl) (hr : Rd C.P C.e ρ H ⟨some d, op, ty, pos, af, g⟩ v := by first | (apply rdQ_eq; exact rfl; (conv => lhs; whnf); done) | (apply rd_len_inT; (conv => lhs; whnf); assumption; exact rfl; exact rfl; done) | (apply rd_bytesStrO; (conv => lhs; whnf); assumption; exact Sbs.sub (self := by infer_instance); exact rfl; exact rfl; exact rfl; done) | (apply rd_bytesStr; (conv => lhs; whnf); assumption; exact Sbs.sub (self := by infer_instance); exact rfl; exact rfl; exact rfl; done) | (apply rd_len_slo; (conv => lhs; whnf); assumption; exact rfl; exact rfl; done) | (apply rd_loadH; exact rfl; infer_instance; exact rfl; exact rfl; (conv => lhs; whnf); done) | (apply rd_loadHN; exact rfl; infer_instance; exact rfl; exact rfl; (repeat (first | exact .nil | apply TakeR.cons | apply TakeR.skip)); done) | (apply rd_loadHR; exact rfl; infer_instance; exact rfl; exact rfl; (conv => lhs; whnf); assumption; done) | (apply rd_loadHA; exact rfl; infer_instance; exact rfl; assumption; done) | (apply rd_loadHF; exact rfl; infer_instance; exact rfl; assumption; exact rfl; (conv => lhs; whnf); done) | (apply rd_loadHF2; exact rfl; infer_instance; exact rfl; assumption; exact rfl; (conv => lhs; whnf); done) | (apply rd_loadHQ; exact rfl; infer_instance; exact rfl; exact rfl; assumption; (repeat (first | exact .nil | apply TakeR.cons | apply TakeR.skip)); done) | (apply rd_lookup_someH; assumption; exact rfl; infer_instance; assumption; exact rfl; exact rfl; (first | exact keyOK_int rfl | exact keyOK_str rfl); done) | (apply rd_lookup_noneH; assumption; exact rfl; infer_instance; assumption; exact rfl; exact rfl; (first | exact keyOK_int rfl | exact keyOK_str rfl); exact rfl; done) | (apply rd_lookup_nil; exact rfl; exact rfl; exact rfl; (first | exact keyOK_int rfl | exact keyOK_str rfl); exact rfl; done) | (apply rd_len_mapH; exact rfl; infer_instance; assumption; exact rfl; exact rfl; done) | (apply rd_entryH; exact rfl; infer_instance; assumption; infer_instance; assumption; done)) : wpO C ops Q (⟨some d, op, ty, pos, af, g⟩ :: rest) ρ ds H := wpO_rds hw hd hr h
theorem d_rdp (h : wpD C ops Hs Q pl (upd ρ d v) ds H) (ho : ops[i]? = some ⟨some d, op, ty, pos, af, g⟩ := by exact rfl) (hi : isRd op = true := by exact rfl) (hm : memRd op = false := by exact rfl) (hw : wantV C.N ops ρ ⟨some d, op, ty, pos, af, g⟩ = true := by exact rfl) (hd : Nat.blt d C.N = true := by exact rfl) (hr : Rd C.P C.e ρ [] ⟨some d, op, ty, pos, af, g⟩ v := by first | (apply rd_fieldAddrN; exact rfl; exact rfl; (conv => lhs; whnf); done) | (apply rd_minNN; exact rfl; exact rfl; done) | (apply rdQ_eq; exact rfl; (conv => lhs; whnf); done) | (apply rd_makeFuncE; (repeat (first | exact EvL.nil | (apply EvL.cons; (conv => lhs; whnf)))); (repeat (first | exact EvL.nil | (apply EvL.cons; (conv => lhs; whnf)))); done) | (apply rd_buildE; (repeat (first | exact EvP.nil | (apply EvP.cons; (conv => lhs; whnf)))); exact rfl; (first | (conv => lhs; simp only [putL, List.set, valL, List.toList_toArray]) | exact rfl); done) | (apply rd_addN1; exact rfl; exact rfl; omega; done) | (apply rd_addNN; exact rfl; exact rfl; omega; done) | (apply rd_subNN; exact rfl; exact rfl; omega; omega; done) | (apply rd_add64; exact rfl; exact rfl; omega; omega; done) | (apply rd_sub64; exact rfl; exact rfl; omega; omega; done) | (apply rd_indexAddrK; exact rfl; exact rfl; exact rfl; exact rfl; (conv => lhs; whnf); omega; done) | (apply rd_indexAddr; exact rfl; exact rfl; exact rfl; exact rfl; omega; omega; done) | (apply rd_slice00; exact rfl; exact rfl; exact rfl; exact rfl; exact rfl; done) | (apply rd_minNN; exact rfl; exact rfl; done) | (apply rd_min; exact rfl; exact rfl; done) | (apply rd_max; exact rfl; exact rfl; done) | (apply rd_addw; exact rfl; exact rfl; done) | (apply rd_subw; exact rfl; exact rfl; done) | (apply rd_mulw; exact rfl; exact rfl; done) | (apply rd_eqS; exact rfl; exact rfl; kernel_rfl; assumption; done) | (apply rd_neS; exact rfl; exact rfl; kernel_rfl; assumption; exact rfl; done) | (apply rd_eqA; exact rfl; exact rfl; kernel_rfl; assumption; done) | (apply rd_neA; exact rfl; exact rfl; kernel_rfl; assumption; exact rfl; done)) : wpD C ops Hs Q (i :: pl) ρ ds H := wpD_rds ho hi hw hd (by rw [hm]; exact hr) h
theorem d_rdm (h : wpD C ops Hs Q pl (upd ρ d v) ds H) (ho : ops[i]? = some ⟨some d, op, ty, pos, af, g⟩ := by exact rfl) (hi : isRd op = true := by exact rfl) (hm : memRd op = true := by exact rfl) (hw : wantV C.N ops ρ ⟨some d, op, ty, pos, af, g⟩ = true := by exact rfl) (hd : Nat.blt d C.N = true := by exact rfl) (hr : Rd C.P C.e ρ Hs ⟨some d, op, ty, pos, af, g⟩ v := by first | (apply rdQ_eq; exact rfl; (conv => lhs; whnf); done) | (apply rd_len_inT; (conv => lhs; whnf); assumption; exact rfl; exact rfl; done) | (apply rd_bytesStrO; (conv => lhs; whnf); assumption; exact Sbs.sub (self := by infer_instance); exact rfl; exact rfl; exact rfl; done) | (apply rd_bytesStr; (conv => lhs; whnf); assumption; exact Sbs.sub (self := by infer_instance); exact rfl; exact rfl; exact rfl; done) | (apply rd_len_slo; (conv => lhs; whnf); assumption; exact rfl; exact rfl; done) | (apply rd_loadH; exact rfl; infer_instance; exact rfl; exact rfl; (conv => lhs; whnf); done) | (apply rd_loadHN; exact rfl; infer_instance; exact rfl; exact rfl; (repeat (first | exact .nil | apply TakeR.cons | apply TakeR.skip)); done) | (apply rd_loadHR; exact rfl; infer_instance; exact rfl; exact rfl; (conv => lhs; whnf); assumption; done) | (apply rd_loadHA; exact rfl; infer_instance; exact rfl; assumption; done) | (apply rd_loadHF; exact rfl; infer_instance; exact rfl; assumption; exact rfl; (conv => lhs; whnf); done) | (apply rd_loadHF2; exact rfl; infer_instance; exact rfl; assumption; exact rfl; (conv => lhs; whnf); done) | (apply rd_loadHQ; exact rfl; infer_instance; exact rfl; exact rfl; assumption; (repeat (first | exact .nil | apply TakeR.cons | apply TakeR.skip)); done) | (apply rd_lookup_someH; assumption; exact rfl; infer_instance; assumption; exact rfl; exact rfl; (first | exact keyOK_int rfl | exact keyOK_str rfl); done) | (apply rd_lookup_noneH; assumption; exact rfl; infer_instance; assumption; exact rfl; exact rfl; (first | exact keyOK_int rfl | exact keyOK_str rfl); exact rfl; done) | (apply rd_lookup_nil; exact rfl; exact rfl; exact rfl; (first | exact keyOK_int rfl | exact keyOK_str rfl); exact rfl; done) | (apply rd_len_mapH; exact rfl; infer_instance; assumption; exact rfl; exact rfl; done) | (apply rd_entryH; exact rfl; infer_instance; assumption; infer_instance; assumption; done)) : wpD C ops Hs Q (i :: pl) ρ ds H := wpD_rds ho hi hw hd (by rw [hm]; exact hr) h
section
variable {bop : BinOp} {t yt : TypeId} {x y : Operand} {p : Prop} {inst : Decidable p} {c : Bool}
theorem rd_binV {e : World} {d : Option Nat} (hr : binV C.P bop t (ev ρ x) (ev ρ y) = some v) : Rd C.P e ρ H ⟨d, .binOp bop t x y yt, ty, pos, af, g⟩ v := rdP_sound (by unfold rdP; exact hr)
theorem s_tt (h : wpO C ops Q rest (upd ρ d (.bool true)) ds H) (hr : binV C.P bop t (ev ρ x) (ev ρ y) = some (.bool true) := by exact rfl) (hw : wantV C.N ops ρ ⟨some d, .binOp bop t x y yt, ty, pos, af, g⟩ = true := by exact rfl) (hd : Nat.blt d C.N = true := by exact rfl) : wpO C ops Q (⟨some d, .binOp bop t x y yt, ty, pos, af, g⟩ :: rest) ρ ds H := wpO_rds hw hd (rd_binV hr) h
theorem s_ff (h : wpO C ops Q rest (upd ρ d (.bool false)) ds H) (hr : binV C.P bop t (ev ρ x) (ev ρ y) = some (.bool false) := by exact rfl) (hw : wantV C.N ops ρ ⟨some d, .binOp bop t x y yt, ty, pos, af, g⟩ = true := by exact rfl) (hd : Nat.blt d C.N = true := by exact rfl) : wpO C ops Q (⟨some d, .binOp bop t x y yt, ty, pos, af, g⟩ :: rest) ρ ds H := wpO_rds hw hd (rd_binV hr) h
theorem s_cmp (h1 : p → wpO C ops Q rest (upd ρ d (.bool true)) ds H) (h2 : ¬ p → wpO C ops Q rest (upd ρ d (.bool false)) ds H) (hr : binV C.P bop t (ev ρ x) (ev ρ y) = some (.bool (@decide p inst)) := by exact rfl) (hw : wantV C.N ops ρ ⟨some d, .binOp bop t x y yt, ty, pos, af, g⟩ = true := by exact rfl) (hd : Nat.blt d C.N = true := by exact rfl) : wpO C ops Q (⟨some d, .binOp bop t x y yt, ty, pos, af, g⟩ :: rest) ρ ds H := by
  by_cases hp : p
  · exact wpO_rds hw hd (rd_binV hr) (by rw [decide_eq_true hp]; exact h1 hp)
  · exact wpO_rds hw hd (rd_binV hr) (by rw [decide_eq_false hp]; exact h2 hp)
theorem s_cb (h1 : c = true → wpO C ops Q rest (upd ρ d (.bool true)) ds H) (h2 : c = false → wpO C ops Q rest (upd ρ d (.bool false)) ds H) (hr : binV C.P bop t (ev ρ x) (ev ρ y) = some (.bool c) := by exact rfl) (hw : wantV C.N ops ρ ⟨some d, .binOp bop t x y yt, ty, pos, af, g⟩ = true := by exact rfl) (hd : Nat.blt d C.N = true := by exact rfl) : wpO C ops Q (⟨some d, .binOp bop t x y yt, ty, pos, af, g⟩ :: rest) ρ ds H := by
  cases c with
  | true => exact wpO_rds hw hd (rd_binV hr) (h1 rfl)
  | false => exact wpO_rds hw hd (rd_binV hr) (h2 rfl)
theorem d_tt (h : wpD C ops Hs Q pl (upd ρ d (.bool true)) ds H) (ho : ops[i]? = some ⟨some d, .binOp bop t x y yt, ty, pos, af, g⟩ := by exact rfl) (hw : wantV C.N ops ρ ⟨some d, .binOp bop t x y yt, ty, pos, af, g⟩ = true := by exact rfl) (hd : Nat.blt d C.N = true := by exact rfl) (hr : binV C.P bop t (ev ρ x) (ev ρ y) = some (.bool true) := by exact rfl) : wpD C ops Hs Q (i :: pl) ρ ds H := wpD_rds ho rfl hw hd (rd_binV hr) h
theorem d_ff (h : wpD C ops Hs Q pl (upd ρ d (.bool false)) ds H) (ho : ops[i]? = some ⟨some d, .binOp bop t x y yt, ty, pos, af, g⟩ := by exact rfl) (hw : wantV C.N ops ρ ⟨some d, .binOp bop t x y yt, ty, pos, af, g⟩ = true := by exact rfl) (hd : Nat.blt d C.N = true := by exact rfl) (hr : binV C.P bop t (ev ρ x) (ev ρ y) = some (.bool false) := by exact rfl) : wpD C ops Hs Q (i :: pl) ρ ds H := wpD_rds ho rfl hw hd (rd_binV hr) h
theorem d_cmp (h1 : p → wpD C ops Hs Q pl (upd ρ d (.bool true)) ds H) (h2 : ¬ p → wpD C ops Hs Q pl (upd ρ d (.bool false)) ds H) (ho : ops[i]? = some ⟨some d, .binOp bop t x y yt, ty, pos, af, g⟩ := by exact rfl) (hw : wantV C.N ops ρ ⟨some d, .binOp bop t x y yt, ty, pos, af, g⟩ = true := by exact rfl) (hd : Nat.blt d C.N = true := by exact rfl) (hr : binV C.P bop t (ev ρ x) (ev ρ y) = some (.bool (@decide p inst)) := by exact rfl) : wpD C ops Hs Q (i :: pl) ρ ds H := by
  by_cases hp : p
  · exact wpD_rds ho rfl hw hd (rd_binV hr) (by rw [decide_eq_true hp]; exact h1 hp)
  · exact wpD_rds ho rfl hw hd (rd_binV hr) (by rw [decide_eq_false hp]; exact h2 hp)
theorem d_cb (h1 : c = true → wpD C ops Hs Q pl (upd ρ d (.bool true)) ds H) (h2 : c = false → wpD C ops Hs Q pl (upd ρ d (.bool false)) ds H) (ho : ops[i]? = some ⟨some d, .binOp bop t x y yt, ty, pos, af, g⟩ := by exact rfl) (hw : wantV C.N ops ρ ⟨some d, .binOp bop t x y yt, ty, pos, af, g⟩ = true := by exact rfl) (hd : Nat.blt d C.N = true := by exact rfl) (hr : binV C.P bop t (ev ρ x) (ev ρ y) = some (.bool c) := by exact rfl) : wpD C ops Hs Q (i :: pl) ρ ds H := by
  cases c with
  | true => exact wpD_rds ho rfl hw hd (rd_binV hr) (h1 rfl)
  | false => exact wpD_rds ho rfl hw hd (rd_binV hr) (h2 rfl)
end
section
variable {κ α : Type} {inst : DecidableEq κ} {kv : κ → Value} {enc : α → Value} {es : Array MapEntry} {ml : List (κ × α)} {k : κ} {a : α} {okb : Bool} {z : Value} {t kt et : TypeId} {x y : Operand} {b clk : Nat}
theorem s_look (h1 : ∀ a, aget ml k = some a → wpO C ops Q rest (upd ρ d (lookV okb (enc a) true)) ds H) (h2 : aget ml k = none → wpO C ops Q rest (upd ρ d (lookV okb z false)) ds H) (hx : ev ρ x = .map (some b) := by exact rfl) (hm : Has H b (.map es clk) := by infer_instance) (hM : MapK kv enc es clk ml := by assumption) (hy : ev ρ y = kv k := by exact rfl)
    (ht : C.P.underlying t = some (.map kt et) := by exact rfl) (hk : KeyOK C.P kt kv := by (first | exact keyOK_int rfl | exact keyOK_str rfl)) (hz : zval C.P et = some z := by exact rfl) (hw : wantV C.N ops ρ ⟨some d, .lookup t x y okb, ty, pos, af, g⟩ = true := by exact rfl) (hd : Nat.blt d C.N = true := by exact rfl) : wpO C ops Q (⟨some d, .lookup t x y okb, ty, pos, af, g⟩ :: rest) ρ ds H := by
  cases hg : aget ml k with
  | some a => exact wpO_rds hw hd (rd_lookup_some hg hx hm.mem hM hy ht hk) (h1 a hg)
  | none => exact wpO_rds hw hd (rd_lookup_none hg hx hm.mem hM hy ht hk hz) (h2 hg)
theorem d_look (h1 : ∀ a, aget ml k = some a → wpD C ops Hs Q pl (upd ρ d (lookV okb (enc a) true)) ds H) (h2 : aget ml k = none → wpD C ops Hs Q pl (upd ρ d (lookV okb z false)) ds H) (ho : ops[i]? = some ⟨some d, .lookup t x y okb, ty, pos, af, g⟩ := by exact rfl) (hw : wantV C.N ops ρ ⟨some d, .lookup t x y okb, ty, pos, af, g⟩ = true := by exact rfl) (hd : Nat.blt d C.N = true := by exact rfl) (hx : ev ρ x = .map (some b) := by exact rfl) (hm : Has Hs b (.map es clk) := by infer_instance) (hM : MapK kv enc es clk ml := by assumption) (hy : ev ρ y = kv k := by exact rfl)
    (ht : C.P.underlying t = some (.map kt et) := by exact rfl) (hk : KeyOK C.P kt kv := by (first | exact keyOK_int rfl | exact keyOK_str rfl)) (hz : zval C.P et = some z := by exact rfl) : wpD C ops Hs Q (i :: pl) ρ ds H := by
  cases hg : aget ml k with
  | some a => exact wpD_rds ho rfl hw hd (rd_lookup_some hg hx hm.mem hM hy ht hk) (h1 a hg)
  | none => exact wpD_rds ho rfl hw hd (rd_lookup_none hg hx hm.mem hM hy ht hk hz) (h2 hg)
end
theorem s_exq (h : Ex C ⟨some d, op, ty, pos, af, g⟩ (fun v H' => wpO C ops Q rest (upd ρ d v) ds H') ρ H) (hi : isRd op = false := by exact rfl) (hw : wantV C.N ops ρ ⟨some d, op, ty, pos, af, g⟩ = true := by exact rfl) (hd : Nat.blt d C.N = true := by exact rfl) : wpO C ops Q (⟨some d, op, ty, pos, af, g⟩ :: rest) ρ ds H := wpO_exs hw hd h
theorem s_exm (h : Ex C ⟨none, op, ty, pos, af, g⟩ (fun _ H' => wpO C ops Q rest ρ ds H') ρ H) (hi : isRd op = false := by exact rfl) (hw : wantV C.N ops ρ ⟨none, op, ty, pos, af, g⟩ = true := by exact rfl) : wpO C ops Q (⟨none, op, ty, pos, af, g⟩ :: rest) ρ ds H := wpO_exn hw h
theorem s_exs (h : Ex C ⟨some d, op, ty, pos, af, g⟩ (fun v H' => wpO C ops Q rest (upd ρ d v) ds H') ρ H) (hw : wantV C.N ops ρ ⟨some d, op, ty, pos, af, g⟩ = true := by exact rfl) (hd : Nat.blt d C.N = true := by exact rfl) : wpO C ops Q (⟨some d, op, ty, pos, af, g⟩ :: rest) ρ ds H := wpO_exs hw hd h
theorem s_sks (h : wpO C ops Q rest (upd ρ d undef) ds H) (hw : wantV C.N ops ρ ⟨some d, op, ty, pos, af, g⟩ = false := by exact rfl) (hd : Nat.blt d C.N = true := by exact rfl) : wpO C ops Q (⟨some d, op, ty, pos, af, g⟩ :: rest) ρ ds H := wpO_sks hw hd h
theorem s_skn (h : wpO C ops Q rest ρ ds H) (hw : wantV C.N ops ρ ⟨none, op, ty, pos, af, g⟩ = false := by exact rfl) : wpO C ops Q (⟨none, op, ty, pos, af, g⟩ :: rest) ρ ds H := wpO_skn hw h
theorem d_sks (h : wpD C ops Hs Q pl (upd ρ d undef) ds H) (ho : ops[i]? = some ⟨some d, op, ty, pos, af, g⟩ := by exact rfl) (hw : wantV C.N ops ρ ⟨some d, op, ty, pos, af, g⟩ = false := by exact rfl) (hd : Nat.blt d C.N = true := by exact rfl) : wpD C ops Hs Q (i :: pl) ρ ds H := wpD_sks ho hw hd h
theorem d_exs (h : Ex C ⟨some d, op, ty, pos, af, g⟩ (fun v H' => (covers ops i = true ∨ Subs Hs H') ∧ wpD C ops Hs Q pl (upd ρ d v) ds H') ρ H) (ho : ops[i]? = some ⟨some d, op, ty, pos, af, g⟩ := by exact rfl) (hi : isRd op = false := by exact rfl) (hw : wantV C.N ops ρ ⟨some d, op, ty, pos, af, g⟩ = true := by exact rfl) (hd : Nat.blt d C.N = true := by exact rfl) :
    wpD C ops Hs Q (i :: pl) ρ ds H := wpD_exs ho hi hw hd h
theorem d_exn (h : Ex C ⟨none, op, ty, pos, af, g⟩ (fun _ H' => (covers ops i = true ∨ Subs Hs H') ∧ wpD C ops Hs Q pl ρ ds H') ρ H) (ho : ops[i]? = some ⟨none, op, ty, pos, af, g⟩ := by exact rfl) (hi : isRd op = false := by exact rfl) (hw : wantV C.N ops ρ ⟨none, op, ty, pos, af, g⟩ = true := by exact rfl) :
    wpD C ops Hs Q (i :: pl) ρ ds H := wpD_exn ho hi hw h
theorem d_sub {W Z : Prop} (h2 : W) (h1 : Subs Hs H := by exact Sbs.sub (self := by infer_instance)) : (Z ∨ Subs Hs H) ∧ W := ⟨.inr h1, h2⟩
theorem d_cov {W Z : Prop} (h2 : W) (h1 : covers ops i = true := by decide +kernel) : (covers ops i = true ∨ Z) ∧ W := ⟨.inl h1, h2⟩
section
variable {x y : Operand} {t el : TypeId} {n : Nat} {F : Hp} {α : Type} {ws : List α} {C' : α → List Value} {a : α} {q : IntKind} {k : Nat}
theorem s_sliceHi (h : ∀ v', InSl F n ((ws.take k).map C') v' → wpO C ops Q rest (upd ρ d v') ds H) (hx : ev ρ x = v := by (conv => lhs; whnf)) (hy : ev ρ y = .int q (k : Int) := by exact rfl) (hin : InSl F n (ws.map C') v := by assumption) (ht : C.P.underlying t = some (.slice el) := by exact rfl) (hs : sz C.P el = some n := by exact rfl) (hi : k ≤ ws.length := by omega) (hw : wantV C.N ops ρ ⟨some d, .slice t x none (some y) none, ty, pos, af, g⟩ = true := by exact rfl) (hd : Nat.blt d C.N = true := by exact rfl) : wpO C ops Q (⟨some d, .slice t x none (some y) none, ty, pos, af, g⟩ :: rest) ρ ds H :=
  let ⟨v', h1, h2⟩ := rd_sliceHi hx hy hin ht hs (by simpa using hi); wpO_rds hw hd h2 (h v' (by rw [List.map_take]; exact h1))
theorem d_sliceHi (h : ∀ v', InSl F n ((ws.take k).map C') v' → wpD C ops Hs Q pl (upd ρ d v') ds H) (ho : ops[i]? = some ⟨some d, .slice t x none (some y) none, ty, pos, af, g⟩ := by exact rfl) (hx : ev ρ x = v := by (conv => lhs; whnf)) (hy : ev ρ y = .int q (k : Int) := by exact rfl) (hin : InSl F n (ws.map C') v := by assumption) (ht : C.P.underlying t = some (.slice el) := by exact rfl) (hs : sz C.P el = some n := by exact rfl) (hi : k ≤ ws.length := by omega) (hw : wantV C.N ops ρ ⟨some d, .slice t x none (some y) none, ty, pos, af, g⟩ = true := by exact rfl) (hd : Nat.blt d C.N = true := by exact rfl) : wpD C ops Hs Q (i :: pl) ρ ds H :=
  let ⟨v', h1, h2⟩ := rd_sliceHi hx hy hin ht hs (by simpa using hi); wpD_rds ho rfl hw hd h2 (h v' (by rw [List.map_take]; exact h1))
theorem s_sliceLo (h : ∀ v', InSl F n ((ws.drop k).map C') v' → wpO C ops Q rest (upd ρ d v') ds H) (hx : ev ρ x = v := by (conv => lhs; whnf)) (hy : ev ρ y = .int q (k : Int) := by exact rfl) (hin : InSl F n (ws.map C') v := by assumption) (ht : C.P.underlying t = some (.slice el) := by exact rfl) (hs : sz C.P el = some n := by exact rfl) (hi : k ≤ ws.length := by omega) (hw : wantV C.N ops ρ ⟨some d, .slice t x (some y) none none, ty, pos, af, g⟩ = true := by exact rfl) (hd : Nat.blt d C.N = true := by exact rfl) : wpO C ops Q (⟨some d, .slice t x (some y) none none, ty, pos, af, g⟩ :: rest) ρ ds H :=
  let ⟨v', h1, h2⟩ := rd_sliceLo hx hy hin ht hs (by simpa using hi); wpO_rds hw hd h2 (h v' (by rw [List.map_drop]; exact h1))
theorem d_sliceLo (h : ∀ v', InSl F n ((ws.drop k).map C') v' → wpD C ops Hs Q pl (upd ρ d v') ds H) (ho : ops[i]? = some ⟨some d, .slice t x (some y) none none, ty, pos, af, g⟩ := by exact rfl) (hx : ev ρ x = v := by (conv => lhs; whnf)) (hy : ev ρ y = .int q (k : Int) := by exact rfl) (hin : InSl F n (ws.map C') v := by assumption) (ht : C.P.underlying t = some (.slice el) := by exact rfl) (hs : sz C.P el = some n := by exact rfl) (hi : k ≤ ws.length := by omega) (hw : wantV C.N ops ρ ⟨some d, .slice t x (some y) none none, ty, pos, af, g⟩ = true := by exact rfl) (hd : Nat.blt d C.N = true := by exact rfl) : wpD C ops Hs Q (i :: pl) ρ ds H :=
  let ⟨v', h1, h2⟩ := rd_sliceLo hx hy hin ht hs (by simpa using hi); wpD_rds ho rfl hw hd h2 (h v' (by rw [List.map_drop]; exact h1))
theorem rd_idx {e : World} {d : Option Nat} (hx : ev ρ x = v) (hy : ev ρ y = .int q (k : Int)) (hin : InSl F n (ws.map C') v) (ha : ws[k]? = some a) (ht : C.P.underlying t = some (.slice el)) (hs : sz C.P el = some n) : ∃ b o cs T fz, Has F b (.cells cs T fz) ∧ RowAt cs o n (C' a) ∧ Rd C.P e ρ H ⟨d, .indexAddr t x y, ty, pos, af, g⟩ (.pointer (some ⟨b, o, none⟩)) := by
  obtain ⟨b, o, cs, T, fz, cap, rfl, hm, hr⟩ := hin.at (i := k) (r := C' a) (by simp [ha])
  have hlt := (List.getElem?_eq_some_iff.1 ha).1
  refine ⟨b, _, cs, T, fz, ⟨hm⟩, hr, rd_indexAddrK hx hy ht (by rw [hs]; rfl) (by rw [hs]; rfl) (by simpa using hlt)⟩
theorem s_idx (h : ∀ b o cs T fz, Has F b (.cells cs T fz) → RowAt cs o n (C' a) → wpO C ops Q rest (upd ρ d (.pointer (some ⟨b, o, none⟩))) ds H) (hx : ev ρ x = v := by (conv => lhs; whnf)) (hy : ev ρ y = .int q (k : Int) := by exact rfl) (hin : InSl F n (ws.map C') v := by assumption) (ha : ws[k]? = some a := by assumption) (ht : C.P.underlying t = some (.slice el) := by exact rfl) (hs : sz C.P el = some n := by exact rfl) (hw : wantV C.N ops ρ ⟨some d, .indexAddr t x y, ty, pos, af, g⟩ = true := by exact rfl) (hd : Nat.blt d C.N = true := by exact rfl) : wpO C ops Q (⟨some d, .indexAddr t x y, ty, pos, af, g⟩ :: rest) ρ ds H :=
  let ⟨b, o, cs, T, fz, h1, h2, h3⟩ := rd_idx hx hy hin ha ht hs; wpO_rds hw hd h3 (h b o cs T fz h1 h2)
theorem d_idx (h : ∀ b o cs T fz, Has F b (.cells cs T fz) → RowAt cs o n (C' a) → wpD C ops Hs Q pl (upd ρ d (.pointer (some ⟨b, o, none⟩))) ds H) (ho : ops[i]? = some ⟨some d, .indexAddr t x y, ty, pos, af, g⟩ := by exact rfl) (hx : ev ρ x = v := by (conv => lhs; whnf)) (hy : ev ρ y = .int q (k : Int) := by exact rfl) (hin : InSl F n (ws.map C') v := by assumption) (ha : ws[k]? = some a := by assumption) (ht : C.P.underlying t = some (.slice el) := by exact rfl) (hs : sz C.P el = some n := by exact rfl) (hw : wantV C.N ops ρ ⟨some d, .indexAddr t x y, ty, pos, af, g⟩ = true := by exact rfl) (hd : Nat.blt d C.N = true := by exact rfl) : wpD C ops Hs Q (i :: pl) ρ ds H :=
  let ⟨b, o, cs, T, fz, h1, h2, h3⟩ := rd_idx hx hy hin ha ht hs; wpD_rds ho rfl hw hd h3 (h b o cs T fz h1 h2)
end
theorem e_appendIn {d : Option Nat} {x y : Operand} {t e : TypeId} {i : TypeInfo} {z : Value} {sz bytes : Nat} {v vy : Value} {n : Nat} {xs : List Value} {Bs R F : Hp} {α : Type} {ws : List α} {C' : α → List Value}
    (h : ∀ v' Bs', SlO e sz v' (n + ws.length) (xs ++ (ws.map C').flatten) Bs' → K v' (Bs' ++ R)) (hx : ev ρ x = v := by (conv => lhs; whnf)) (hS : SlO e sz v n xs Bs := by assumption) (hy : ev ρ y = vy := by (conv => lhs; whnf)) (hin : InSl F sz (ws.map C') vy := by assumption) (ht : C.P.underlying t = some (.slice e) := by exact rfl) (hi : C.P.info? e = some i := by exact rfl) (hz : i.zero = some z := by exact rfl) (hsize : i.size = sz := by exact rfl) (hby : i.bytes = bytes := by (conv => lhs; whnf)) (hzs : z.cells.size = sz := by exact rfl) (hsz : Nat.blt 0 sz = true := by exact rfl)
    (hp : Rm H Bs R := by infer_instance) (hF : Sbs F H := by infer_instance) (h63 : n + ws.length ≤ maxLen := by (unfold maxLen; first | omega | (simp only [List.length_take, List.length_drop]; omega))) (hbytes : (n + ws.length) * bytes ≤ 140737488355328 := by (first | omega | (simp only [List.length_take, List.length_drop]; omega) | (show _ * 1 ≤ _; omega) | (show _ * 8 ≤ _; omega) | (show _ * 16 ≤ _; omega) | (show _ * 24 ≤ _; omega) | (show _ * 32 ≤ _; omega) | (show _ * 40 ≤ _; omega) | (show _ * 48 ≤ _; omega) | (show _ * 56 ≤ _; omega) | (show _ * 64 ≤ _; omega) | (show _ * 72 ≤ _; omega) | (show _ * 80 ≤ _; omega) | (show _ * 88 ≤ _; omega) | (show _ * 504 ≤ _; omega) | (show _ * 528 ≤ _; omega) | (show _ * 544 ≤ _; omega))) :
    Ex C ⟨d, .call ⟨.builtin .append, #[x, y], #[t, t]⟩, ty, pos, af, g⟩ K ρ H := ex_appendIn hx hS hy hin ht hi hz hsize hby hzs hsz hp hF.sub (by rw [List.length_map]; exact h63) (by rw [List.length_map]; exact hbytes) (by rw [List.length_map]; exact h)
section
variable {x y z : Operand} {t el : TypeId} {n k m : Nat} {α : Type} {ws : List α} {C' : α → List Value} {q r : IntKind} {Bs : Hp} {xs : List Value}
theorem s_sliceHiT (h : ∀ v', SlO el n v' (ws.take k).length ((ws.take k).map C').flatten Bs → wpO C ops Q rest (upd ρ d v') ds H) (hx : ev ρ x = v := by (conv => lhs; whnf)) (hS : SlO el n v ws.length (ws.map C').flatten Bs := by assumption) (hy : ev ρ y = .int q (k : Int) := by exact rfl) (ht : C.P.underlying t = some (.slice el) := by exact rfl) (hs : sz C.P el = some n := by exact rfl) (hn : ∀ a, (C' a).length = n := by (intro _; exact rfl)) (hk : k ≤ ws.length := by omega) (hw : wantV C.N ops ρ ⟨some d, .slice t x none (some y) none, ty, pos, af, g⟩ = true := by exact rfl) (hd : Nat.blt d C.N = true := by exact rfl) : wpO C ops Q (⟨some d, .slice t x none (some y) none, ty, pos, af, g⟩ :: rest) ρ ds H :=
  let ⟨_, h1, h2⟩ := rd_sliceHiT hx hS hy ht hs hn hk; wpO_rds hw hd h2 (h _ h1)
theorem d_sliceHiT (h : ∀ v', SlO el n v' (ws.take k).length ((ws.take k).map C').flatten Bs → wpD C ops Hs Q pl (upd ρ d v') ds H) (ho : ops[i]? = some ⟨some d, .slice t x none (some y) none, ty, pos, af, g⟩ := by exact rfl) (hx : ev ρ x = v := by (conv => lhs; whnf)) (hS : SlO el n v ws.length (ws.map C').flatten Bs := by assumption) (hy : ev ρ y = .int q (k : Int) := by exact rfl) (ht : C.P.underlying t = some (.slice el) := by exact rfl) (hs : sz C.P el = some n := by exact rfl) (hn : ∀ a, (C' a).length = n := by (intro _; exact rfl)) (hk : k ≤ ws.length := by omega) (hw : wantV C.N ops ρ ⟨some d, .slice t x none (some y) none, ty, pos, af, g⟩ = true := by exact rfl) (hd : Nat.blt d C.N = true := by exact rfl) : wpD C ops Hs Q (i :: pl) ρ ds H :=
  let ⟨_, h1, h2⟩ := rd_sliceHiT hx hS hy ht hs hn hk; wpD_rds ho rfl hw hd h2 (h _ h1)
theorem s_clipO (h : ∀ v', SlO el n v' m xs Bs → wpO C ops Q rest (upd ρ d v') ds H) (hx : ev ρ x = v := by (conv => lhs; whnf)) (hS : SlO el n v m xs Bs := by assumption) (hy : ev ρ y = .int q (m : Int) := by exact rfl) (hz : ev ρ z = .int r (m : Int) := by exact rfl) (ht : C.P.underlying t = some (.slice el) := by exact rfl) (hs : sz C.P el = some n := by exact rfl) (hw : wantV C.N ops ρ ⟨some d, .slice t x none (some y) (some z), ty, pos, af, g⟩ = true := by exact rfl) (hd : Nat.blt d C.N = true := by exact rfl) : wpO C ops Q (⟨some d, .slice t x none (some y) (some z), ty, pos, af, g⟩ :: rest) ρ ds H :=
  let ⟨_, h1, h2⟩ := rd_clipO hx hS hy hz ht hs; wpO_rds hw hd h2 (h _ h1)
theorem d_clipO (h : ∀ v', SlO el n v' m xs Bs → wpD C ops Hs Q pl (upd ρ d v') ds H) (ho : ops[i]? = some ⟨some d, .slice t x none (some y) (some z), ty, pos, af, g⟩ := by exact rfl) (hx : ev ρ x = v := by (conv => lhs; whnf)) (hS : SlO el n v m xs Bs := by assumption) (hy : ev ρ y = .int q (m : Int) := by exact rfl) (hz : ev ρ z = .int r (m : Int) := by exact rfl) (ht : C.P.underlying t = some (.slice el) := by exact rfl) (hs : sz C.P el = some n := by exact rfl) (hw : wantV C.N ops ρ ⟨some d, .slice t x none (some y) (some z), ty, pos, af, g⟩ = true := by exact rfl) (hd : Nat.blt d C.N = true := by exact rfl) : wpD C ops Hs Q (i :: pl) ρ ds H :=
  let ⟨_, h1, h2⟩ := rd_clipO hx hS hy hz ht hs; wpD_rds ho rfl hw hd h2 (h _ h1)
end
theorem e_mark {d : Option Nat} {s el : TypeId} {x : Operand} {b o len cap : Nat} {cs : Array Value} {T : TypeId} {f : Obj → Hp} (h : K (.slice (some ⟨b, o, none⟩) len cap) (f (.cells cs T (cs.size, cs.size + 1)))) (hx : ev ρ x = .slice (some ⟨b, o, none⟩) len cap := by exact rfl) (hs : C.P.underlying s = some (.slice el) := by exact rfl) (he : C.P.underlying el = some (.int .u8) := by exact rfl)
    (hz : Zp H b (.cells cs T (0, 0)) f := by infer_instance) : Ex C ⟨d, .convert s s x, ty, pos, af, g⟩ K ρ H := ex_mark hx hs he hz.zip h
theorem e_buildNil {d : Option Nat} {t el : TypeId} {n : Nat} (h : ∀ v B, SlO el n v 0 [] B → K v (B ++ H)) (ht : C.P.underlying t = some (.slice el) := by exact rfl) (hs : (sz C.P el).isSome = true := by exact rfl) (hn : (sz C.P el).getD 0 = n := by (conv => lhs; whnf)) : Ex C ⟨d, .buildSlice t 0 #[], ty, pos, af, g⟩ K ρ H := ex_buildNil ht (by obtain ⟨k, hk⟩ := Option.isSome_iff_exists.1 hs; rw [hk] at hn ⊢; exact congrArg some hn) h
theorem e_storeO {d : Option Nat} {t g n cap i : Nat} {x y : Operand} {u : Value} {cur : Array Value} {xs : List Value} {T : TypeId} {f : Obj → Hp} {gd : Option (Nat × Bool)} (h : ∀ cur', SlO T 1 (.slice (some ⟨g, 0, none⟩) n cap) n (xs.set i u) [(g, .cells cur' T (0, 0))] → K undef (f (.cells cur' T (0, 0))))
    (hx : ev ρ x = .pointer (some ⟨g, 0 + i * 1, none⟩) := by exact rfl) (hy : ev ρ y = u := by (conv => lhs; whnf)) (hs : sz C.P t = some 1 := by exact rfl) (ho : u.oneCell' = true := by exact rfl) (hS : SlO T 1 (.slice (some ⟨g, 0, none⟩) n cap) n xs [(g, .cells cur T (0, 0))] := by assumption) (hi : i < n := by omega) (hz : Zp H g (.cells cur T (0, 0)) f := by infer_instance) : Ex C ⟨d, .store t x y, ty, pos, af, gd⟩ K ρ H   := ex_storeO (i := i) (by rw [hx, Nat.zero_add, Nat.mul_one]) hy hs ho hS hi hz.zip h
theorem c_true {x y : Code} {o : Operand} (h : wpC C x Q ρ ds H) (hg : ev ρ o = .bool true := by exact rfl) : wpC C (.cond o x y) Q ρ ds H := wpC_cond_true hg h
theorem c_false {x y : Code} {o : Operand} (h : wpC C y Q ρ ds H) (hg : ev ρ o = .bool false := by exact rfl) : wpC C (.cond o x y) Q ρ ds H := wpC_cond_false hg h
theorem c_b {x y : Code} {o : Operand} {b : Bool} (h1 : b = true → wpC C x Q ρ ds H) (h2 : b = false → wpC C y Q ρ ds H) (hg : ev ρ o = .bool b := by exact rfl) : wpC C (.cond o x y) Q ρ ds H := c_split hg h1 h2
section
variable {D : Option Nat} {j dj : Nat} {bb b : Bool}
theorem s_g (h1 : b = true → wpO C ops Q (⟨D, op, ty, pos, af, some (j, bb)⟩ :: rest) (upd ρ dj (.bool true)) ds H) (h2 : b = false → wpO C ops Q (⟨D, op, ty, pos, af, some (j, bb)⟩ :: rest) (upd ρ dj (.bool false)) ds H) (hj : (ops[j]?).bind (·.dst) = some dj := by exact rfl) (hv : ρ dj = .bool b := by exact rfl) :
    wpO C ops Q (⟨D, op, ty, pos, af, some (j, bb)⟩ :: rest) ρ ds H := s_split hv h1 h2
theorem s_p {a c : Operand} (h1 : b = true → wpO C ops Q (⟨D, .pick (.tmp dj) a c, ty, pos, af, g⟩ :: rest) (upd ρ dj (.bool true)) ds H) (h2 : b = false → wpO C ops Q (⟨D, .pick (.tmp dj) a c, ty, pos, af, g⟩ :: rest) (upd ρ dj (.bool false)) ds H) (hv : ρ dj = .bool b := by exact rfl) :
    wpO C ops Q (⟨D, .pick (.tmp dj) a c, ty, pos, af, g⟩ :: rest) ρ ds H := s_splitP hv h1 h2
theorem d_g (h1 : b = true → wpD C ops Hs Q (i :: pl) (upd ρ dj (.bool true)) ds H) (h2 : b = false → wpD C ops Hs Q (i :: pl) (upd ρ dj (.bool false)) ds H) (ho : (ops[i]?).bind (·.guard) = some (j, bb) := by exact rfl) (hj : (ops[j]?).bind (·.dst) = some dj := by exact rfl) (hv : ρ dj = .bool b := by exact rfl) : wpD C ops Hs Q (i :: pl) ρ ds H := d_split hv h1 h2
theorem d_p {a c : Operand} {D : Option Nat} (h1 : b = true → wpD C ops Hs Q (i :: pl) (upd ρ dj (.bool true)) ds H) (h2 : b = false → wpD C ops Hs Q (i :: pl) (upd ρ dj (.bool false)) ds H) (ho : ops[i]? = some ⟨D, .pick (.tmp dj) a c, ty, pos, af, g⟩ := by exact rfl) (hv : ρ dj = .bool b := by exact rfl) : wpD C ops Hs Q (i :: pl) ρ ds H := d_split hv h1 h2
end
theorem b_other {id j : Nat} (h : Q (.exit j) ρ ds H) (hi : Nat.beq j id = false := by exact rfl) : InBlock id Q (.exit j) ρ ds H := inBlock_other hi h
section
variable {d : Option Nat}
theorem e_allocA {t : TypeId} {l : List Value} (h : ∀ b, K (.pointer (some ⟨b, 0, none⟩)) ((b, cellsO l t) :: H)) (hz : zval C.P t = some (.agg l.toArray) := by exact rfl) : Ex C ⟨d, .alloc t, ty, pos, af, g⟩ K ρ H := ex_allocA hz h
theorem e_alloc1 {t : TypeId} {v : Value} (h : ∀ b, K (.pointer (some ⟨b, 0, none⟩)) ((b, cellsO [v] t) :: H)) (hz : zval C.P t = some v := by exact rfl) (ho : v.oneCell' = true := by exact rfl) : Ex C ⟨d, .alloc t, ty, pos, af, g⟩ K ρ H := ex_alloc1 hz ho h
theorem e_boxA {t : TypeId} {x : Operand} {l : List Value} (h : ∀ b, K (.pointer (some ⟨b, 0, none⟩)) ((b, cellsO l t) :: H)) (hx : ev ρ x = .agg l.toArray := by exact rfl) : Ex C ⟨d, .box t x, ty, pos, af, g⟩ K ρ H := ex_boxA hx h
theorem e_box1 {t : TypeId} {x : Operand} {v : Value} (h : ∀ b, K (.pointer (some ⟨b, 0, none⟩)) ((b, cellsO [v] t) :: H)) (hx : ev ρ x = v := by (conv => lhs; whnf)) (ho : v.oneCell' = true := by exact rfl) : Ex C ⟨d, .box t x, ty, pos, af, g⟩ K ρ H := ex_box1 hx ho h
theorem e_storeA {t b o : Nat} {x y : Operand} {l vs l' : List Value} {T : TypeId} {f : Obj → Hp} (h : K undef (f (cellsO l' T))) (hx : ev ρ x = .pointer (some ⟨b, o, none⟩) := by exact rfl) (hy : ev ρ y = .agg vs.toArray := by exact rfl)
    (hs : sz C.P t = some vs.length := by exact rfl) (ho : ones vs = true := by exact rfl) (hz : Zp H b (cellsO l T) f := by infer_instance) (hlen : Nat.ble (o + vs.length) l.length = true := by exact rfl) (hl' : putL l o vs = l' := by (first | (conv => lhs; simp only [putL, List.set, Nat.reduceAdd, Nat.zero_add]) | exact rfl)) :
    Ex C ⟨d, .store t x y, ty, pos, af, g⟩ K ρ H := ex_storeA hx hy hs ho hz.zip hlen hl' h
theorem e_store1 {t b o : Nat} {x y : Operand} {v : Value} {l l' : List Value} {T : TypeId} {f : Obj → Hp} (h : K undef (f (cellsO l' T))) (hx : ev ρ x = .pointer (some ⟨b, o, none⟩) := by exact rfl) (hy : ev ρ y = v := by (conv => lhs; whnf))
    (hs : sz C.P t = some 1 := by exact rfl) (ho : v.oneCell' = true := by (first | exact rfl | (apply SlO.one; assumption))) (hz : Zp H b (cellsO l T) f := by infer_instance) (hlen : Nat.ble (o + 1) l.length = true := by exact rfl) (hl' : l.set o v = l' := by (first | (conv => lhs; simp only [putL, List.set, Nat.reduceAdd, Nat.zero_add]) | exact rfl)) :
    Ex C ⟨d, .store t x y, ty, pos, af, g⟩ K ρ H := ex_store1 hx hy hs ho hz.zip hlen hl' h
section
variable {κ α : Type} {inst : DecidableEq κ} {kv : κ → Value} {enc : α → Value} {es : Array MapEntry} {ml left : List (κ × α)} {k : κ} {a : α} {t kt et : TypeId} {x y z : Operand} {b clk bi : Nat} {f : Obj → Hp}
theorem e_mapUpdate (h : ∀ es' clk', MapK kv enc es' clk' (aput ml k a) → K undef (f (.map es' clk'))) (hx : ev ρ x = .map (some b) := by exact rfl) (hz : Zp H b (.map es clk) f := by infer_instance) (hM : MapK kv enc es clk ml := by assumption) (hy : ev ρ y = kv k := by exact rfl) (hv : ev ρ z = enc a := by exact rfl)
    (ht : C.P.underlying t = some (.map kt et) := by exact rfl) (hk : KeyOK C.P kt kv := by (first | exact keyOK_int rfl | exact keyOK_str rfl)) : Ex C ⟨d, .mapUpdate t x y z, ty, pos, af, g⟩ K ρ H := ex_mapUpdate hx hz.zip hM hy hv ht hk h
theorem e_range (h : ∀ bi o, IterK kv enc b es clk none ml o → K (.pointer (some ⟨bi, 0, none⟩)) ((bi, o) :: H)) (hx : ev ρ x = .map (some b) := by exact rfl) (hm : Has H b (.map es clk) := by infer_instance) (hM : MapK kv enc es clk ml := by assumption) (ht : C.P.underlying t = some (.map kt et) := by exact rfl) :
    Ex C ⟨d, .range t x, ty, pos, af, g⟩ K ρ H := ex_range hx hm.mem hM ht h
theorem e_delete {t2 : TypeId} (h : ∀ es', MapK kv enc es' clk (adel ml k) → (∀ bm last left o, IterK kv enc bm es clk last left o → IterK kv enc bm es' clk none (adel left k) o) → K (.tuple #[]) (f (.map es' clk))) (hx : ev ρ x = .map (some b) := by exact rfl) (hz : Zp H b (.map es clk) f := by infer_instance) (hM : MapK kv enc es clk ml := by assumption) (hy : ev ρ y = kv k := by exact rfl)
    (ht : C.P.underlying t = some (.map kt et) := by exact rfl) (hk : KeyOK C.P kt kv := by (first | exact keyOK_int rfl | exact keyOK_str rfl)) (hkv : ∀ a c, kv a = kv c → a = c := by (intro _ _ h; cases h; rfl)) : Ex C ⟨d, .call ⟨.builtin .delete, #[x, y], #[t, t2]⟩, ty, pos, af, g⟩ K ρ H := ex_delete hx hz.zip hM hy ht hk hkv h
end
section
variable {κ α : Type} [inst : DecidableEq κ] {kv : κ → Value} {enc : α → Value} {es : Array MapEntry} {ml left : List (κ × α)} {x : Operand} {b clk bi : Nat} {f : Obj → Hp}
theorem e_next {last : Option (κ × α)} {o : Obj} (h0 : left = [] → K (.tuple #[.bool false]) H) (h1 : ∀ p, p ∈ left → ∀ o', IterK kv enc b es clk (some p) (adel left p.1) o' → K (.tuple #[.bool true, kv p.1, enc p.2]) (f o')) (hx : ev ρ x = .pointer (some ⟨bi, 0, none⟩) := by exact rfl) (hz : Zp H bi o f := by infer_instance) (hI : IterK kv enc b es clk last left o := by assumption)
    (hm : Has H b (.map es clk) := by infer_instance) (hM : MapK kv enc es clk ml := by assumption) (hkv : ∀ a c, kv a = kv c → a = c := by (intro _ _ h; cases h; rfl)) : Ex C ⟨d, .next x false, ty, pos, af, g⟩ K ρ H := by
  cases left with
  | nil => exact ex_next_end hx hz.zip hI hm.mem hM (h0 rfl)
  | cons p l => exact ex_next_more hx hz.zip hI hm.mem hM hkv (by simp) h1
end
theorem e_buildSlice {t : TypeId} {len : Nat} {parts : List (Nat × Operand)} {vs : List (Nat × Value)} {e : TypeId} {l : List Value} (h : ∀ b, K (.slice (some ⟨b, 0, none⟩) len len) ((b, cellsO l e) :: H)) (hp : EvP ρ parts vs := by (repeat (first | exact EvP.nil | (apply EvP.cons; (conv => lhs; whnf))))) (hb : bldS C.P t len vs = some e := by exact rfl) (hl : (vs.flatMap fun p => valL p.2) = l := by (conv => lhs; simp only [List.flatMap_cons, List.flatMap_nil, valL, List.toList_toArray, List.cons_append, List.nil_append, List.append_nil])) :
    Ex C ⟨d, .buildSlice t len parts.toArray, ty, pos, af, g⟩ K ρ H := ex_buildSlice hp hb hl h
theorem e_append {x y : Operand} {t e : TypeId} {i : TypeInfo} {z : Value} {sz bytes : Nat} {v : Value} {n : Nat} {xs : List Value} {Bs R : Hp} {b o m c : Nat} {cs : Array Value} {T : TypeId} {fz : Nat × Nat} {news : List Value}
    (h : ∀ v' Bs', SlO e sz v' (n + m) (xs ++ news) Bs' → K v' (Bs' ++ R)) (hx : ev ρ x = v := by (conv => lhs; whnf)) (hS : SlO e sz v n xs Bs := by assumption) (hy : ev ρ y = .slice (some ⟨b, o, none⟩) m c := by exact rfl) (ht : C.P.underlying t = some (.slice e) := by exact rfl) (hi : C.P.info? e = some i := by exact rfl) (hz : i.zero = some z := by exact rfl) (hsize : i.size = sz := by exact rfl) (hby : i.bytes = bytes := by (conv => lhs; whnf)) (hzs : z.cells.size = sz := by exact rfl) (hsz : Nat.blt 0 sz = true := by exact rfl)
    (hp : Rm H Bs R := by infer_instance) (hm : Has H b (.cells cs T fz) := by infer_instance) (hr : RowAt cs o (m * sz) news := by (first | assumption | exact rowAt_all _)) (h1 : ones news = true := by exact rfl) (h63 : n + m ≤ maxLen := by (unfold maxLen; first | omega | (simp only [List.length_take, List.length_drop]; omega))) (hbytes : (n + m) * bytes ≤ 140737488355328 := by (first | omega | (simp only [List.length_take, List.length_drop]; omega) | (show _ * 1 ≤ _; omega) | (show _ * 8 ≤ _; omega) | (show _ * 16 ≤ _; omega) | (show _ * 24 ≤ _; omega) | (show _ * 32 ≤ _; omega) | (show _ * 40 ≤ _; omega) | (show _ * 48 ≤ _; omega) | (show _ * 56 ≤ _; omega) | (show _ * 64 ≤ _; omega) | (show _ * 72 ≤ _; omega) | (show _ * 80 ≤ _; omega) | (show _ * 88 ≤ _; omega) | (show _ * 504 ≤ _; omega) | (show _ * 528 ≤ _; omega) | (show _ * 544 ≤ _; omega))) :
    Ex C ⟨d, .call ⟨.builtin .append, #[x, y], #[t, t]⟩, ty, pos, af, g⟩ K ρ H := ex_appendR hx hS hy ht hi hz hsize hby hzs hsz hp hm hr h1 h63 hbytes h
theorem e_callV {x : Operand} {args : List Operand} {ats : Array TypeId} {fv : Value} {vs : List Value} (h : valK C.P C.e fv vs H K) (hx : ev ρ x = fv := by (conv => lhs; whnf)) (ha : EvL ρ args vs := by (repeat (first | exact EvL.nil | (apply EvL.cons; (conv => lhs; whnf))))) : Ex C ⟨d, .call ⟨.value x, args.toArray, ats⟩, ty, pos, af, g⟩ K ρ H := ex_callV hx ha h
theorem e_call {f : FuncId} {args : List Operand} {ats : Array TypeId} {vs : List Value} {fn : Func} (h : callsK C.P C.e f vs.toArray H K) (hf : C.P.funcs[f]? = some fn := by exact rfl) (hb : fn.body.isNone = false := by exact rfl)
    (hn : (fn.name == "runtime.NumGoroutine") = false := by kernel_rfl) (ha : EvL ρ args vs := by (repeat (first | exact EvL.nil | (apply EvL.cons; (conv => lhs; whnf))))) : Ex C ⟨d, .call ⟨.value (.func f), args.toArray, ats⟩, ty, pos, af, g⟩ K ρ H := ex_call hf hb hn (by simpa using ha.map) h
end
section
variable {P : Program} {e : World} {x : Exit}
theorem r_0 (h : Drop K (.tuple #[]) H) (hx : x = .normal ∨ x = .ret := by (first | exact Or.inl rfl | exact Or.inr rfl)) : RetP P e [] K x ρ [] H := ret0 hx h
theorem r_1 {t : Nat} {v : Value} (h : Drop K v H) (hx : x = .normal ∨ x = .ret := by (first | exact Or.inl rfl | exact Or.inr rfl)) (hv : ρ t = v := by (conv => lhs; whnf)) : RetP P e [.tmp t] K x ρ [] H := ret1 hx hv h
theorem r_2 {t s : Nat} {v u : Value} (h : Drop K (.tuple #[v, u]) H) (hx : x = .normal ∨ x = .ret := by (first | exact Or.inl rfl | exact Or.inr rfl)) (hv : ρ t = v := by (conv => lhs; whnf)) (hu : ρ s = u := by (conv => lhs; whnf)) : RetP P e [.tmp t, .tmp s] K x ρ [] H := ret2 hx hv hu h
theorem r_C1 {t n b o s : Nat} {ty : TypeId} {l r : List Value} {T : TypeId} {fz : Nat × Nat} {u : Value} (h : Drop K (.tuple #[.agg r.toArray, u]) H) (hx : x = .normal ∨ x = .ret := by (first | exact Or.inl rfl | exact Or.inr rfl)) (hv : ρ t = .pointer (some ⟨b, o, none⟩) := by exact rfl) (hl : aggB P ty = true := by exact rfl)
    (hs : sz P ty = some n := by exact rfl) (hm : Has H b (.cells l.toArray T fz) := by infer_instance) (hc : TakeR l o n r := by (repeat (first | exact .nil | apply TakeR.cons | apply TakeR.skip))) (hu : ρ s = u := by (conv => lhs; whnf)) : RetP P e [.cell t ty, .tmp s] K x ρ [] H := retC1 hx hv hl hs hm.mem hc hu h
end
theorem r_D1 {P : Program} {e : World} {x : Exit} {t : Nat} {R : Hp} (h : Drop K v R) (hx : x = .normal ∨ x = .ret := by (first | exact Or.inl rfl | exact Or.inr rfl)) (hv : ρ t = v := by (conv => lhs; whnf)) (hp : Pcs H (dfs ds) R := by (repeat (first | exact Pcs.blk (by infer_instance) | exact Pcs.nil | (apply Pcs.cons; infer_instance) | apply Pcs.app))) : RetP P e [.tmp t] K x ρ ds H := retDn hx hp.perm (.tmp hv .nil) h
theorem r_D0 {P : Program} {e : World} {x : Exit} {R : Hp} (h : Drop K (.tuple #[]) R) (hx : x = .normal ∨ x = .ret := by (first | exact Or.inl rfl | exact Or.inr rfl)) (hp : Pcs H (dfs ds) R := by (repeat (first | exact Pcs.blk (by infer_instance) | exact Pcs.nil | (apply Pcs.cons; infer_instance) | apply Pcs.app))) : RetP P e [] K x ρ ds H := retDn hx hp.perm .nil h
theorem r_DC {P : Program} {e : World} {x : Exit} {t b o : Nat} {ty : TypeId} {cs : Array Value} {T : TypeId} {fz : Nat × Nat} {R : Hp} (h : Drop K v R) (hx : x = .normal ∨ x = .ret := by (first | exact Or.inl rfl | exact Or.inr rfl)) (hp : Pcs H (dfs ds) R := by (repeat (first | exact Pcs.blk (by infer_instance) | exact Pcs.nil | (apply Pcs.cons; infer_instance) | apply Pcs.app))) (hv : ρ t = .pointer (some ⟨b, o, none⟩) := by exact rfl) (hl : leaf P ty = true := by exact rfl) (hm : Has R b (.cells cs T fz) := by infer_instance) (hc : cs[o]? = some v' := by exact rfl) (hv' : v' = v := by (conv => lhs; whnf)) :
    RetP P e [.cell t ty] K x ρ ds H := by subst hv'; exact retDn hx hp.perm (resC hv hl hm.mem hc .nil) h
theorem p_pcs {P : Program} {e : World} {f : FuncId} {args : Array Value} {H xs R : Hp} (h : callsK P e f args (xs ++ R) K) (hpcs : Pcs H xs R) : callsK P e f args H K := via_pcs h hpcs
theorem q_drop {R xs R2 : Hp} (h : K v xs) (hp : Pcs R xs R2 := by (repeat (first | exact Pcs.blk (by infer_instance) | exact Pcs.nil | (apply Pcs.cons; infer_instance) | apply Pcs.app))) : Drop K v R := drop_pcs h hp
theorem q_drp {R xs R2 : Hp} (hp : Pcs R xs R2 := by (repeat (first | exact Pcs.blk (by infer_instance) | exact Pcs.nil | (apply Pcs.cons; infer_instance) | apply Pcs.app))) : Drp xs R := drp_pcs hp
theorem lp_end {κ : Type} {W : List Nat} {S : κ → List (Nat × Value)} {F : κ → Hp} {ok : κ → Prop} {μ : κ → Nat} {n : Nat} {ρ' : Fr} {ds' : List Nat} {H' : Hp} (k' : κ) (h1 : μ k' < n) (h2 : ok k') (h3 : slots ρ' (S k') := by (repeat (first | exact trivial | refine ⟨by exact rfl, ?_⟩))) (h4 : Agr W ρ ρ' := by (repeat (first | exact agr_refl | exact agr_mix | refine agr_upd (by exact rfl) ?_ | refine agr_mixIn (by exact rfl) ?_))) (h5 : ds' = ds := by exact rfl) (h6 : Drp (F k') H' := by exact q_drp) :
    ∃ k', LpEnd W S F ok μ ρ ds n ρ' ds' H' k' := lp_mk k' h1 h2 h3 h4 h5 h6
end
end Go.Vl

namespace Go.Vl
open Go.RowKit Go.Sort

theorem SlO.cast {e : TypeId} {sz : Nat} {v : Value} {n n' : Nat} {xs xs' : List Value} {Bs : Hp} (h : SlO e sz v n xs Bs) (hn : n = n') (hx : xs = xs') : SlO e sz v n' xs' Bs := by subst hn; subst hx; exact h
theorem sort_of {α : Type} [Inhabited α] {enc : α → Value} {sorted : List α → List α} (hlen : ∀ l, (sorted l).length = l.length) {P : Program} {f : FuncId}
    (hc : ∀ (blk off cap : Nat) (zs : List α) (w : World), Holds enc w blk off zs.toArray → blk < w.heap.size → zs.length < 4611686018427387904 →
      Calls P f #[.slice (some ⟨blk, off, none⟩) zs.length cap] w fun e w' => e = .returned (.tuple #[]) ∧ ∃ n os, w' = grow (putRow enc (Sort.ahead w n) blk off (sorted zs).toArray) os)
    (h0 : ∀ (p : Option Addr) (cap : Nat) (w : World), Calls P f #[.slice p 0 cap] w fun e w' => e = .returned (.tuple #[]) ∧ w' = w)
    {e : World} {T : TypeId} {v : Value} {zs : List α} {Bs F : Hp} {K : Value → Hp → Prop} (hS : SlO T 1 v zs.length (zs.map enc) Bs) (hz : zs.length < 4611686018427387904)
    (hK : ∀ Bs', SlO T 1 v zs.length ((sorted zs).map enc) Bs' → K (.tuple #[]) (Bs' ++ F)) : callsK P e f #[v] (Bs ++ F) K := by
  intro w hw
  rcases hS.2 with ⟨a, rfl, hn, rfl⟩ | ⟨g, cap, cur, rfl, rfl, hnc, hcm, hcs, ht⟩
  · have hzs : zs = [] := List.eq_nil_of_length_eq_zero hn
    subst hzs
    refine (callsIn_wide.2 (h0 a 0 w)).mono ?_
    rintro x w' ⟨rfl, rfl⟩
    have hs : sorted [] = [] := List.eq_nil_of_length_eq_zero (by rw [hlen]; rfl)
    exact ⟨_, hw, hK [] ⟨by simp [hs], .inl ⟨a, rfl, rfl, rfl⟩⟩⟩
  · have hg := hw.has (g, .cells cur T (0, 0)) (by simp)
    simp only at hg
    have hlt := hw.lt (x := (g, .cells cur T (0, 0))) (by simp)
    simp only at hlt
    have hH : Holds enc w g 0 zs.toArray := by
      intro j hj
      have hj' : j < zs.length := by simpa using hj
      refine ⟨?_, by simp [World.frozen?, hg]⟩
      have h1 : (zs.map enc)[j]? = some (enc zs[j]) := by simp [hj']
      rw [← ht] at h1
      have h2 := take_some h1
      rw [Array.getElem?_toList] at h2
      simp only [World.cell?, hg, Nat.zero_add]
      have h3 : zs.toArray[j]! = zs[j] := by simp [hj']
      rw [h3]
      simpa using h2
    refine (callsIn_wide.2 (hc g 0 cap zs w hH hlt hz)).mono ?_
    rintro x w' ⟨rfl, n, os, rfl⟩
    have hd : (sorted zs).toArray.size = zs.length := by simp [hlen]
    refine ⟨(g, .cells (putCells enc 0 (sorted zs).toArray cur) T (0, 0)) :: F, ?_, ?_⟩
    · have hnd := hw.nodup
      refine ⟨hw.os, hw.tape, hw.output, by simpa using hnd, fun x hx => ?_⟩
      rcases List.mem_cons.1 hx with rfl | hx
      · simp only
        rw [heap_grow_old _ _ (by simpa using hlt)]
        simp [putRow, mapBlock, Array.getElem?_modify, hg, onCells]
      · have hxm : x ∈ [(g, Obj.cells cur T (0, 0))] ++ F := by simp [hx]
        have hks := hw.lt hxm
        have hne : g ≠ x.1 := fun he => by
          simp only [List.cons_append, List.nil_append, List.map_cons, List.nodup_cons] at hnd
          exact hnd.1 (he ▸ List.mem_map.2 ⟨x, hx, rfl⟩)
        rw [heap_grow_old _ _ (by simpa using hks)]
        have := hw.has x hxm
        simp [putRow, mapBlock, Array.getElem?_modify, hne, this]
    · refine hK [(g, .cells (putCells enc 0 (sorted zs).toArray cur) T (0, 0))] ⟨by simp [hlen], .inr ⟨g, cap, _, rfl, rfl, hnc, hcm, by simpa [putCells] using hcs, ?_⟩⟩
      apply List.ext_getElem?
      intro j
      rw [List.getElem?_take]
      by_cases hj : j < zs.length
      · have hjc : j < cur.size := by omega
        have h3 : (sorted zs).toArray[j]! = (sorted zs)[j]'(by rw [hlen]; exact hj) := by simp [hlen, hj]
        rw [if_pos (by omega)]
        simp only [putCells, Array.getElem?_toList, Array.getElem?_mapIdx, Array.getElem?_eq_getElem hjc, Option.map_some, hd]
        rw [if_pos ⟨Nat.zero_le _, by omega⟩]
        simp only [Nat.sub_zero, h3, List.getElem?_map]
        rw [List.getElem?_eq_getElem (by rw [hlen]; exact hj)]
        rfl
      · rw [if_neg (by omega), List.getElem?_eq_none (by simp [hlen]; omega)]
end Go.Vl
