/-
  The disk: Clone.
-/
import Derived.Test.YtkamfmdonhaikaaGreatD5
namespace Go.Vl
open Go.Proofs
attribute [local irreducible] wpC wpO wpD Ex Rd callsK RetP Drop valK
set_option maxHeartbeats 4000000 in
set_option maxRecDepth 100000 in
theorem clone_specL (e : World) {v : Value} {bs : List UInt8} {Bs F : Hp} {K : Value → Hp → Prop} (hS : InSl Bs 1 (bs.map byC) v) (hb : bs.length ≤ 140737488355328) (hK : ∀ a c B', BytO (.slice a bs.length c) bs B' → K (.slice a bs.length c) (B' ++ (Bs ++ F))) :
    callsK Tryz.prog e 71 #[v] (Bs ++ F) K :=
  clone_spec e hS hb fun v' B' h => by obtain ⟨a, c, rfl⟩ := SlO.val h; exact hK a c B' h
structure ClS where
  es : Array MapEntry
  clk : Nat
  cl : List Fl
  last : Option (ByteArray × Nat)
  lf : List Fl
  o : Obj
end Go.Vl
