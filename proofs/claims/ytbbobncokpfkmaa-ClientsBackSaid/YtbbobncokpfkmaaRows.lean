/-
  No cell of these rows narrows 'for every input' (looked for: loops, veiled, ifaces, maps, wideKeys, modest, calm, conditions, laid).
  DERIVED. THE GIVEN ROWS OF THIS SEAT. 6 by the template 'for every input the law returns true; each argument reads behind the call as it read before'; 0 by the template 'total and deterministic' (their statements: YtbbobncokpfkmaaTotals.lean).
  GIVEN WITH THE SEED: the statements are not yours to turn. If you find one false, say at which input.
  Laid BY PROGRAM, IN A SANDBOX (cutbox-rows.mjs): the forced cells as the released guide's own fill.sh prints them over the translation 1d13c85731e26b6c… (all of the seat's roots in one cut). By AI agents, Wed Nov 11 2026. No macro, syntax, notation, axiom, sorry.
-/
import Derived.Test.YtbbobncokpfkmaaChecked
import GoSem.Claim
import GoSem.ClaimJoined
import GoSem.ClaimMapViews
import Derived.JoinedTies
import Derived.KernelRfl
namespace Go.Proofs.Ytbbobncokpfkmaa
/- THE CELL 'sum', in the pinned program and in every row, IS THE sha256 OF THE DUMP (.gsa) THAT YtbbobncokpfkmaaProg.lean LOADS. Nothing in Lean hashes anything: it is a label: what it is worth is what the hold of that sum in a sandbox is worth. -/
noncomputable def Try.pinned : Pinned := { name := "ytbbobncokpfkmaa", sum := "1d13c85731e26b6c487307aca68d4cb059036b21fb7608c94d7549995dfc0308", checked := Try.checked }
namespace Rows
def none {H : Type} : Left H := { results := [], args := [] }

/-- 'orchardlaw15.ClientsOnce': WHATEVER THE INPUT: true; the input reads as it did. -/
def clientsOnceSpec : ChangeSpec := { name := "clientsOnce", fn := fun _ => fun
  | [d] => { results := [.lit (.bool true)], args := [d] }
  | _ => none }
def clientsOnceRow : OpenClaim := { program := "ytbbobncokpfkmaa", sum := "1d13c85731e26b6c487307aca68d4cb059036b21fb7608c94d7549995dfc0308", func := "orchard/orchardlaw15.ClientsOnce", spec := "clientsOnce", apart := false }
def ClientsOnceSaid : Prop := clientsOnceRow.holds Try.pinned (OpenSpec.ofChange clientsOnceSpec)

/-- ITS FALSE NEIGHBOUR: 'it returns false'. Refute it at one input. -/
def clientsOnceWrong : ChangeSpec := { name := "clientsOnce", fn := fun _ => fun
  | [d] => { results := [.lit (.bool false)], args := [d] }
  | _ => none }
def ClientsOnceWrongFalsely : Prop := clientsOnceRow.holds Try.pinned (OpenSpec.ofChange clientsOnceWrong)

/-- 'orchardlaw15.ClientsFull': WHATEVER THE INPUT: true; the input reads as it did. -/
def clientsFullSpec : ChangeSpec := { name := "clientsFull", fn := fun _ => fun
  | [d1, d2] => { results := [.lit (.bool true)], args := [d1, d2] }
  | _ => none }
def clientsFullRow : OpenClaim := { program := "ytbbobncokpfkmaa", sum := "1d13c85731e26b6c487307aca68d4cb059036b21fb7608c94d7549995dfc0308", func := "orchard/orchardlaw15.ClientsFull", spec := "clientsFull", apart := false }
def ClientsFullSaid : Prop := clientsFullRow.holds Try.pinned (OpenSpec.ofChange clientsFullSpec)

/-- ITS FALSE NEIGHBOUR: 'it returns false'. Refute it at one input. -/
def clientsFullWrong : ChangeSpec := { name := "clientsFull", fn := fun _ => fun
  | [d1, d2] => { results := [.lit (.bool false)], args := [d1, d2] }
  | _ => none }
def ClientsFullWrongFalsely : Prop := clientsFullRow.holds Try.pinned (OpenSpec.ofChange clientsFullWrong)

/-- 'orchardlaw15.ClientsFrom': WHATEVER THE INPUT: true; the input reads as it did. -/
def clientsFromSpec : ChangeSpec := { name := "clientsFrom", fn := fun _ => fun
  | [d] => { results := [.lit (.bool true)], args := [d] }
  | _ => none }
def clientsFromRow : OpenClaim := { program := "ytbbobncokpfkmaa", sum := "1d13c85731e26b6c487307aca68d4cb059036b21fb7608c94d7549995dfc0308", func := "orchard/orchardlaw15.ClientsFrom", spec := "clientsFrom", unfollowed := true, recurses := true, apart := false }
def ClientsFromSaid : Prop := clientsFromRow.holds Try.pinned (OpenSpec.ofChange clientsFromSpec)

/-- ITS FALSE NEIGHBOUR: 'it returns false'. Refute it at one input. -/
def clientsFromWrong : ChangeSpec := { name := "clientsFrom", fn := fun _ => fun
  | [d] => { results := [.lit (.bool false)], args := [d] }
  | _ => none }
def ClientsFromWrongFalsely : Prop := clientsFromRow.holds Try.pinned (OpenSpec.ofChange clientsFromWrong)

/-- 'orchardlaw15.ClientsBack': WHATEVER THE INPUT: true; the input reads as it did. -/
def clientsBackSpec : ChangeSpec := { name := "clientsBack", fn := fun _ => fun
  | [d1, d2] => { results := [.lit (.bool true)], args := [d1, d2] }
  | _ => none }
def clientsBackRow : OpenClaim := { program := "ytbbobncokpfkmaa", sum := "1d13c85731e26b6c487307aca68d4cb059036b21fb7608c94d7549995dfc0308", func := "orchard/orchardlaw15.ClientsBack", spec := "clientsBack", unfollowed := true, recurses := true, apart := false }
def ClientsBackSaid : Prop := clientsBackRow.holds Try.pinned (OpenSpec.ofChange clientsBackSpec)

/-- ITS FALSE NEIGHBOUR: 'it returns false'. Refute it at one input. -/
def clientsBackWrong : ChangeSpec := { name := "clientsBack", fn := fun _ => fun
  | [d1, d2] => { results := [.lit (.bool false)], args := [d1, d2] }
  | _ => none }
def ClientsBackWrongFalsely : Prop := clientsBackRow.holds Try.pinned (OpenSpec.ofChange clientsBackWrong)

/-- 'orchardlaw15.ClientsDoes': WHATEVER THE INPUT: true; the input reads as it did. -/
def clientsDoesSpec : ChangeSpec := { name := "clientsDoes", fn := fun _ => fun
  | [d] => { results := [.lit (.bool true)], args := [d] }
  | _ => none }
def clientsDoesRow : OpenClaim := { program := "ytbbobncokpfkmaa", sum := "1d13c85731e26b6c487307aca68d4cb059036b21fb7608c94d7549995dfc0308", func := "orchard/orchardlaw15.ClientsDoes", spec := "clientsDoes", inPlace := ["maps.clone"], unfollowed := true, recurses := true, apart := false }
def ClientsDoesSaid : Prop := clientsDoesRow.holds Try.pinned (OpenSpec.ofChange clientsDoesSpec)

/-- ITS FALSE NEIGHBOUR: 'it returns false'. Refute it at one input. -/
def clientsDoesWrong : ChangeSpec := { name := "clientsDoes", fn := fun _ => fun
  | [d] => { results := [.lit (.bool false)], args := [d] }
  | _ => none }
def ClientsDoesWrongFalsely : Prop := clientsDoesRow.holds Try.pinned (OpenSpec.ofChange clientsDoesWrong)

/-- 'orchardlaw15.ClientsNone': WHATEVER THE INPUT: true; the input reads as it did. -/
def clientsNoneSpec : ChangeSpec := { name := "clientsNone", fn := fun _ => fun
  | [d] => { results := [.lit (.bool true)], args := [d] }
  | _ => none }
def clientsNoneRow : OpenClaim := { program := "ytbbobncokpfkmaa", sum := "1d13c85731e26b6c487307aca68d4cb059036b21fb7608c94d7549995dfc0308", func := "orchard/orchardlaw15.ClientsNone", spec := "clientsNone", inPlace := ["maps.clone"], unfollowed := true, recurses := true, apart := false }
def ClientsNoneSaid : Prop := clientsNoneRow.holds Try.pinned (OpenSpec.ofChange clientsNoneSpec)

/-- ITS FALSE NEIGHBOUR: 'it returns false'. Refute it at one input. -/
def clientsNoneWrong : ChangeSpec := { name := "clientsNone", fn := fun _ => fun
  | [d] => { results := [.lit (.bool false)], args := [d] }
  | _ => none }
def ClientsNoneWrongFalsely : Prop := clientsNoneRow.holds Try.pinned (OpenSpec.ofChange clientsNoneWrong)

/- THE SECOND FORM. 'bulk': how many values and letters a reading holds, each counted each time it is reached (what is shared counts as often as it is met; a slice's spare places count too). A statement '..UptoSaid' is the law's where the arguments, and the package variables that the reading takes, are together of bulk at most 1048576: NARROWER than '..Said'. Prove '..Said' where nothing that the law and all that it calls make is longer than what came in: it says more and counts as full. Else prove '..UptoSaid'. A law counts once. -/
mutual
def uptoBulk {H : Type} : DataW H → Nat
  | .lit (.string bytes) => bytes.length + 1
  | .lit _ => 1
  | .nil => 1
  | .ptr d => uptoBulk d + 1
  | .slice elems spare => uptoBulkAll elems + uptoBulkAll spare + 1
  | .agg parts => uptoBulkAll parts + 1
  | .iface _ d => uptoBulk d + 1
  | .map entries => uptoBulkEntries entries + 1
  | .held _ => 1
def uptoBulkAll {H : Type} : List (DataW H) → Nat
  | [] => 0
  | d :: r => uptoBulk d + uptoBulkAll r
def uptoBulkEntries {H : Type} : List (Lit × DataW H) → Nat
  | [] => 0
  | x :: r => uptoBulkEntry x + uptoBulkEntries r
def uptoBulkEntry {H : Type} : Lit × DataW H → Nat
  | (.string bytes, d) => bytes.length + uptoBulk d + 1
  | (_, d) => uptoBulk d + 1
 end
def uptoSmall : (H : Type) → List (DataW H) → Bool := fun _ ds => decide (uptoBulkAll ds ≤ 1048576)
def OpenSpec.upto (s : _root_.Go.ChangeSpec) : _root_.Go.OpenSpec := { _root_.Go.OpenSpec.ofChange s with cond := some uptoSmall }

/-- 'orchardlaw15.ClientsOnce', WHERE WHAT IT READS IS OF BULK AT MOST 1048576: true; the input reads as it did. -/
def clientsOnceUptoRow : OpenClaim := { program := "ytbbobncokpfkmaa", sum := "1d13c85731e26b6c487307aca68d4cb059036b21fb7608c94d7549995dfc0308", func := "orchard/orchardlaw15.ClientsOnce", spec := "clientsOnce", apart := false, narrowed := true }
def ClientsOnceUptoSaid : Prop := clientsOnceUptoRow.holds Try.pinned (OpenSpec.upto clientsOnceSpec)

/-- 'orchardlaw15.ClientsFull', WHERE WHAT IT READS IS OF BULK AT MOST 1048576: true; the input reads as it did. -/
def clientsFullUptoRow : OpenClaim := { program := "ytbbobncokpfkmaa", sum := "1d13c85731e26b6c487307aca68d4cb059036b21fb7608c94d7549995dfc0308", func := "orchard/orchardlaw15.ClientsFull", spec := "clientsFull", apart := false, narrowed := true }
def ClientsFullUptoSaid : Prop := clientsFullUptoRow.holds Try.pinned (OpenSpec.upto clientsFullSpec)

/-- 'orchardlaw15.ClientsFrom', WHERE WHAT IT READS IS OF BULK AT MOST 1048576: true; the input reads as it did. -/
def clientsFromUptoRow : OpenClaim := { program := "ytbbobncokpfkmaa", sum := "1d13c85731e26b6c487307aca68d4cb059036b21fb7608c94d7549995dfc0308", func := "orchard/orchardlaw15.ClientsFrom", spec := "clientsFrom", unfollowed := true, recurses := true, apart := false, narrowed := true }
def ClientsFromUptoSaid : Prop := clientsFromUptoRow.holds Try.pinned (OpenSpec.upto clientsFromSpec)

/-- 'orchardlaw15.ClientsBack', WHERE WHAT IT READS IS OF BULK AT MOST 1048576: true; the input reads as it did. -/
def clientsBackUptoRow : OpenClaim := { program := "ytbbobncokpfkmaa", sum := "1d13c85731e26b6c487307aca68d4cb059036b21fb7608c94d7549995dfc0308", func := "orchard/orchardlaw15.ClientsBack", spec := "clientsBack", unfollowed := true, recurses := true, apart := false, narrowed := true }
def ClientsBackUptoSaid : Prop := clientsBackUptoRow.holds Try.pinned (OpenSpec.upto clientsBackSpec)

/-- 'orchardlaw15.ClientsDoes', WHERE WHAT IT READS IS OF BULK AT MOST 1048576: true; the input reads as it did. -/
def clientsDoesUptoRow : OpenClaim := { program := "ytbbobncokpfkmaa", sum := "1d13c85731e26b6c487307aca68d4cb059036b21fb7608c94d7549995dfc0308", func := "orchard/orchardlaw15.ClientsDoes", spec := "clientsDoes", inPlace := ["maps.clone"], unfollowed := true, recurses := true, apart := false, narrowed := true }
def ClientsDoesUptoSaid : Prop := clientsDoesUptoRow.holds Try.pinned (OpenSpec.upto clientsDoesSpec)

/-- 'orchardlaw15.ClientsNone', WHERE WHAT IT READS IS OF BULK AT MOST 1048576: true; the input reads as it did. -/
def clientsNoneUptoRow : OpenClaim := { program := "ytbbobncokpfkmaa", sum := "1d13c85731e26b6c487307aca68d4cb059036b21fb7608c94d7549995dfc0308", func := "orchard/orchardlaw15.ClientsNone", spec := "clientsNone", inPlace := ["maps.clone"], unfollowed := true, recurses := true, apart := false, narrowed := true }
def ClientsNoneUptoSaid : Prop := clientsNoneUptoRow.holds Try.pinned (OpenSpec.upto clientsNoneSpec)

end Rows
end Go.Proofs.Ytbbobncokpfkmaa
