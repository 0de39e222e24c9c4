/-
  No cell of these rows narrows 'for every input' (looked for: loops, veiled, ifaces, maps, wideKeys, modest, calm, conditions, laid).
  DERIVED. THE GIVEN ROWS OF THIS SEAT. 11 by the template 'for every input the law returns true; each argument reads behind the call as it read before'; 0 by the template 'total and deterministic' (their statements: YtagdhnbodddipaaTotals.lean).
  GIVEN WITH THE SEED: the statements are not yours to turn. If you find one false, say at which input.
  Laid BY PROGRAM, IN A SANDBOX (cutbox-rows.mjs): the forced cells as the released guide's own fill.sh prints them over the translation 038458d3ce21f992… (all of the seat's roots in one cut). By AI agents, Wed Nov 11 2026. No macro, syntax, notation, axiom, sorry.
-/
import Derived.Test.YtagdhnbodddipaaChecked
import GoSem.Claim
import GoSem.ClaimJoined
import GoSem.ClaimMapViews
import Derived.JoinedTies
import Derived.KernelRfl
namespace Go.Proofs.Ytagdhnbodddipaa
/- THE CELL 'sum', in the pinned program and in every row, IS THE sha256 OF THE DUMP (.gsa) THAT YtagdhnbodddipaaProg.lean LOADS. Nothing in Lean hashes anything: it is a label: what it is worth is what the hold of that sum in a sandbox is worth. -/
noncomputable def Try.pinned : Pinned := { name := "ytagdhnbodddipaa", sum := "038458d3ce21f99274055123edd8b59960d4535cc63115dc8314c7caf0633381", checked := Try.checked }
namespace Rows
def none {H : Type} : Left H := { results := [], args := [] }

/-- 'orchardlaw07.AcceptorBallots': WHATEVER THE INPUT: true; the input reads as it did. -/
def acceptorBallotsSpec : ChangeSpec := { name := "acceptorBallots", fn := fun _ => fun
  | [d1, d2] => { results := [.lit (.bool true)], args := [d1, d2] }
  | _ => none }
def acceptorBallotsRow : OpenClaim := { program := "ytagdhnbodddipaa", sum := "038458d3ce21f99274055123edd8b59960d4535cc63115dc8314c7caf0633381", func := "orchard/orchardlaw07.AcceptorBallots", spec := "acceptorBallots", unfollowed := true, recurses := true, apart := false }
def AcceptorBallotsSaid : Prop := acceptorBallotsRow.holds Try.pinned (OpenSpec.ofChange acceptorBallotsSpec)

/-- ITS FALSE NEIGHBOUR: 'it returns false'. Refute it at one input. -/
def acceptorBallotsWrong : ChangeSpec := { name := "acceptorBallots", fn := fun _ => fun
  | [d1, d2] => { results := [.lit (.bool false)], args := [d1, d2] }
  | _ => none }
def AcceptorBallotsWrongFalsely : Prop := acceptorBallotsRow.holds Try.pinned (OpenSpec.ofChange acceptorBallotsWrong)

/-- 'orchardlaw07.AcceptorChooses': WHATEVER THE INPUT: true; the input reads as it did. -/
def acceptorChoosesSpec : ChangeSpec := { name := "acceptorChooses", fn := fun _ => fun
  | [d1, d2] => { results := [.lit (.bool true)], args := [d1, d2] }
  | _ => none }
def acceptorChoosesRow : OpenClaim := { program := "ytagdhnbodddipaa", sum := "038458d3ce21f99274055123edd8b59960d4535cc63115dc8314c7caf0633381", func := "orchard/orchardlaw07.AcceptorChooses", spec := "acceptorChooses", unfollowed := true, recurses := true, apart := false }
def AcceptorChoosesSaid : Prop := acceptorChoosesRow.holds Try.pinned (OpenSpec.ofChange acceptorChoosesSpec)

/-- ITS FALSE NEIGHBOUR: 'it returns false'. Refute it at one input. -/
def acceptorChoosesWrong : ChangeSpec := { name := "acceptorChooses", fn := fun _ => fun
  | [d1, d2] => { results := [.lit (.bool false)], args := [d1, d2] }
  | _ => none }
def AcceptorChoosesWrongFalsely : Prop := acceptorChoosesRow.holds Try.pinned (OpenSpec.ofChange acceptorChoosesWrong)

/-- 'orchardlaw07.AcceptorOwn': WHATEVER THE INPUT: true; the input reads as it did. -/
def acceptorOwnSpec : ChangeSpec := { name := "acceptorOwn", fn := fun _ => fun
  | [d1, d2, d3] => { results := [.lit (.bool true)], args := [d1, d2, d3] }
  | _ => none }
def acceptorOwnRow : OpenClaim := { program := "ytagdhnbodddipaa", sum := "038458d3ce21f99274055123edd8b59960d4535cc63115dc8314c7caf0633381", func := "orchard/orchardlaw07.AcceptorOwn", spec := "acceptorOwn", unfollowed := true, recurses := true, apart := false }
def AcceptorOwnSaid : Prop := acceptorOwnRow.holds Try.pinned (OpenSpec.ofChange acceptorOwnSpec)

/-- ITS FALSE NEIGHBOUR: 'it returns false'. Refute it at one input. -/
def acceptorOwnWrong : ChangeSpec := { name := "acceptorOwn", fn := fun _ => fun
  | [d1, d2, d3] => { results := [.lit (.bool false)], args := [d1, d2, d3] }
  | _ => none }
def AcceptorOwnWrongFalsely : Prop := acceptorOwnRow.holds Try.pinned (OpenSpec.ofChange acceptorOwnWrong)

/-- 'orchardlaw07.AcceptorFrom': WHATEVER THE INPUT: true; the input reads as it did. -/
def acceptorFromSpec : ChangeSpec := { name := "acceptorFrom", fn := fun _ => fun
  | [d1, d2, d3] => { results := [.lit (.bool true)], args := [d1, d2, d3] }
  | _ => none }
def acceptorFromRow : OpenClaim := { program := "ytagdhnbodddipaa", sum := "038458d3ce21f99274055123edd8b59960d4535cc63115dc8314c7caf0633381", func := "orchard/orchardlaw07.AcceptorFrom", spec := "acceptorFrom", unfollowed := true, recurses := true, apart := false }
def AcceptorFromSaid : Prop := acceptorFromRow.holds Try.pinned (OpenSpec.ofChange acceptorFromSpec)

/-- ITS FALSE NEIGHBOUR: 'it returns false'. Refute it at one input. -/
def acceptorFromWrong : ChangeSpec := { name := "acceptorFrom", fn := fun _ => fun
  | [d1, d2, d3] => { results := [.lit (.bool false)], args := [d1, d2, d3] }
  | _ => none }
def AcceptorFromWrongFalsely : Prop := acceptorFromRow.holds Try.pinned (OpenSpec.ofChange acceptorFromWrong)

/-- 'orchardlaw07.AcceptorKeeps': WHATEVER THE INPUT: true; the input reads as it did. -/
def acceptorKeepsSpec : ChangeSpec := { name := "acceptorKeeps", fn := fun _ => fun
  | [d1, d2, d3] => { results := [.lit (.bool true)], args := [d1, d2, d3] }
  | _ => none }
def acceptorKeepsRow : OpenClaim := { program := "ytagdhnbodddipaa", sum := "038458d3ce21f99274055123edd8b59960d4535cc63115dc8314c7caf0633381", func := "orchard/orchardlaw07.AcceptorKeeps", spec := "acceptorKeeps", unfollowed := true, recurses := true, apart := false }
def AcceptorKeepsSaid : Prop := acceptorKeepsRow.holds Try.pinned (OpenSpec.ofChange acceptorKeepsSpec)

/-- ITS FALSE NEIGHBOUR: 'it returns false'. Refute it at one input. -/
def acceptorKeepsWrong : ChangeSpec := { name := "acceptorKeeps", fn := fun _ => fun
  | [d1, d2, d3] => { results := [.lit (.bool false)], args := [d1, d2, d3] }
  | _ => none }
def AcceptorKeepsWrongFalsely : Prop := acceptorKeepsRow.holds Try.pinned (OpenSpec.ofChange acceptorKeepsWrong)

/-- 'orchardlaw07.AcceptorAgain': WHATEVER THE INPUT: true; the input reads as it did. -/
def acceptorAgainSpec : ChangeSpec := { name := "acceptorAgain", fn := fun _ => fun
  | [d] => { results := [.lit (.bool true)], args := [d] }
  | _ => none }
def acceptorAgainRow : OpenClaim := { program := "ytagdhnbodddipaa", sum := "038458d3ce21f99274055123edd8b59960d4535cc63115dc8314c7caf0633381", func := "orchard/orchardlaw07.AcceptorAgain", spec := "acceptorAgain", unfollowed := true, recurses := true, apart := false }
def AcceptorAgainSaid : Prop := acceptorAgainRow.holds Try.pinned (OpenSpec.ofChange acceptorAgainSpec)

/-- ITS FALSE NEIGHBOUR: 'it returns false'. Refute it at one input. -/
def acceptorAgainWrong : ChangeSpec := { name := "acceptorAgain", fn := fun _ => fun
  | [d] => { results := [.lit (.bool false)], args := [d] }
  | _ => none }
def AcceptorAgainWrongFalsely : Prop := acceptorAgainRow.holds Try.pinned (OpenSpec.ofChange acceptorAgainWrong)

/-- 'orchardlaw07.AcceptorDoes': WHATEVER THE INPUT: true; the input reads as it did. -/
def acceptorDoesSpec : ChangeSpec := { name := "acceptorDoes", fn := fun _ => fun
  | [d] => { results := [.lit (.bool true)], args := [d] }
  | _ => none }
def acceptorDoesRow : OpenClaim := { program := "ytagdhnbodddipaa", sum := "038458d3ce21f99274055123edd8b59960d4535cc63115dc8314c7caf0633381", func := "orchard/orchardlaw07.AcceptorDoes", spec := "acceptorDoes", unfollowed := true, recurses := true, apart := false }
def AcceptorDoesSaid : Prop := acceptorDoesRow.holds Try.pinned (OpenSpec.ofChange acceptorDoesSpec)

/-- ITS FALSE NEIGHBOUR: 'it returns false'. Refute it at one input. -/
def acceptorDoesWrong : ChangeSpec := { name := "acceptorDoes", fn := fun _ => fun
  | [d] => { results := [.lit (.bool false)], args := [d] }
  | _ => none }
def AcceptorDoesWrongFalsely : Prop := acceptorDoesRow.holds Try.pinned (OpenSpec.ofChange acceptorDoesWrong)

/-- 'orchardlaw07.AcceptorNone': WHATEVER THE INPUT: true; the input reads as it did. -/
def acceptorNoneSpec : ChangeSpec := { name := "acceptorNone", fn := fun _ => fun
  | [d1, d2] => { results := [.lit (.bool true)], args := [d1, d2] }
  | _ => none }
def acceptorNoneRow : OpenClaim := { program := "ytagdhnbodddipaa", sum := "038458d3ce21f99274055123edd8b59960d4535cc63115dc8314c7caf0633381", func := "orchard/orchardlaw07.AcceptorNone", spec := "acceptorNone", unfollowed := true, recurses := true, apart := false }
def AcceptorNoneSaid : Prop := acceptorNoneRow.holds Try.pinned (OpenSpec.ofChange acceptorNoneSpec)

/-- ITS FALSE NEIGHBOUR: 'it returns false'. Refute it at one input. -/
def acceptorNoneWrong : ChangeSpec := { name := "acceptorNone", fn := fun _ => fun
  | [d1, d2] => { results := [.lit (.bool false)], args := [d1, d2] }
  | _ => none }
def AcceptorNoneWrongFalsely : Prop := acceptorNoneRow.holds Try.pinned (OpenSpec.ofChange acceptorNoneWrong)

/-- 'orchardlaw08.ProposerOwn': WHATEVER THE INPUT: true; the input reads as it did. -/
def proposerOwnSpec : ChangeSpec := { name := "proposerOwn", fn := fun _ => fun
  | [d1, d2, d3] => { results := [.lit (.bool true)], args := [d1, d2, d3] }
  | _ => none }
def proposerOwnRow : OpenClaim := { program := "ytagdhnbodddipaa", sum := "038458d3ce21f99274055123edd8b59960d4535cc63115dc8314c7caf0633381", func := "orchard/orchardlaw08.ProposerOwn", spec := "proposerOwn", unfollowed := true, recurses := true, apart := false }
def ProposerOwnSaid : Prop := proposerOwnRow.holds Try.pinned (OpenSpec.ofChange proposerOwnSpec)

/-- ITS FALSE NEIGHBOUR: 'it returns false'. Refute it at one input. -/
def proposerOwnWrong : ChangeSpec := { name := "proposerOwn", fn := fun _ => fun
  | [d1, d2, d3] => { results := [.lit (.bool false)], args := [d1, d2, d3] }
  | _ => none }
def ProposerOwnWrongFalsely : Prop := proposerOwnRow.holds Try.pinned (OpenSpec.ofChange proposerOwnWrong)

/-- 'orchardlaw08.ProposerKeeps': WHATEVER THE INPUT: true; the input reads as it did. -/
def proposerKeepsSpec : ChangeSpec := { name := "proposerKeeps", fn := fun _ => fun
  | [d1, d2, d3, d4] => { results := [.lit (.bool true)], args := [d1, d2, d3, d4] }
  | _ => none }
def proposerKeepsRow : OpenClaim := { program := "ytagdhnbodddipaa", sum := "038458d3ce21f99274055123edd8b59960d4535cc63115dc8314c7caf0633381", func := "orchard/orchardlaw08.ProposerKeeps", spec := "proposerKeeps", unfollowed := true, recurses := true, apart := false }
def ProposerKeepsSaid : Prop := proposerKeepsRow.holds Try.pinned (OpenSpec.ofChange proposerKeepsSpec)

/-- ITS FALSE NEIGHBOUR: 'it returns false'. Refute it at one input. -/
def proposerKeepsWrong : ChangeSpec := { name := "proposerKeeps", fn := fun _ => fun
  | [d1, d2, d3, d4] => { results := [.lit (.bool false)], args := [d1, d2, d3, d4] }
  | _ => none }
def ProposerKeepsWrongFalsely : Prop := proposerKeepsRow.holds Try.pinned (OpenSpec.ofChange proposerKeepsWrong)

/-- 'orchardlaw08.ProposerPaxos': WHATEVER THE INPUT: true; the input reads as it did. -/
def proposerPaxosSpec : ChangeSpec := { name := "proposerPaxos", fn := fun _ => fun
  | [d1, d2, d3] => { results := [.lit (.bool true)], args := [d1, d2, d3] }
  | _ => none }
def proposerPaxosRow : OpenClaim := { program := "ytagdhnbodddipaa", sum := "038458d3ce21f99274055123edd8b59960d4535cc63115dc8314c7caf0633381", func := "orchard/orchardlaw08.ProposerPaxos", spec := "proposerPaxos", unfollowed := true, recurses := true, apart := false }
def ProposerPaxosSaid : Prop := proposerPaxosRow.holds Try.pinned (OpenSpec.ofChange proposerPaxosSpec)

/-- ITS FALSE NEIGHBOUR: 'it returns false'. Refute it at one input. -/
def proposerPaxosWrong : ChangeSpec := { name := "proposerPaxos", fn := fun _ => fun
  | [d1, d2, d3] => { results := [.lit (.bool false)], args := [d1, d2, d3] }
  | _ => none }
def ProposerPaxosWrongFalsely : Prop := proposerPaxosRow.holds Try.pinned (OpenSpec.ofChange proposerPaxosWrong)

/- THE SECOND FORM. 'bulk': how many values and letters a reading holds, each counted each time it is reached (what is shared counts as often as it is met; a slice's spare places count too). A statement '..UptoSaid' is the law's where the arguments, and the package variables that the reading takes, are together of bulk at most 1048576: NARROWER than '..Said'. Prove '..Said' where nothing that the law and all that it calls make is longer than what came in: it says more and counts as full. Else prove '..UptoSaid'. A law counts once. -/
mutual
def uptoBulk {H : Type} : DataW H → Nat
  | .lit (.string bytes) => bytes.length + 1
  | .lit _ => 1
  | .nil => 1
  | .ptr d => uptoBulk d + 1
  | .slice elems spare => uptoBulkAll elems + uptoBulkAll spare + 1
  | .agg parts => uptoBulkAll parts + 1
  | .iface _ d => uptoBulk d + 1
  | .map entries => uptoBulkEntries entries + 1
  | .held _ => 1
def uptoBulkAll {H : Type} : List (DataW H) → Nat
  | [] => 0
  | d :: r => uptoBulk d + uptoBulkAll r
def uptoBulkEntries {H : Type} : List (Lit × DataW H) → Nat
  | [] => 0
  | x :: r => uptoBulkEntry x + uptoBulkEntries r
def uptoBulkEntry {H : Type} : Lit × DataW H → Nat
  | (.string bytes, d) => bytes.length + uptoBulk d + 1
  | (_, d) => uptoBulk d + 1
 end
def uptoSmall : (H : Type) → List (DataW H) → Bool := fun _ ds => decide (uptoBulkAll ds ≤ 1048576)
def OpenSpec.upto (s : _root_.Go.ChangeSpec) : _root_.Go.OpenSpec := { _root_.Go.OpenSpec.ofChange s with cond := some uptoSmall }

/-- 'orchardlaw07.AcceptorBallots', WHERE WHAT IT READS IS OF BULK AT MOST 1048576: true; the input reads as it did. -/
def acceptorBallotsUptoRow : OpenClaim := { program := "ytagdhnbodddipaa", sum := "038458d3ce21f99274055123edd8b59960d4535cc63115dc8314c7caf0633381", func := "orchard/orchardlaw07.AcceptorBallots", spec := "acceptorBallots", unfollowed := true, recurses := true, apart := false, narrowed := true }
def AcceptorBallotsUptoSaid : Prop := acceptorBallotsUptoRow.holds Try.pinned (OpenSpec.upto acceptorBallotsSpec)

/-- 'orchardlaw07.AcceptorChooses', WHERE WHAT IT READS IS OF BULK AT MOST 1048576: true; the input reads as it did. -/
def acceptorChoosesUptoRow : OpenClaim := { program := "ytagdhnbodddipaa", sum := "038458d3ce21f99274055123edd8b59960d4535cc63115dc8314c7caf0633381", func := "orchard/orchardlaw07.AcceptorChooses", spec := "acceptorChooses", unfollowed := true, recurses := true, apart := false, narrowed := true }
def AcceptorChoosesUptoSaid : Prop := acceptorChoosesUptoRow.holds Try.pinned (OpenSpec.upto acceptorChoosesSpec)

/-- 'orchardlaw07.AcceptorOwn', WHERE WHAT IT READS IS OF BULK AT MOST 1048576: true; the input reads as it did. -/
def acceptorOwnUptoRow : OpenClaim := { program := "ytagdhnbodddipaa", sum := "038458d3ce21f99274055123edd8b59960d4535cc63115dc8314c7caf0633381", func := "orchard/orchardlaw07.AcceptorOwn", spec := "acceptorOwn", unfollowed := true, recurses := true, apart := false, narrowed := true }
def AcceptorOwnUptoSaid : Prop := acceptorOwnUptoRow.holds Try.pinned (OpenSpec.upto acceptorOwnSpec)

/-- 'orchardlaw07.AcceptorFrom', WHERE WHAT IT READS IS OF BULK AT MOST 1048576: true; the input reads as it did. -/
def acceptorFromUptoRow : OpenClaim := { program := "ytagdhnbodddipaa", sum := "038458d3ce21f99274055123edd8b59960d4535cc63115dc8314c7caf0633381", func := "orchard/orchardlaw07.AcceptorFrom", spec := "acceptorFrom", unfollowed := true, recurses := true, apart := false, narrowed := true }
def AcceptorFromUptoSaid : Prop := acceptorFromUptoRow.holds Try.pinned (OpenSpec.upto acceptorFromSpec)

/-- 'orchardlaw07.AcceptorKeeps', WHERE WHAT IT READS IS OF BULK AT MOST 1048576: true; the input reads as it did. -/
def acceptorKeepsUptoRow : OpenClaim := { program := "ytagdhnbodddipaa", sum := "038458d3ce21f99274055123edd8b59960d4535cc63115dc8314c7caf0633381", func := "orchard/orchardlaw07.AcceptorKeeps", spec := "acceptorKeeps", unfollowed := true, recurses := true, apart := false, narrowed := true }
def AcceptorKeepsUptoSaid : Prop := acceptorKeepsUptoRow.holds Try.pinned (OpenSpec.upto acceptorKeepsSpec)

/-- 'orchardlaw07.AcceptorAgain', WHERE WHAT IT READS IS OF BULK AT MOST 1048576: true; the input reads as it did. -/
def acceptorAgainUptoRow : OpenClaim := { program := "ytagdhnbodddipaa", sum := "038458d3ce21f99274055123edd8b59960d4535cc63115dc8314c7caf0633381", func := "orchard/orchardlaw07.AcceptorAgain", spec := "acceptorAgain", unfollowed := true, recurses := true, apart := false, narrowed := true }
def AcceptorAgainUptoSaid : Prop := acceptorAgainUptoRow.holds Try.pinned (OpenSpec.upto acceptorAgainSpec)

/-- 'orchardlaw07.AcceptorDoes', WHERE WHAT IT READS IS OF BULK AT MOST 1048576: true; the input reads as it did. -/
def acceptorDoesUptoRow : OpenClaim := { program := "ytagdhnbodddipaa", sum := "038458d3ce21f99274055123edd8b59960d4535cc63115dc8314c7caf0633381", func := "orchard/orchardlaw07.AcceptorDoes", spec := "acceptorDoes", unfollowed := true, recurses := true, apart := false, narrowed := true }
def AcceptorDoesUptoSaid : Prop := acceptorDoesUptoRow.holds Try.pinned (OpenSpec.upto acceptorDoesSpec)

/-- 'orchardlaw07.AcceptorNone', WHERE WHAT IT READS IS OF BULK AT MOST 1048576: true; the input reads as it did. -/
def acceptorNoneUptoRow : OpenClaim := { program := "ytagdhnbodddipaa", sum := "038458d3ce21f99274055123edd8b59960d4535cc63115dc8314c7caf0633381", func := "orchard/orchardlaw07.AcceptorNone", spec := "acceptorNone", unfollowed := true, recurses := true, apart := false, narrowed := true }
def AcceptorNoneUptoSaid : Prop := acceptorNoneUptoRow.holds Try.pinned (OpenSpec.upto acceptorNoneSpec)

/-- 'orchardlaw08.ProposerOwn', WHERE WHAT IT READS IS OF BULK AT MOST 1048576: true; the input reads as it did. -/
def proposerOwnUptoRow : OpenClaim := { program := "ytagdhnbodddipaa", sum := "038458d3ce21f99274055123edd8b59960d4535cc63115dc8314c7caf0633381", func := "orchard/orchardlaw08.ProposerOwn", spec := "proposerOwn", unfollowed := true, recurses := true, apart := false, narrowed := true }
def ProposerOwnUptoSaid : Prop := proposerOwnUptoRow.holds Try.pinned (OpenSpec.upto proposerOwnSpec)

/-- 'orchardlaw08.ProposerKeeps', WHERE WHAT IT READS IS OF BULK AT MOST 1048576: true; the input reads as it did. -/
def proposerKeepsUptoRow : OpenClaim := { program := "ytagdhnbodddipaa", sum := "038458d3ce21f99274055123edd8b59960d4535cc63115dc8314c7caf0633381", func := "orchard/orchardlaw08.ProposerKeeps", spec := "proposerKeeps", unfollowed := true, recurses := true, apart := false, narrowed := true }
def ProposerKeepsUptoSaid : Prop := proposerKeepsUptoRow.holds Try.pinned (OpenSpec.upto proposerKeepsSpec)

/-- 'orchardlaw08.ProposerPaxos', WHERE WHAT IT READS IS OF BULK AT MOST 1048576: true; the input reads as it did. -/
def proposerPaxosUptoRow : OpenClaim := { program := "ytagdhnbodddipaa", sum := "038458d3ce21f99274055123edd8b59960d4535cc63115dc8314c7caf0633381", func := "orchard/orchardlaw08.ProposerPaxos", spec := "proposerPaxos", unfollowed := true, recurses := true, apart := false, narrowed := true }
def ProposerPaxosUptoSaid : Prop := proposerPaxosUptoRow.holds Try.pinned (OpenSpec.upto proposerPaxosSpec)

end Rows
end Go.Proofs.Ytagdhnbodddipaa
