/-
  No cell of these rows narrows 'for every input' (looked for: loops, veiled, ifaces, maps, wideKeys, modest, calm, conditions, laid).
  DERIVED. THE GIVEN ROWS OF THIS SEAT. 4 by the template 'for every input the law returns true; each argument reads behind the call as it read before'; 0 by the template 'total and deterministic' (their statements: YtpegidbkplgplaaTotals.lean).
  GIVEN WITH THE SEED: the statements are not yours to turn. If you find one false, say at which input.
  Laid BY PROGRAM, IN A SANDBOX (cutbox-rows.mjs): the forced cells as the released guide's own fill.sh prints them over the translation fea7c3bb3ab9e659… (all of the seat's roots in one cut). By AI agents, Wed Nov 11 2026. No macro, syntax, notation, axiom, sorry.
-/
import Derived.Test.YtpegidbkplgplaaChecked
import GoSem.Claim
import GoSem.ClaimJoined
import GoSem.ClaimMapViews
import Derived.JoinedTies
import Derived.KernelRfl
namespace Go.Proofs.Ytpegidbkplgplaa
/- THE CELL 'sum', in the pinned program and in every row, IS THE sha256 OF THE DUMP (.gsa) THAT YtpegidbkplgplaaProg.lean LOADS. Nothing in Lean hashes anything: it is a label: what it is worth is what the hold of that sum in a sandbox is worth. -/
noncomputable def Try.pinned : Pinned := { name := "ytpegidbkplgplaa", sum := "fea7c3bb3ab9e659c83e4079373cd718c865cde9cf98995a5de9b608d64afc04", checked := Try.checked }
namespace Rows
def none {H : Type} : Left H := { results := [], args := [] }

/-- 'orchardlaw08.ProposerOwn': WHATEVER THE INPUT: true; the input reads as it did. -/
def proposerOwnSpec : ChangeSpec := { name := "proposerOwn", fn := fun _ => fun
  | [d1, d2, d3] => { results := [.lit (.bool true)], args := [d1, d2, d3] }
  | _ => none }
def proposerOwnRow : OpenClaim := { program := "ytpegidbkplgplaa", sum := "fea7c3bb3ab9e659c83e4079373cd718c865cde9cf98995a5de9b608d64afc04", func := "orchard/orchardlaw08.ProposerOwn", spec := "proposerOwn", unfollowed := true, recurses := true, apart := false }
def ProposerOwnSaid : Prop := proposerOwnRow.holds Try.pinned (OpenSpec.ofChange proposerOwnSpec)

/-- ITS FALSE NEIGHBOUR: 'it returns false'. Refute it at one input. -/
def proposerOwnWrong : ChangeSpec := { name := "proposerOwn", fn := fun _ => fun
  | [d1, d2, d3] => { results := [.lit (.bool false)], args := [d1, d2, d3] }
  | _ => none }
def ProposerOwnWrongFalsely : Prop := proposerOwnRow.holds Try.pinned (OpenSpec.ofChange proposerOwnWrong)

/-- 'orchardlaw08.ProposerKeeps': WHATEVER THE INPUT: true; the input reads as it did. -/
def proposerKeepsSpec : ChangeSpec := { name := "proposerKeeps", fn := fun _ => fun
  | [d1, d2, d3, d4] => { results := [.lit (.bool true)], args := [d1, d2, d3, d4] }
  | _ => none }
def proposerKeepsRow : OpenClaim := { program := "ytpegidbkplgplaa", sum := "fea7c3bb3ab9e659c83e4079373cd718c865cde9cf98995a5de9b608d64afc04", func := "orchard/orchardlaw08.ProposerKeeps", spec := "proposerKeeps", unfollowed := true, recurses := true, apart := false }
def ProposerKeepsSaid : Prop := proposerKeepsRow.holds Try.pinned (OpenSpec.ofChange proposerKeepsSpec)

/-- ITS FALSE NEIGHBOUR: 'it returns false'. Refute it at one input. -/
def proposerKeepsWrong : ChangeSpec := { name := "proposerKeeps", fn := fun _ => fun
  | [d1, d2, d3, d4] => { results := [.lit (.bool false)], args := [d1, d2, d3, d4] }
  | _ => none }
def ProposerKeepsWrongFalsely : Prop := proposerKeepsRow.holds Try.pinned (OpenSpec.ofChange proposerKeepsWrong)

/-- 'orchardlaw08.ProposerPaxos': WHATEVER THE INPUT: true; the input reads as it did. -/
def proposerPaxosSpec : ChangeSpec := { name := "proposerPaxos", fn := fun _ => fun
  | [d1, d2, d3] => { results := [.lit (.bool true)], args := [d1, d2, d3] }
  | _ => none }
def proposerPaxosRow : OpenClaim := { program := "ytpegidbkplgplaa", sum := "fea7c3bb3ab9e659c83e4079373cd718c865cde9cf98995a5de9b608d64afc04", func := "orchard/orchardlaw08.ProposerPaxos", spec := "proposerPaxos", unfollowed := true, recurses := true, apart := false }
def ProposerPaxosSaid : Prop := proposerPaxosRow.holds Try.pinned (OpenSpec.ofChange proposerPaxosSpec)

/-- ITS FALSE NEIGHBOUR: 'it returns false'. Refute it at one input. -/
def proposerPaxosWrong : ChangeSpec := { name := "proposerPaxos", fn := fun _ => fun
  | [d1, d2, d3] => { results := [.lit (.bool false)], args := [d1, d2, d3] }
  | _ => none }
def ProposerPaxosWrongFalsely : Prop := proposerPaxosRow.holds Try.pinned (OpenSpec.ofChange proposerPaxosWrong)

/-- 'orchardlaw08.ProposerNone': WHATEVER THE INPUT: true; the input reads as it did. -/
def proposerNoneSpec : ChangeSpec := { name := "proposerNone", fn := fun _ => fun
  | [d] => { results := [.lit (.bool true)], args := [d] }
  | _ => none }
def proposerNoneRow : OpenClaim := { program := "ytpegidbkplgplaa", sum := "fea7c3bb3ab9e659c83e4079373cd718c865cde9cf98995a5de9b608d64afc04", func := "orchard/orchardlaw08.ProposerNone", spec := "proposerNone", unfollowed := true, recurses := true, apart := false }
def ProposerNoneSaid : Prop := proposerNoneRow.holds Try.pinned (OpenSpec.ofChange proposerNoneSpec)

/-- ITS FALSE NEIGHBOUR: 'it returns false'. Refute it at one input. -/
def proposerNoneWrong : ChangeSpec := { name := "proposerNone", fn := fun _ => fun
  | [d] => { results := [.lit (.bool false)], args := [d] }
  | _ => none }
def ProposerNoneWrongFalsely : Prop := proposerNoneRow.holds Try.pinned (OpenSpec.ofChange proposerNoneWrong)

/- THE SECOND FORM. 'bulk': how many values and letters a reading holds, each counted each time it is reached (what is shared counts as often as it is met; a slice's spare places count too). A statement '..UptoSaid' is the law's where the arguments, and the package variables that the reading takes, are together of bulk at most 1048576: NARROWER than '..Said'. Prove '..Said' where nothing that the law and all that it calls make is longer than what came in: it says more and counts as full. Else prove '..UptoSaid'. A law counts once. -/
mutual
def uptoBulk {H : Type} : DataW H → Nat
  | .lit (.string bytes) => bytes.length + 1
  | .lit _ => 1
  | .nil => 1
  | .ptr d => uptoBulk d + 1
  | .slice elems spare => uptoBulkAll elems + uptoBulkAll spare + 1
  | .agg parts => uptoBulkAll parts + 1
  | .iface _ d => uptoBulk d + 1
  | .map entries => uptoBulkEntries entries + 1
  | .held _ => 1
def uptoBulkAll {H : Type} : List (DataW H) → Nat
  | [] => 0
  | d :: r => uptoBulk d + uptoBulkAll r
def uptoBulkEntries {H : Type} : List (Lit × DataW H) → Nat
  | [] => 0
  | x :: r => uptoBulkEntry x + uptoBulkEntries r
def uptoBulkEntry {H : Type} : Lit × DataW H → Nat
  | (.string bytes, d) => bytes.length + uptoBulk d + 1
  | (_, d) => uptoBulk d + 1
 end
def uptoSmall : (H : Type) → List (DataW H) → Bool := fun _ ds => decide (uptoBulkAll ds ≤ 1048576)
def OpenSpec.upto (s : _root_.Go.ChangeSpec) : _root_.Go.OpenSpec := { _root_.Go.OpenSpec.ofChange s with cond := some uptoSmall }

/-- 'orchardlaw08.ProposerOwn', WHERE WHAT IT READS IS OF BULK AT MOST 1048576: true; the input reads as it did. -/
def proposerOwnUptoRow : OpenClaim := { program := "ytpegidbkplgplaa", sum := "fea7c3bb3ab9e659c83e4079373cd718c865cde9cf98995a5de9b608d64afc04", func := "orchard/orchardlaw08.ProposerOwn", spec := "proposerOwn", unfollowed := true, recurses := true, apart := false, narrowed := true }
def ProposerOwnUptoSaid : Prop := proposerOwnUptoRow.holds Try.pinned (OpenSpec.upto proposerOwnSpec)

/-- 'orchardlaw08.ProposerKeeps', WHERE WHAT IT READS IS OF BULK AT MOST 1048576: true; the input reads as it did. -/
def proposerKeepsUptoRow : OpenClaim := { program := "ytpegidbkplgplaa", sum := "fea7c3bb3ab9e659c83e4079373cd718c865cde9cf98995a5de9b608d64afc04", func := "orchard/orchardlaw08.ProposerKeeps", spec := "proposerKeeps", unfollowed := true, recurses := true, apart := false, narrowed := true }
def ProposerKeepsUptoSaid : Prop := proposerKeepsUptoRow.holds Try.pinned (OpenSpec.upto proposerKeepsSpec)

/-- 'orchardlaw08.ProposerPaxos', WHERE WHAT IT READS IS OF BULK AT MOST 1048576: true; the input reads as it did. -/
def proposerPaxosUptoRow : OpenClaim := { program := "ytpegidbkplgplaa", sum := "fea7c3bb3ab9e659c83e4079373cd718c865cde9cf98995a5de9b608d64afc04", func := "orchard/orchardlaw08.ProposerPaxos", spec := "proposerPaxos", unfollowed := true, recurses := true, apart := false, narrowed := true }
def ProposerPaxosUptoSaid : Prop := proposerPaxosUptoRow.holds Try.pinned (OpenSpec.upto proposerPaxosSpec)

/-- 'orchardlaw08.ProposerNone', WHERE WHAT IT READS IS OF BULK AT MOST 1048576: true; the input reads as it did. -/
def proposerNoneUptoRow : OpenClaim := { program := "ytpegidbkplgplaa", sum := "fea7c3bb3ab9e659c83e4079373cd718c865cde9cf98995a5de9b608d64afc04", func := "orchard/orchardlaw08.ProposerNone", spec := "proposerNone", unfollowed := true, recurses := true, apart := false, narrowed := true }
def ProposerNoneUptoSaid : Prop := proposerNoneUptoRow.holds Try.pinned (OpenSpec.upto proposerNoneSpec)

end Rows
end Go.Proofs.Ytpegidbkplgplaa
