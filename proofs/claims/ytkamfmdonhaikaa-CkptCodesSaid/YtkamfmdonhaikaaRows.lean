/-
  No cell of these rows narrows 'for every input' (looked for: loops, veiled, ifaces, maps, wideKeys, modest, calm, conditions, laid).
  DERIVED. THE GIVEN ROWS OF THIS SEAT. 10 by the template 'for every input the law returns true; each argument reads behind the call as it read before'; 0 by the template 'total and deterministic' (their statements: YtkamfmdonhaikaaTotals.lean).
  GIVEN WITH THE SEED: the statements are not yours to turn. If you find one false, say at which input.
  Laid BY PROGRAM, IN A SANDBOX (cutbox-rows.mjs): the forced cells as the released guide's own fill.sh prints them over the translation 5179df67ab27fe18… (all of the seat's roots in one cut). By AI agents, Wed Nov 11 2026. No macro, syntax, notation, axiom, sorry.
-/
import Derived.Test.YtkamfmdonhaikaaChecked
import GoSem.Claim
import GoSem.ClaimJoined
import GoSem.ClaimMapViews
import Derived.JoinedTies
import Derived.KernelRfl
namespace Go.Proofs.Ytkamfmdonhaikaa
/- THE CELL 'sum', in the pinned program and in every row, IS THE sha256 OF THE DUMP (.gsa) THAT YtkamfmdonhaikaaProg.lean LOADS. Nothing in Lean hashes anything: it is a label: what it is worth is what the hold of that sum in a sandbox is worth. -/
noncomputable def Try.pinned : Pinned := { name := "ytkamfmdonhaikaa", sum := "5179df67ab27fe18917a312b1c80d535e64d922f9cedf3f81fbf3f57a3596658", checked := Try.checked }
namespace Rows
def none {H : Type} : Left H := { results := [], args := [] }

/-- 'orchardlaw02.DiskOwn': WHATEVER THE INPUT: true; the input reads as it did. -/
def diskOwnSpec : ChangeSpec := { name := "diskOwn", fn := fun _ => fun
  | [d1, d2] => { results := [.lit (.bool true)], args := [d1, d2] }
  | _ => none }
def diskOwnRow : OpenClaim := { program := "ytkamfmdonhaikaa", sum := "5179df67ab27fe18917a312b1c80d535e64d922f9cedf3f81fbf3f57a3596658", func := "orchard/orchardlaw02.DiskOwn", spec := "diskOwn", apart := false }
def DiskOwnSaid : Prop := diskOwnRow.holds Try.pinned (OpenSpec.ofChange diskOwnSpec)

/-- ITS FALSE NEIGHBOUR: 'it returns false'. Refute it at one input. -/
def diskOwnWrong : ChangeSpec := { name := "diskOwn", fn := fun _ => fun
  | [d1, d2] => { results := [.lit (.bool false)], args := [d1, d2] }
  | _ => none }
def DiskOwnWrongFalsely : Prop := diskOwnRow.holds Try.pinned (OpenSpec.ofChange diskOwnWrong)

/-- 'orchardlaw02.DiskStays': WHATEVER THE INPUT: true; the input reads as it did. -/
def diskStaysSpec : ChangeSpec := { name := "diskStays", fn := fun _ => fun
  | [d1, d2, d3] => { results := [.lit (.bool true)], args := [d1, d2, d3] }
  | _ => none }
def diskStaysRow : OpenClaim := { program := "ytkamfmdonhaikaa", sum := "5179df67ab27fe18917a312b1c80d535e64d922f9cedf3f81fbf3f57a3596658", func := "orchard/orchardlaw02.DiskStays", spec := "diskStays", apart := false }
def DiskStaysSaid : Prop := diskStaysRow.holds Try.pinned (OpenSpec.ofChange diskStaysSpec)

/-- ITS FALSE NEIGHBOUR: 'it returns false'. Refute it at one input. -/
def diskStaysWrong : ChangeSpec := { name := "diskStays", fn := fun _ => fun
  | [d1, d2, d3] => { results := [.lit (.bool false)], args := [d1, d2, d3] }
  | _ => none }
def DiskStaysWrongFalsely : Prop := diskStaysRow.holds Try.pinned (OpenSpec.ofChange diskStaysWrong)

/-- 'orchardlaw06.CkptOneStep': WHATEVER THE INPUT: true; the input reads as it did. -/
def ckptOneStepSpec : ChangeSpec := { name := "ckptOneStep", fn := fun _ => fun
  | [d1, d2, d3, d4, d5, d6] => { results := [.lit (.bool true)], args := [d1, d2, d3, d4, d5, d6] }
  | _ => none }
def ckptOneStepRow : OpenClaim := { program := "ytkamfmdonhaikaa", sum := "5179df67ab27fe18917a312b1c80d535e64d922f9cedf3f81fbf3f57a3596658", func := "orchard/orchardlaw06.CkptOneStep", spec := "ckptOneStep", unfollowed := true, recurses := true, apart := false }
def CkptOneStepSaid : Prop := ckptOneStepRow.holds Try.pinned (OpenSpec.ofChange ckptOneStepSpec)

/-- ITS FALSE NEIGHBOUR: 'it returns false'. Refute it at one input. -/
def ckptOneStepWrong : ChangeSpec := { name := "ckptOneStep", fn := fun _ => fun
  | [d1, d2, d3, d4, d5, d6] => { results := [.lit (.bool false)], args := [d1, d2, d3, d4, d5, d6] }
  | _ => none }
def CkptOneStepWrongFalsely : Prop := ckptOneStepRow.holds Try.pinned (OpenSpec.ofChange ckptOneStepWrong)

/-- 'orchardlaw02.DiskTorn': WHATEVER THE INPUT: true; the input reads as it did. -/
def diskTornSpec : ChangeSpec := { name := "diskTorn", fn := fun _ => fun
  | [d1, d2, d3] => { results := [.lit (.bool true)], args := [d1, d2, d3] }
  | _ => none }
def diskTornRow : OpenClaim := { program := "ytkamfmdonhaikaa", sum := "5179df67ab27fe18917a312b1c80d535e64d922f9cedf3f81fbf3f57a3596658", func := "orchard/orchardlaw02.DiskTorn", spec := "diskTorn", unfollowed := true, recurses := true, apart := false }
def DiskTornSaid : Prop := diskTornRow.holds Try.pinned (OpenSpec.ofChange diskTornSpec)

/-- ITS FALSE NEIGHBOUR: 'it returns false'. Refute it at one input. -/
def diskTornWrong : ChangeSpec := { name := "diskTorn", fn := fun _ => fun
  | [d1, d2, d3] => { results := [.lit (.bool false)], args := [d1, d2, d3] }
  | _ => none }
def DiskTornWrongFalsely : Prop := diskTornRow.holds Try.pinned (OpenSpec.ofChange diskTornWrong)

/-- 'orchardlaw02.DiskDoes': WHATEVER THE INPUT: true; the input reads as it did. -/
def diskDoesSpec : ChangeSpec := { name := "diskDoes", fn := fun _ => fun
  | [d1, d2] => { results := [.lit (.bool true)], args := [d1, d2] }
  | _ => none }
def diskDoesRow : OpenClaim := { program := "ytkamfmdonhaikaa", sum := "5179df67ab27fe18917a312b1c80d535e64d922f9cedf3f81fbf3f57a3596658", func := "orchard/orchardlaw02.DiskDoes", spec := "diskDoes", unfollowed := true, recurses := true, apart := false }
def DiskDoesSaid : Prop := diskDoesRow.holds Try.pinned (OpenSpec.ofChange diskDoesSpec)

/-- ITS FALSE NEIGHBOUR: 'it returns false'. Refute it at one input. -/
def diskDoesWrong : ChangeSpec := { name := "diskDoes", fn := fun _ => fun
  | [d1, d2] => { results := [.lit (.bool false)], args := [d1, d2] }
  | _ => none }
def DiskDoesWrongFalsely : Prop := diskDoesRow.holds Try.pinned (OpenSpec.ofChange diskDoesWrong)

/-- 'orchardlaw02.DiskNone': WHATEVER THE INPUT: true; the input reads as it did. -/
def diskNoneSpec : ChangeSpec := { name := "diskNone", fn := fun _ => fun
  | [d] => { results := [.lit (.bool true)], args := [d] }
  | _ => none }
def diskNoneRow : OpenClaim := { program := "ytkamfmdonhaikaa", sum := "5179df67ab27fe18917a312b1c80d535e64d922f9cedf3f81fbf3f57a3596658", func := "orchard/orchardlaw02.DiskNone", spec := "diskNone", unfollowed := true, recurses := true, apart := false }
def DiskNoneSaid : Prop := diskNoneRow.holds Try.pinned (OpenSpec.ofChange diskNoneSpec)

/-- ITS FALSE NEIGHBOUR: 'it returns false'. Refute it at one input. -/
def diskNoneWrong : ChangeSpec := { name := "diskNone", fn := fun _ => fun
  | [d] => { results := [.lit (.bool false)], args := [d] }
  | _ => none }
def DiskNoneWrongFalsely : Prop := diskNoneRow.holds Try.pinned (OpenSpec.ofChange diskNoneWrong)

/-- 'orchardlaw06.CkptNone': WHATEVER THE INPUT: true; the input reads as it did. -/
def ckptNoneSpec : ChangeSpec := { name := "ckptNone", fn := fun _ => fun
  | [d1, d2] => { results := [.lit (.bool true)], args := [d1, d2] }
  | _ => none }
def ckptNoneRow : OpenClaim := { program := "ytkamfmdonhaikaa", sum := "5179df67ab27fe18917a312b1c80d535e64d922f9cedf3f81fbf3f57a3596658", func := "orchard/orchardlaw06.CkptNone", spec := "ckptNone", unfollowed := true, recurses := true, apart := false }
def CkptNoneSaid : Prop := ckptNoneRow.holds Try.pinned (OpenSpec.ofChange ckptNoneSpec)

/-- ITS FALSE NEIGHBOUR: 'it returns false'. Refute it at one input. -/
def ckptNoneWrong : ChangeSpec := { name := "ckptNone", fn := fun _ => fun
  | [d1, d2] => { results := [.lit (.bool false)], args := [d1, d2] }
  | _ => none }
def CkptNoneWrongFalsely : Prop := ckptNoneRow.holds Try.pinned (OpenSpec.ofChange ckptNoneWrong)

/-- 'orchardlaw06.CkptCodes': WHATEVER THE INPUT: true; the input reads as it did. -/
def ckptCodesSpec : ChangeSpec := { name := "ckptCodes", fn := fun _ => fun
  | [d1, d2, d3] => { results := [.lit (.bool true)], args := [d1, d2, d3] }
  | _ => none }
def ckptCodesRow : OpenClaim := { program := "ytkamfmdonhaikaa", sum := "5179df67ab27fe18917a312b1c80d535e64d922f9cedf3f81fbf3f57a3596658", func := "orchard/orchardlaw06.CkptCodes", spec := "ckptCodes", unfollowed := true, recurses := true, apart := false }
def CkptCodesSaid : Prop := ckptCodesRow.holds Try.pinned (OpenSpec.ofChange ckptCodesSpec)

/-- ITS FALSE NEIGHBOUR: 'it returns false'. Refute it at one input. -/
def ckptCodesWrong : ChangeSpec := { name := "ckptCodes", fn := fun _ => fun
  | [d1, d2, d3] => { results := [.lit (.bool false)], args := [d1, d2, d3] }
  | _ => none }
def CkptCodesWrongFalsely : Prop := ckptCodesRow.holds Try.pinned (OpenSpec.ofChange ckptCodesWrong)

/-- 'orchardlaw06.CkptOwn': WHATEVER THE INPUT: true; the input reads as it did. -/
def ckptOwnSpec : ChangeSpec := { name := "ckptOwn", fn := fun _ => fun
  | [d1, d2] => { results := [.lit (.bool true)], args := [d1, d2] }
  | _ => none }
def ckptOwnRow : OpenClaim := { program := "ytkamfmdonhaikaa", sum := "5179df67ab27fe18917a312b1c80d535e64d922f9cedf3f81fbf3f57a3596658", func := "orchard/orchardlaw06.CkptOwn", spec := "ckptOwn", unfollowed := true, recurses := true, apart := false }
def CkptOwnSaid : Prop := ckptOwnRow.holds Try.pinned (OpenSpec.ofChange ckptOwnSpec)

/-- ITS FALSE NEIGHBOUR: 'it returns false'. Refute it at one input. -/
def ckptOwnWrong : ChangeSpec := { name := "ckptOwn", fn := fun _ => fun
  | [d1, d2] => { results := [.lit (.bool false)], args := [d1, d2] }
  | _ => none }
def CkptOwnWrongFalsely : Prop := ckptOwnRow.holds Try.pinned (OpenSpec.ofChange ckptOwnWrong)

/-- 'orchardlaw06.CkptLean': WHATEVER THE INPUT: true; the input reads as it did. -/
def ckptLeanSpec : ChangeSpec := { name := "ckptLean", fn := fun _ => fun
  | [d1, d2, d3] => { results := [.lit (.bool true)], args := [d1, d2, d3] }
  | _ => none }
def ckptLeanRow : OpenClaim := { program := "ytkamfmdonhaikaa", sum := "5179df67ab27fe18917a312b1c80d535e64d922f9cedf3f81fbf3f57a3596658", func := "orchard/orchardlaw06.CkptLean", spec := "ckptLean", unfollowed := true, recurses := true, apart := false }
def CkptLeanSaid : Prop := ckptLeanRow.holds Try.pinned (OpenSpec.ofChange ckptLeanSpec)

/-- ITS FALSE NEIGHBOUR: 'it returns false'. Refute it at one input. -/
def ckptLeanWrong : ChangeSpec := { name := "ckptLean", fn := fun _ => fun
  | [d1, d2, d3] => { results := [.lit (.bool false)], args := [d1, d2, d3] }
  | _ => none }
def CkptLeanWrongFalsely : Prop := ckptLeanRow.holds Try.pinned (OpenSpec.ofChange ckptLeanWrong)

/- THE SECOND FORM. 'bulk': how many values and letters a reading holds, each counted each time it is reached (what is shared counts as often as it is met; a slice's spare places count too). A statement '..UptoSaid' is the law's where the arguments, and the package variables that the reading takes, are together of bulk at most 1048576: NARROWER than '..Said'. Prove '..Said' where nothing that the law and all that it calls make is longer than what came in: it says more and counts as full. Else prove '..UptoSaid'. A law counts once. -/
mutual
def uptoBulk {H : Type} : DataW H → Nat
  | .lit (.string bytes) => bytes.length + 1
  | .lit _ => 1
  | .nil => 1
  | .ptr d => uptoBulk d + 1
  | .slice elems spare => uptoBulkAll elems + uptoBulkAll spare + 1
  | .agg parts => uptoBulkAll parts + 1
  | .iface _ d => uptoBulk d + 1
  | .map entries => uptoBulkEntries entries + 1
  | .held _ => 1
def uptoBulkAll {H : Type} : List (DataW H) → Nat
  | [] => 0
  | d :: r => uptoBulk d + uptoBulkAll r
def uptoBulkEntries {H : Type} : List (Lit × DataW H) → Nat
  | [] => 0
  | x :: r => uptoBulkEntry x + uptoBulkEntries r
def uptoBulkEntry {H : Type} : Lit × DataW H → Nat
  | (.string bytes, d) => bytes.length + uptoBulk d + 1
  | (_, d) => uptoBulk d + 1
 end
def uptoSmall : (H : Type) → List (DataW H) → Bool := fun _ ds => decide (uptoBulkAll ds ≤ 1048576)
def OpenSpec.upto (s : _root_.Go.ChangeSpec) : _root_.Go.OpenSpec := { _root_.Go.OpenSpec.ofChange s with cond := some uptoSmall }

/-- 'orchardlaw02.DiskOwn', WHERE WHAT IT READS IS OF BULK AT MOST 1048576: true; the input reads as it did. -/
def diskOwnUptoRow : OpenClaim := { program := "ytkamfmdonhaikaa", sum := "5179df67ab27fe18917a312b1c80d535e64d922f9cedf3f81fbf3f57a3596658", func := "orchard/orchardlaw02.DiskOwn", spec := "diskOwn", apart := false, narrowed := true }
def DiskOwnUptoSaid : Prop := diskOwnUptoRow.holds Try.pinned (OpenSpec.upto diskOwnSpec)

/-- 'orchardlaw02.DiskStays', WHERE WHAT IT READS IS OF BULK AT MOST 1048576: true; the input reads as it did. -/
def diskStaysUptoRow : OpenClaim := { program := "ytkamfmdonhaikaa", sum := "5179df67ab27fe18917a312b1c80d535e64d922f9cedf3f81fbf3f57a3596658", func := "orchard/orchardlaw02.DiskStays", spec := "diskStays", apart := false, narrowed := true }
def DiskStaysUptoSaid : Prop := diskStaysUptoRow.holds Try.pinned (OpenSpec.upto diskStaysSpec)

/-- 'orchardlaw06.CkptOneStep', WHERE WHAT IT READS IS OF BULK AT MOST 1048576: true; the input reads as it did. -/
def ckptOneStepUptoRow : OpenClaim := { program := "ytkamfmdonhaikaa", sum := "5179df67ab27fe18917a312b1c80d535e64d922f9cedf3f81fbf3f57a3596658", func := "orchard/orchardlaw06.CkptOneStep", spec := "ckptOneStep", unfollowed := true, recurses := true, apart := false, narrowed := true }
def CkptOneStepUptoSaid : Prop := ckptOneStepUptoRow.holds Try.pinned (OpenSpec.upto ckptOneStepSpec)

/-- 'orchardlaw02.DiskTorn', WHERE WHAT IT READS IS OF BULK AT MOST 1048576: true; the input reads as it did. -/
def diskTornUptoRow : OpenClaim := { program := "ytkamfmdonhaikaa", sum := "5179df67ab27fe18917a312b1c80d535e64d922f9cedf3f81fbf3f57a3596658", func := "orchard/orchardlaw02.DiskTorn", spec := "diskTorn", unfollowed := true, recurses := true, apart := false, narrowed := true }
def DiskTornUptoSaid : Prop := diskTornUptoRow.holds Try.pinned (OpenSpec.upto diskTornSpec)

/-- 'orchardlaw02.DiskDoes', WHERE WHAT IT READS IS OF BULK AT MOST 1048576: true; the input reads as it did. -/
def diskDoesUptoRow : OpenClaim := { program := "ytkamfmdonhaikaa", sum := "5179df67ab27fe18917a312b1c80d535e64d922f9cedf3f81fbf3f57a3596658", func := "orchard/orchardlaw02.DiskDoes", spec := "diskDoes", unfollowed := true, recurses := true, apart := false, narrowed := true }
def DiskDoesUptoSaid : Prop := diskDoesUptoRow.holds Try.pinned (OpenSpec.upto diskDoesSpec)

/-- 'orchardlaw02.DiskNone', WHERE WHAT IT READS IS OF BULK AT MOST 1048576: true; the input reads as it did. -/
def diskNoneUptoRow : OpenClaim := { program := "ytkamfmdonhaikaa", sum := "5179df67ab27fe18917a312b1c80d535e64d922f9cedf3f81fbf3f57a3596658", func := "orchard/orchardlaw02.DiskNone", spec := "diskNone", unfollowed := true, recurses := true, apart := false, narrowed := true }
def DiskNoneUptoSaid : Prop := diskNoneUptoRow.holds Try.pinned (OpenSpec.upto diskNoneSpec)

/-- 'orchardlaw06.CkptNone', WHERE WHAT IT READS IS OF BULK AT MOST 1048576: true; the input reads as it did. -/
def ckptNoneUptoRow : OpenClaim := { program := "ytkamfmdonhaikaa", sum := "5179df67ab27fe18917a312b1c80d535e64d922f9cedf3f81fbf3f57a3596658", func := "orchard/orchardlaw06.CkptNone", spec := "ckptNone", unfollowed := true, recurses := true, apart := false, narrowed := true }
def CkptNoneUptoSaid : Prop := ckptNoneUptoRow.holds Try.pinned (OpenSpec.upto ckptNoneSpec)

/-- 'orchardlaw06.CkptCodes', WHERE WHAT IT READS IS OF BULK AT MOST 1048576: true; the input reads as it did. -/
def ckptCodesUptoRow : OpenClaim := { program := "ytkamfmdonhaikaa", sum := "5179df67ab27fe18917a312b1c80d535e64d922f9cedf3f81fbf3f57a3596658", func := "orchard/orchardlaw06.CkptCodes", spec := "ckptCodes", unfollowed := true, recurses := true, apart := false, narrowed := true }
def CkptCodesUptoSaid : Prop := ckptCodesUptoRow.holds Try.pinned (OpenSpec.upto ckptCodesSpec)

/-- 'orchardlaw06.CkptOwn', WHERE WHAT IT READS IS OF BULK AT MOST 1048576: true; the input reads as it did. -/
def ckptOwnUptoRow : OpenClaim := { program := "ytkamfmdonhaikaa", sum := "5179df67ab27fe18917a312b1c80d535e64d922f9cedf3f81fbf3f57a3596658", func := "orchard/orchardlaw06.CkptOwn", spec := "ckptOwn", unfollowed := true, recurses := true, apart := false, narrowed := true }
def CkptOwnUptoSaid : Prop := ckptOwnUptoRow.holds Try.pinned (OpenSpec.upto ckptOwnSpec)

/-- 'orchardlaw06.CkptLean', WHERE WHAT IT READS IS OF BULK AT MOST 1048576: true; the input reads as it did. -/
def ckptLeanUptoRow : OpenClaim := { program := "ytkamfmdonhaikaa", sum := "5179df67ab27fe18917a312b1c80d535e64d922f9cedf3f81fbf3f57a3596658", func := "orchard/orchardlaw06.CkptLean", spec := "ckptLean", unfollowed := true, recurses := true, apart := false, narrowed := true }
def CkptLeanUptoSaid : Prop := ckptLeanUptoRow.holds Try.pinned (OpenSpec.upto ckptLeanSpec)

end Rows
end Go.Proofs.Ytkamfmdonhaikaa
