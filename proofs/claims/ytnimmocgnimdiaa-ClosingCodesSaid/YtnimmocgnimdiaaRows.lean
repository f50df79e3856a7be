/-
  No cell of these rows narrows 'for every input' (looked for: loops, veiled, ifaces, maps, wideKeys, modest, calm, conditions, laid).
  DERIVED. THE GIVEN ROWS OF THIS SEAT. 5 by the template 'for every input the law returns true; each argument reads behind the call as it read before'; 0 by the template 'total and deterministic' (their statements: YtnimmocgnimdiaaTotals.lean).
  GIVEN WITH THE SEED: the statements are not yours to turn. If you find one false, say at which input.
  Laid BY PROGRAM, IN A SANDBOX (cutbox-rows.mjs): the forced cells as the released guide's own fill.sh prints them over the translation a933baefba0d4f34… (all of the seat's roots in one cut). By AI agents, Wed Nov 11 2026. No macro, syntax, notation, axiom, sorry.
-/
import Derived.Test.YtnimmocgnimdiaaChecked
import GoSem.Claim
import GoSem.ClaimJoined
import GoSem.ClaimMapViews
import Derived.JoinedTies
import Derived.KernelRfl
namespace Go.Proofs.Ytnimmocgnimdiaa
/- THE CELL 'sum', in the pinned program and in every row, IS THE sha256 OF THE DUMP (.gsa) THAT YtnimmocgnimdiaaProg.lean LOADS. Nothing in Lean hashes anything: it is a label: what it is worth is what the hold of that sum in a sandbox is worth. -/
noncomputable def Try.pinned : Pinned := { name := "ytnimmocgnimdiaa", sum := "a933baefba0d4f34fe156f2986f0dd131e6bd61d9a06c08f73c8f2e5a51bab5d", checked := Try.checked }
namespace Rows
def none {H : Type} : Left H := { results := [], args := [] }

/-- 'crierlaw19.ClosingReads': WHATEVER THE INPUT: true; the input reads as it did. -/
def closingReadsSpec : ChangeSpec := { name := "closingReads", fn := fun _ => fun
  | [d1, d2, d3] => { results := [.lit (.bool true)], args := [d1, d2, d3] }
  | _ => none }
def closingReadsRow : OpenClaim := { program := "ytnimmocgnimdiaa", sum := "a933baefba0d4f34fe156f2986f0dd131e6bd61d9a06c08f73c8f2e5a51bab5d", func := "crier/crierlaw19.ClosingReads", spec := "closingReads", unfollowed := true, recurses := true, apart := false }
def ClosingReadsSaid : Prop := closingReadsRow.holds Try.pinned (OpenSpec.ofChange closingReadsSpec)

/-- ITS FALSE NEIGHBOUR: 'it returns false'. Refute it at one input. -/
def closingReadsWrong : ChangeSpec := { name := "closingReads", fn := fun _ => fun
  | [d1, d2, d3] => { results := [.lit (.bool false)], args := [d1, d2, d3] }
  | _ => none }
def ClosingReadsWrongFalsely : Prop := closingReadsRow.holds Try.pinned (OpenSpec.ofChange closingReadsWrong)

/-- 'crierlaw19.ClosingCodes': WHATEVER THE INPUT: true; the input reads as it did. -/
def closingCodesSpec : ChangeSpec := { name := "closingCodes", fn := fun _ => fun
  | [d1, d2] => { results := [.lit (.bool true)], args := [d1, d2] }
  | _ => none }
def closingCodesRow : OpenClaim := { program := "ytnimmocgnimdiaa", sum := "a933baefba0d4f34fe156f2986f0dd131e6bd61d9a06c08f73c8f2e5a51bab5d", func := "crier/crierlaw19.ClosingCodes", spec := "closingCodes", unfollowed := true, recurses := true, apart := false }
def ClosingCodesSaid : Prop := closingCodesRow.holds Try.pinned (OpenSpec.ofChange closingCodesSpec)

/-- ITS FALSE NEIGHBOUR: 'it returns false'. Refute it at one input. -/
def closingCodesWrong : ChangeSpec := { name := "closingCodes", fn := fun _ => fun
  | [d1, d2] => { results := [.lit (.bool false)], args := [d1, d2] }
  | _ => none }
def ClosingCodesWrongFalsely : Prop := closingCodesRow.holds Try.pinned (OpenSpec.ofChange closingCodesWrong)

/-- 'crierlaw19.ClosingBack': WHATEVER THE INPUT: true; the input reads as it did. -/
def closingBackSpec : ChangeSpec := { name := "closingBack", fn := fun _ => fun
  | [d1, d2, d3] => { results := [.lit (.bool true)], args := [d1, d2, d3] }
  | _ => none }
def closingBackRow : OpenClaim := { program := "ytnimmocgnimdiaa", sum := "a933baefba0d4f34fe156f2986f0dd131e6bd61d9a06c08f73c8f2e5a51bab5d", func := "crier/crierlaw19.ClosingBack", spec := "closingBack", unfollowed := true, recurses := true, apart := false }
def ClosingBackSaid : Prop := closingBackRow.holds Try.pinned (OpenSpec.ofChange closingBackSpec)

/-- ITS FALSE NEIGHBOUR: 'it returns false'. Refute it at one input. -/
def closingBackWrong : ChangeSpec := { name := "closingBack", fn := fun _ => fun
  | [d1, d2, d3] => { results := [.lit (.bool false)], args := [d1, d2, d3] }
  | _ => none }
def ClosingBackWrongFalsely : Prop := closingBackRow.holds Try.pinned (OpenSpec.ofChange closingBackWrong)

/-- 'crierlaw19.ClosingOnly': WHATEVER THE INPUT: true; the input reads as it did. -/
def closingOnlySpec : ChangeSpec := { name := "closingOnly", fn := fun _ => fun
  | [d1, d2] => { results := [.lit (.bool true)], args := [d1, d2] }
  | _ => none }
def closingOnlyRow : OpenClaim := { program := "ytnimmocgnimdiaa", sum := "a933baefba0d4f34fe156f2986f0dd131e6bd61d9a06c08f73c8f2e5a51bab5d", func := "crier/crierlaw19.ClosingOnly", spec := "closingOnly", unfollowed := true, recurses := true, apart := false }
def ClosingOnlySaid : Prop := closingOnlyRow.holds Try.pinned (OpenSpec.ofChange closingOnlySpec)

/-- ITS FALSE NEIGHBOUR: 'it returns false'. Refute it at one input. -/
def closingOnlyWrong : ChangeSpec := { name := "closingOnly", fn := fun _ => fun
  | [d1, d2] => { results := [.lit (.bool false)], args := [d1, d2] }
  | _ => none }
def ClosingOnlyWrongFalsely : Prop := closingOnlyRow.holds Try.pinned (OpenSpec.ofChange closingOnlyWrong)

/-- 'crierlaw19.ClosingKnown': WHATEVER THE INPUT: true; the input reads as it did. -/
def closingKnownSpec : ChangeSpec := { name := "closingKnown", fn := fun _ => fun
  | [] => { results := [.lit (.bool true)], args := [] }
  | _ => none }
def closingKnownRow : OpenClaim := { program := "ytnimmocgnimdiaa", sum := "a933baefba0d4f34fe156f2986f0dd131e6bd61d9a06c08f73c8f2e5a51bab5d", func := "crier/crierlaw19.ClosingKnown", spec := "closingKnown", inPlace := ["internal/abi.NoEscape", "internal/bytealg.MakeNoZero"], unfollowed := true, recurses := true, apart := false }
def ClosingKnownSaid : Prop := closingKnownRow.holds Try.pinned (OpenSpec.ofChange closingKnownSpec)

/-- ITS FALSE NEIGHBOUR: 'it returns false'. Refute it at one input. -/
def closingKnownWrong : ChangeSpec := { name := "closingKnown", fn := fun _ => fun
  | [] => { results := [.lit (.bool false)], args := [] }
  | _ => none }
def ClosingKnownWrongFalsely : Prop := closingKnownRow.holds Try.pinned (OpenSpec.ofChange closingKnownWrong)

/- THE SECOND FORM. 'bulk': how many values and letters a reading holds, each counted each time it is reached (what is shared counts as often as it is met; a slice's spare places count too). A statement '..UptoSaid' is the law's where the arguments, and the package variables that the reading takes, are together of bulk at most 1048576: NARROWER than '..Said'. Prove '..Said' where nothing that the law and all that it calls make is longer than what came in: it says more and counts as full. Else prove '..UptoSaid'. A law counts once. -/
mutual
def uptoBulk {H : Type} : DataW H → Nat
  | .lit (.string bytes) => bytes.length + 1
  | .lit _ => 1
  | .nil => 1
  | .ptr d => uptoBulk d + 1
  | .slice elems spare => uptoBulkAll elems + uptoBulkAll spare + 1
  | .agg parts => uptoBulkAll parts + 1
  | .iface _ d => uptoBulk d + 1
  | .map entries => uptoBulkEntries entries + 1
  | .held _ => 1
def uptoBulkAll {H : Type} : List (DataW H) → Nat
  | [] => 0
  | d :: r => uptoBulk d + uptoBulkAll r
def uptoBulkEntries {H : Type} : List (Lit × DataW H) → Nat
  | [] => 0
  | x :: r => uptoBulkEntry x + uptoBulkEntries r
def uptoBulkEntry {H : Type} : Lit × DataW H → Nat
  | (.string bytes, d) => bytes.length + uptoBulk d + 1
  | (_, d) => uptoBulk d + 1
 end
def uptoSmall : (H : Type) → List (DataW H) → Bool := fun _ ds => decide (uptoBulkAll ds ≤ 1048576)
def OpenSpec.upto (s : _root_.Go.ChangeSpec) : _root_.Go.OpenSpec := { _root_.Go.OpenSpec.ofChange s with cond := some uptoSmall }

/-- 'crierlaw19.ClosingReads', WHERE WHAT IT READS IS OF BULK AT MOST 1048576: true; the input reads as it did. -/
def closingReadsUptoRow : OpenClaim := { program := "ytnimmocgnimdiaa", sum := "a933baefba0d4f34fe156f2986f0dd131e6bd61d9a06c08f73c8f2e5a51bab5d", func := "crier/crierlaw19.ClosingReads", spec := "closingReads", unfollowed := true, recurses := true, apart := false, narrowed := true }
def ClosingReadsUptoSaid : Prop := closingReadsUptoRow.holds Try.pinned (OpenSpec.upto closingReadsSpec)

/-- 'crierlaw19.ClosingCodes', WHERE WHAT IT READS IS OF BULK AT MOST 1048576: true; the input reads as it did. -/
def closingCodesUptoRow : OpenClaim := { program := "ytnimmocgnimdiaa", sum := "a933baefba0d4f34fe156f2986f0dd131e6bd61d9a06c08f73c8f2e5a51bab5d", func := "crier/crierlaw19.ClosingCodes", spec := "closingCodes", unfollowed := true, recurses := true, apart := false, narrowed := true }
def ClosingCodesUptoSaid : Prop := closingCodesUptoRow.holds Try.pinned (OpenSpec.upto closingCodesSpec)

/-- 'crierlaw19.ClosingBack', WHERE WHAT IT READS IS OF BULK AT MOST 1048576: true; the input reads as it did. -/
def closingBackUptoRow : OpenClaim := { program := "ytnimmocgnimdiaa", sum := "a933baefba0d4f34fe156f2986f0dd131e6bd61d9a06c08f73c8f2e5a51bab5d", func := "crier/crierlaw19.ClosingBack", spec := "closingBack", unfollowed := true, recurses := true, apart := false, narrowed := true }
def ClosingBackUptoSaid : Prop := closingBackUptoRow.holds Try.pinned (OpenSpec.upto closingBackSpec)

/-- 'crierlaw19.ClosingOnly', WHERE WHAT IT READS IS OF BULK AT MOST 1048576: true; the input reads as it did. -/
def closingOnlyUptoRow : OpenClaim := { program := "ytnimmocgnimdiaa", sum := "a933baefba0d4f34fe156f2986f0dd131e6bd61d9a06c08f73c8f2e5a51bab5d", func := "crier/crierlaw19.ClosingOnly", spec := "closingOnly", unfollowed := true, recurses := true, apart := false, narrowed := true }
def ClosingOnlyUptoSaid : Prop := closingOnlyUptoRow.holds Try.pinned (OpenSpec.upto closingOnlySpec)

/-- 'crierlaw19.ClosingKnown', WHERE WHAT IT READS IS OF BULK AT MOST 1048576: true; the input reads as it did. -/
def closingKnownUptoRow : OpenClaim := { program := "ytnimmocgnimdiaa", sum := "a933baefba0d4f34fe156f2986f0dd131e6bd61d9a06c08f73c8f2e5a51bab5d", func := "crier/crierlaw19.ClosingKnown", spec := "closingKnown", inPlace := ["internal/abi.NoEscape", "internal/bytealg.MakeNoZero"], unfollowed := true, recurses := true, apart := false, narrowed := true }
def ClosingKnownUptoSaid : Prop := closingKnownUptoRow.holds Try.pinned (OpenSpec.upto closingKnownSpec)

end Rows
end Go.Proofs.Ytnimmocgnimdiaa
