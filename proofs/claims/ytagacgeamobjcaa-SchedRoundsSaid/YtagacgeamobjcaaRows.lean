/-
  No cell of these rows narrows 'for every input' (looked for: loops, veiled, ifaces, maps, wideKeys, modest, calm, conditions, laid).
  DERIVED. THE GIVEN ROWS OF THIS SEAT. 5 by the template 'for every input the law returns true; each argument reads behind the call as it read before'; 0 by the template 'total and deterministic' (their statements: YtagacgeamobjcaaTotals.lean).
  GIVEN WITH THE SEED: the statements are not yours to turn. If you find one false, say at which input.
  Laid BY PROGRAM, IN A SANDBOX (cutbox-rows.mjs): the forced cells as the released guide's own fill.sh prints them over the translation 25f0cae0a4042e38… (all of the seat's roots in one cut). By AI agents, Wed Nov 11 2026. No macro, syntax, notation, axiom, sorry.
-/
import Derived.Test.YtagacgeamobjcaaChecked
import GoSem.Claim
import GoSem.ClaimJoined
import GoSem.ClaimMapViews
import Derived.JoinedTies
import Derived.KernelRfl
namespace Go.Proofs.Ytagacgeamobjcaa
/- THE CELL 'sum', in the pinned program and in every row, IS THE sha256 OF THE DUMP (.gsa) THAT YtagacgeamobjcaaProg.lean LOADS. Nothing in Lean hashes anything: it is a label: what it is worth is what the hold of that sum in a sandbox is worth. -/
noncomputable def Try.pinned : Pinned := { name := "ytagacgeamobjcaa", sum := "25f0cae0a4042e38c829c9feecd1b687721c0d68a73f94e43dd49afc0c6728b7", checked := Try.checked }
namespace Rows
def none {H : Type} : Left H := { results := [], args := [] }

/-- 'crierlaw27.SchedTurns': WHATEVER THE INPUT: true; the input reads as it did. -/
def schedTurnsSpec : ChangeSpec := { name := "schedTurns", fn := fun _ => fun
  | [d1, d2] => { results := [.lit (.bool true)], args := [d1, d2] }
  | _ => none }
def schedTurnsRow : OpenClaim := { program := "ytagacgeamobjcaa", sum := "25f0cae0a4042e38c829c9feecd1b687721c0d68a73f94e43dd49afc0c6728b7", func := "crier/crierlaw27.SchedTurns", spec := "schedTurns", unfollowed := true, recurses := true, apart := false }
def SchedTurnsSaid : Prop := schedTurnsRow.holds Try.pinned (OpenSpec.ofChange schedTurnsSpec)

/-- ITS FALSE NEIGHBOUR: 'it returns false'. Refute it at one input. -/
def schedTurnsWrong : ChangeSpec := { name := "schedTurns", fn := fun _ => fun
  | [d1, d2] => { results := [.lit (.bool false)], args := [d1, d2] }
  | _ => none }
def SchedTurnsWrongFalsely : Prop := schedTurnsRow.holds Try.pinned (OpenSpec.ofChange schedTurnsWrong)

/-- 'crierlaw27.SchedRounds': WHATEVER THE INPUT: true; the input reads as it did. -/
def schedRoundsSpec : ChangeSpec := { name := "schedRounds", fn := fun _ => fun
  | [d1, d2, d3] => { results := [.lit (.bool true)], args := [d1, d2, d3] }
  | _ => none }
def schedRoundsRow : OpenClaim := { program := "ytagacgeamobjcaa", sum := "25f0cae0a4042e38c829c9feecd1b687721c0d68a73f94e43dd49afc0c6728b7", func := "crier/crierlaw27.SchedRounds", spec := "schedRounds", unfollowed := true, recurses := true, apart := false }
def SchedRoundsSaid : Prop := schedRoundsRow.holds Try.pinned (OpenSpec.ofChange schedRoundsSpec)

/-- ITS FALSE NEIGHBOUR: 'it returns false'. Refute it at one input. -/
def schedRoundsWrong : ChangeSpec := { name := "schedRounds", fn := fun _ => fun
  | [d1, d2, d3] => { results := [.lit (.bool false)], args := [d1, d2, d3] }
  | _ => none }
def SchedRoundsWrongFalsely : Prop := schedRoundsRow.holds Try.pinned (OpenSpec.ofChange schedRoundsWrong)

/-- 'crierlaw27.SchedOnce': WHATEVER THE INPUT: true; the input reads as it did. -/
def schedOnceSpec : ChangeSpec := { name := "schedOnce", fn := fun _ => fun
  | [d] => { results := [.lit (.bool true)], args := [d] }
  | _ => none }
def schedOnceRow : OpenClaim := { program := "ytagacgeamobjcaa", sum := "25f0cae0a4042e38c829c9feecd1b687721c0d68a73f94e43dd49afc0c6728b7", func := "crier/crierlaw27.SchedOnce", spec := "schedOnce", unfollowed := true, recurses := true, apart := false }
def SchedOnceSaid : Prop := schedOnceRow.holds Try.pinned (OpenSpec.ofChange schedOnceSpec)

/-- ITS FALSE NEIGHBOUR: 'it returns false'. Refute it at one input. -/
def schedOnceWrong : ChangeSpec := { name := "schedOnce", fn := fun _ => fun
  | [d] => { results := [.lit (.bool false)], args := [d] }
  | _ => none }
def SchedOnceWrongFalsely : Prop := schedOnceRow.holds Try.pinned (OpenSpec.ofChange schedOnceWrong)

/-- 'crierlaw27.SchedNone': WHATEVER THE INPUT: true; the input reads as it did. -/
def schedNoneSpec : ChangeSpec := { name := "schedNone", fn := fun _ => fun
  | [d1, d2] => { results := [.lit (.bool true)], args := [d1, d2] }
  | _ => none }
def schedNoneRow : OpenClaim := { program := "ytagacgeamobjcaa", sum := "25f0cae0a4042e38c829c9feecd1b687721c0d68a73f94e43dd49afc0c6728b7", func := "crier/crierlaw27.SchedNone", spec := "schedNone", unfollowed := true, recurses := true, apart := false }
def SchedNoneSaid : Prop := schedNoneRow.holds Try.pinned (OpenSpec.ofChange schedNoneSpec)

/-- ITS FALSE NEIGHBOUR: 'it returns false'. Refute it at one input. -/
def schedNoneWrong : ChangeSpec := { name := "schedNone", fn := fun _ => fun
  | [d1, d2] => { results := [.lit (.bool false)], args := [d1, d2] }
  | _ => none }
def SchedNoneWrongFalsely : Prop := schedNoneRow.holds Try.pinned (OpenSpec.ofChange schedNoneWrong)

/-- 'crierlaw27.SchedKnown': WHATEVER THE INPUT: true; the input reads as it did. -/
def schedKnownSpec : ChangeSpec := { name := "schedKnown", fn := fun _ => fun
  | [] => { results := [.lit (.bool true)], args := [] }
  | _ => none }
def schedKnownRow : OpenClaim := { program := "ytagacgeamobjcaa", sum := "25f0cae0a4042e38c829c9feecd1b687721c0d68a73f94e43dd49afc0c6728b7", func := "crier/crierlaw27.SchedKnown", spec := "schedKnown", unfollowed := true, recurses := true, apart := false }
def SchedKnownSaid : Prop := schedKnownRow.holds Try.pinned (OpenSpec.ofChange schedKnownSpec)

/-- ITS FALSE NEIGHBOUR: 'it returns false'. Refute it at one input. -/
def schedKnownWrong : ChangeSpec := { name := "schedKnown", fn := fun _ => fun
  | [] => { results := [.lit (.bool false)], args := [] }
  | _ => none }
def SchedKnownWrongFalsely : Prop := schedKnownRow.holds Try.pinned (OpenSpec.ofChange schedKnownWrong)

/- THE SECOND FORM. 'bulk': how many values and letters a reading holds, each counted each time it is reached (what is shared counts as often as it is met; a slice's spare places count too). A statement '..UptoSaid' is the law's where the arguments, and the package variables that the reading takes, are together of bulk at most 1048576: NARROWER than '..Said'. Prove '..Said' where nothing that the law and all that it calls make is longer than what came in: it says more and counts as full. Else prove '..UptoSaid'. A law counts once. -/
mutual
def uptoBulk {H : Type} : DataW H → Nat
  | .lit (.string bytes) => bytes.length + 1
  | .lit _ => 1
  | .nil => 1
  | .ptr d => uptoBulk d + 1
  | .slice elems spare => uptoBulkAll elems + uptoBulkAll spare + 1
  | .agg parts => uptoBulkAll parts + 1
  | .iface _ d => uptoBulk d + 1
  | .map entries => uptoBulkEntries entries + 1
  | .held _ => 1
def uptoBulkAll {H : Type} : List (DataW H) → Nat
  | [] => 0
  | d :: r => uptoBulk d + uptoBulkAll r
def uptoBulkEntries {H : Type} : List (Lit × DataW H) → Nat
  | [] => 0
  | x :: r => uptoBulkEntry x + uptoBulkEntries r
def uptoBulkEntry {H : Type} : Lit × DataW H → Nat
  | (.string bytes, d) => bytes.length + uptoBulk d + 1
  | (_, d) => uptoBulk d + 1
 end
def uptoSmall : (H : Type) → List (DataW H) → Bool := fun _ ds => decide (uptoBulkAll ds ≤ 1048576)
def OpenSpec.upto (s : _root_.Go.ChangeSpec) : _root_.Go.OpenSpec := { _root_.Go.OpenSpec.ofChange s with cond := some uptoSmall }

/-- 'crierlaw27.SchedTurns', WHERE WHAT IT READS IS OF BULK AT MOST 1048576: true; the input reads as it did. -/
def schedTurnsUptoRow : OpenClaim := { program := "ytagacgeamobjcaa", sum := "25f0cae0a4042e38c829c9feecd1b687721c0d68a73f94e43dd49afc0c6728b7", func := "crier/crierlaw27.SchedTurns", spec := "schedTurns", unfollowed := true, recurses := true, apart := false, narrowed := true }
def SchedTurnsUptoSaid : Prop := schedTurnsUptoRow.holds Try.pinned (OpenSpec.upto schedTurnsSpec)

/-- 'crierlaw27.SchedRounds', WHERE WHAT IT READS IS OF BULK AT MOST 1048576: true; the input reads as it did. -/
def schedRoundsUptoRow : OpenClaim := { program := "ytagacgeamobjcaa", sum := "25f0cae0a4042e38c829c9feecd1b687721c0d68a73f94e43dd49afc0c6728b7", func := "crier/crierlaw27.SchedRounds", spec := "schedRounds", unfollowed := true, recurses := true, apart := false, narrowed := true }
def SchedRoundsUptoSaid : Prop := schedRoundsUptoRow.holds Try.pinned (OpenSpec.upto schedRoundsSpec)

/-- 'crierlaw27.SchedOnce', WHERE WHAT IT READS IS OF BULK AT MOST 1048576: true; the input reads as it did. -/
def schedOnceUptoRow : OpenClaim := { program := "ytagacgeamobjcaa", sum := "25f0cae0a4042e38c829c9feecd1b687721c0d68a73f94e43dd49afc0c6728b7", func := "crier/crierlaw27.SchedOnce", spec := "schedOnce", unfollowed := true, recurses := true, apart := false, narrowed := true }
def SchedOnceUptoSaid : Prop := schedOnceUptoRow.holds Try.pinned (OpenSpec.upto schedOnceSpec)

/-- 'crierlaw27.SchedNone', WHERE WHAT IT READS IS OF BULK AT MOST 1048576: true; the input reads as it did. -/
def schedNoneUptoRow : OpenClaim := { program := "ytagacgeamobjcaa", sum := "25f0cae0a4042e38c829c9feecd1b687721c0d68a73f94e43dd49afc0c6728b7", func := "crier/crierlaw27.SchedNone", spec := "schedNone", unfollowed := true, recurses := true, apart := false, narrowed := true }
def SchedNoneUptoSaid : Prop := schedNoneUptoRow.holds Try.pinned (OpenSpec.upto schedNoneSpec)

/-- 'crierlaw27.SchedKnown', WHERE WHAT IT READS IS OF BULK AT MOST 1048576: true; the input reads as it did. -/
def schedKnownUptoRow : OpenClaim := { program := "ytagacgeamobjcaa", sum := "25f0cae0a4042e38c829c9feecd1b687721c0d68a73f94e43dd49afc0c6728b7", func := "crier/crierlaw27.SchedKnown", spec := "schedKnown", unfollowed := true, recurses := true, apart := false, narrowed := true }
def SchedKnownUptoSaid : Prop := schedKnownUptoRow.holds Try.pinned (OpenSpec.upto schedKnownSpec)

end Rows
end Go.Proofs.Ytagacgeamobjcaa
