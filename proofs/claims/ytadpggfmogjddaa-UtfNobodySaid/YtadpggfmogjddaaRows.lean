/-
  No cell of these rows narrows 'for every input' (looked for: loops, veiled, ifaces, maps, wideKeys, modest, calm, conditions, laid).
  DERIVED. THE GIVEN ROWS OF THIS SEAT. 7 by the template 'for every input the law returns true; each argument reads behind the call as it read before'; 0 by the template 'total and deterministic' (their statements: YtadpggfmogjddaaTotals.lean).
  GIVEN WITH THE SEED: the statements are not yours to turn. If you find one false, say at which input.
  Laid BY PROGRAM, IN A SANDBOX (cutbox-rows.mjs): the forced cells as the released guide's own fill.sh prints them over the translation 2f5d79a25c91cf85… (all of the seat's roots in one cut). By AI agents, Wed Nov 11 2026. No macro, syntax, notation, axiom, sorry.
-/
import Derived.Test.YtadpggfmogjddaaChecked
import GoSem.Claim
import GoSem.ClaimJoined
import GoSem.ClaimMapViews
import Derived.JoinedTies
import Derived.KernelRfl
namespace Go.Proofs.Ytadpggfmogjddaa
/- THE CELL 'sum', in the pinned program and in every row, IS THE sha256 OF THE DUMP (.gsa) THAT YtadpggfmogjddaaProg.lean LOADS. Nothing in Lean hashes anything: it is a label: what it is worth is what the hold of that sum in a sandbox is worth. -/
noncomputable def Try.pinned : Pinned := { name := "ytadpggfmogjddaa", sum := "2f5d79a25c91cf85509d4ebd096ef798eeb2ee153771694bf4a05e2fdafd6d64", checked := Try.checked }
namespace Rows
def none {H : Type} : Left H := { results := [], args := [] }

/-- 'crierlaw03.UtfKnown': WHATEVER THE INPUT: true; the input reads as it did. -/
def utfKnownSpec : ChangeSpec := { name := "utfKnown", fn := fun _ => fun
  | [] => { results := [.lit (.bool true)], args := [] }
  | _ => none }
def utfKnownRow : OpenClaim := { program := "ytadpggfmogjddaa", sum := "2f5d79a25c91cf85509d4ebd096ef798eeb2ee153771694bf4a05e2fdafd6d64", func := "crier/crierlaw03.UtfKnown", spec := "utfKnown", unfollowed := true, recurses := true, apart := false }
def UtfKnownSaid : Prop := utfKnownRow.holds Try.pinned (OpenSpec.ofChange utfKnownSpec)

/-- ITS FALSE NEIGHBOUR: 'it returns false'. Refute it at one input. -/
def utfKnownWrong : ChangeSpec := { name := "utfKnown", fn := fun _ => fun
  | [] => { results := [.lit (.bool false)], args := [] }
  | _ => none }
def UtfKnownWrongFalsely : Prop := utfKnownRow.holds Try.pinned (OpenSpec.ofChange utfKnownWrong)

/-- 'crierlaw03.UtfReads': WHATEVER THE INPUT: true; the input reads as it did. -/
def utfReadsSpec : ChangeSpec := { name := "utfReads", fn := fun _ => fun
  | [d] => { results := [.lit (.bool true)], args := [d] }
  | _ => none }
def utfReadsRow : OpenClaim := { program := "ytadpggfmogjddaa", sum := "2f5d79a25c91cf85509d4ebd096ef798eeb2ee153771694bf4a05e2fdafd6d64", func := "crier/crierlaw03.UtfReads", spec := "utfReads", unfollowed := true, recurses := true, apart := false }
def UtfReadsSaid : Prop := utfReadsRow.holds Try.pinned (OpenSpec.ofChange utfReadsSpec)

/-- ITS FALSE NEIGHBOUR: 'it returns false'. Refute it at one input. -/
def utfReadsWrong : ChangeSpec := { name := "utfReads", fn := fun _ => fun
  | [d] => { results := [.lit (.bool false)], args := [d] }
  | _ => none }
def UtfReadsWrongFalsely : Prop := utfReadsRow.holds Try.pinned (OpenSpec.ofChange utfReadsWrong)

/-- 'crierlaw03.UtfFew': WHATEVER THE INPUT: true; the input reads as it did. -/
def utfFewSpec : ChangeSpec := { name := "utfFew", fn := fun _ => fun
  | [d1, d2, d3, d4] => { results := [.lit (.bool true)], args := [d1, d2, d3, d4] }
  | _ => none }
def utfFewRow : OpenClaim := { program := "ytadpggfmogjddaa", sum := "2f5d79a25c91cf85509d4ebd096ef798eeb2ee153771694bf4a05e2fdafd6d64", func := "crier/crierlaw03.UtfFew", spec := "utfFew", unfollowed := true, recurses := true, apart := false }
def UtfFewSaid : Prop := utfFewRow.holds Try.pinned (OpenSpec.ofChange utfFewSpec)

/-- ITS FALSE NEIGHBOUR: 'it returns false'. Refute it at one input. -/
def utfFewWrong : ChangeSpec := { name := "utfFew", fn := fun _ => fun
  | [d1, d2, d3, d4] => { results := [.lit (.bool false)], args := [d1, d2, d3, d4] }
  | _ => none }
def UtfFewWrongFalsely : Prop := utfFewRow.holds Try.pinned (OpenSpec.ofChange utfFewWrong)

/-- 'crierlaw03.UtfNobody': WHATEVER THE INPUT: true; the input reads as it did. -/
def utfNobodySpec : ChangeSpec := { name := "utfNobody", fn := fun _ => fun
  | [d] => { results := [.lit (.bool true)], args := [d] }
  | _ => none }
def utfNobodyRow : OpenClaim := { program := "ytadpggfmogjddaa", sum := "2f5d79a25c91cf85509d4ebd096ef798eeb2ee153771694bf4a05e2fdafd6d64", func := "crier/crierlaw03.UtfNobody", spec := "utfNobody", unfollowed := true, recurses := true, apart := false }
def UtfNobodySaid : Prop := utfNobodyRow.holds Try.pinned (OpenSpec.ofChange utfNobodySpec)

/-- ITS FALSE NEIGHBOUR: 'it returns false'. Refute it at one input. -/
def utfNobodyWrong : ChangeSpec := { name := "utfNobody", fn := fun _ => fun
  | [d] => { results := [.lit (.bool false)], args := [d] }
  | _ => none }
def UtfNobodyWrongFalsely : Prop := utfNobodyRow.holds Try.pinned (OpenSpec.ofChange utfNobodyWrong)

/-- 'crierlaw03.UtfPieces': WHATEVER THE INPUT: true; the input reads as it did. -/
def utfPiecesSpec : ChangeSpec := { name := "utfPieces", fn := fun _ => fun
  | [d1, d2, d3] => { results := [.lit (.bool true)], args := [d1, d2, d3] }
  | _ => none }
def utfPiecesRow : OpenClaim := { program := "ytadpggfmogjddaa", sum := "2f5d79a25c91cf85509d4ebd096ef798eeb2ee153771694bf4a05e2fdafd6d64", func := "crier/crierlaw03.UtfPieces", spec := "utfPieces", unfollowed := true, recurses := true, apart := false }
def UtfPiecesSaid : Prop := utfPiecesRow.holds Try.pinned (OpenSpec.ofChange utfPiecesSpec)

/-- ITS FALSE NEIGHBOUR: 'it returns false'. Refute it at one input. -/
def utfPiecesWrong : ChangeSpec := { name := "utfPieces", fn := fun _ => fun
  | [d1, d2, d3] => { results := [.lit (.bool false)], args := [d1, d2, d3] }
  | _ => none }
def UtfPiecesWrongFalsely : Prop := utfPiecesRow.holds Try.pinned (OpenSpec.ofChange utfPiecesWrong)

/-- 'crierlaw03.UtfSpells': WHATEVER THE INPUT: true; the input reads as it did. -/
def utfSpellsSpec : ChangeSpec := { name := "utfSpells", fn := fun _ => fun
  | [d] => { results := [.lit (.bool true)], args := [d] }
  | _ => none }
def utfSpellsRow : OpenClaim := { program := "ytadpggfmogjddaa", sum := "2f5d79a25c91cf85509d4ebd096ef798eeb2ee153771694bf4a05e2fdafd6d64", func := "crier/crierlaw03.UtfSpells", spec := "utfSpells", unfollowed := true, recurses := true, apart := false }
def UtfSpellsSaid : Prop := utfSpellsRow.holds Try.pinned (OpenSpec.ofChange utfSpellsSpec)

/-- ITS FALSE NEIGHBOUR: 'it returns false'. Refute it at one input. -/
def utfSpellsWrong : ChangeSpec := { name := "utfSpells", fn := fun _ => fun
  | [d] => { results := [.lit (.bool false)], args := [d] }
  | _ => none }
def UtfSpellsWrongFalsely : Prop := utfSpellsRow.holds Try.pinned (OpenSpec.ofChange utfSpellsWrong)

/-- 'crierlaw03.UtfStops': WHATEVER THE INPUT: true; the input reads as it did. -/
def utfStopsSpec : ChangeSpec := { name := "utfStops", fn := fun _ => fun
  | [d1, d2] => { results := [.lit (.bool true)], args := [d1, d2] }
  | _ => none }
def utfStopsRow : OpenClaim := { program := "ytadpggfmogjddaa", sum := "2f5d79a25c91cf85509d4ebd096ef798eeb2ee153771694bf4a05e2fdafd6d64", func := "crier/crierlaw03.UtfStops", spec := "utfStops", unfollowed := true, recurses := true, apart := false }
def UtfStopsSaid : Prop := utfStopsRow.holds Try.pinned (OpenSpec.ofChange utfStopsSpec)

/-- ITS FALSE NEIGHBOUR: 'it returns false'. Refute it at one input. -/
def utfStopsWrong : ChangeSpec := { name := "utfStops", fn := fun _ => fun
  | [d1, d2] => { results := [.lit (.bool false)], args := [d1, d2] }
  | _ => none }
def UtfStopsWrongFalsely : Prop := utfStopsRow.holds Try.pinned (OpenSpec.ofChange utfStopsWrong)

/- THE SECOND FORM. 'bulk': how many values and letters a reading holds, each counted each time it is reached (what is shared counts as often as it is met; a slice's spare places count too). A statement '..UptoSaid' is the law's where the arguments, and the package variables that the reading takes, are together of bulk at most 1048576: NARROWER than '..Said'. Prove '..Said' where nothing that the law and all that it calls make is longer than what came in: it says more and counts as full. Else prove '..UptoSaid'. A law counts once. -/
mutual
def uptoBulk {H : Type} : DataW H → Nat
  | .lit (.string bytes) => bytes.length + 1
  | .lit _ => 1
  | .nil => 1
  | .ptr d => uptoBulk d + 1
  | .slice elems spare => uptoBulkAll elems + uptoBulkAll spare + 1
  | .agg parts => uptoBulkAll parts + 1
  | .iface _ d => uptoBulk d + 1
  | .map entries => uptoBulkEntries entries + 1
  | .held _ => 1
def uptoBulkAll {H : Type} : List (DataW H) → Nat
  | [] => 0
  | d :: r => uptoBulk d + uptoBulkAll r
def uptoBulkEntries {H : Type} : List (Lit × DataW H) → Nat
  | [] => 0
  | x :: r => uptoBulkEntry x + uptoBulkEntries r
def uptoBulkEntry {H : Type} : Lit × DataW H → Nat
  | (.string bytes, d) => bytes.length + uptoBulk d + 1
  | (_, d) => uptoBulk d + 1
 end
def uptoSmall : (H : Type) → List (DataW H) → Bool := fun _ ds => decide (uptoBulkAll ds ≤ 1048576)
def OpenSpec.upto (s : _root_.Go.ChangeSpec) : _root_.Go.OpenSpec := { _root_.Go.OpenSpec.ofChange s with cond := some uptoSmall }

/-- 'crierlaw03.UtfKnown', WHERE WHAT IT READS IS OF BULK AT MOST 1048576: true; the input reads as it did. -/
def utfKnownUptoRow : OpenClaim := { program := "ytadpggfmogjddaa", sum := "2f5d79a25c91cf85509d4ebd096ef798eeb2ee153771694bf4a05e2fdafd6d64", func := "crier/crierlaw03.UtfKnown", spec := "utfKnown", unfollowed := true, recurses := true, apart := false, narrowed := true }
def UtfKnownUptoSaid : Prop := utfKnownUptoRow.holds Try.pinned (OpenSpec.upto utfKnownSpec)

/-- 'crierlaw03.UtfReads', WHERE WHAT IT READS IS OF BULK AT MOST 1048576: true; the input reads as it did. -/
def utfReadsUptoRow : OpenClaim := { program := "ytadpggfmogjddaa", sum := "2f5d79a25c91cf85509d4ebd096ef798eeb2ee153771694bf4a05e2fdafd6d64", func := "crier/crierlaw03.UtfReads", spec := "utfReads", unfollowed := true, recurses := true, apart := false, narrowed := true }
def UtfReadsUptoSaid : Prop := utfReadsUptoRow.holds Try.pinned (OpenSpec.upto utfReadsSpec)

/-- 'crierlaw03.UtfFew', WHERE WHAT IT READS IS OF BULK AT MOST 1048576: true; the input reads as it did. -/
def utfFewUptoRow : OpenClaim := { program := "ytadpggfmogjddaa", sum := "2f5d79a25c91cf85509d4ebd096ef798eeb2ee153771694bf4a05e2fdafd6d64", func := "crier/crierlaw03.UtfFew", spec := "utfFew", unfollowed := true, recurses := true, apart := false, narrowed := true }
def UtfFewUptoSaid : Prop := utfFewUptoRow.holds Try.pinned (OpenSpec.upto utfFewSpec)

/-- 'crierlaw03.UtfNobody', WHERE WHAT IT READS IS OF BULK AT MOST 1048576: true; the input reads as it did. -/
def utfNobodyUptoRow : OpenClaim := { program := "ytadpggfmogjddaa", sum := "2f5d79a25c91cf85509d4ebd096ef798eeb2ee153771694bf4a05e2fdafd6d64", func := "crier/crierlaw03.UtfNobody", spec := "utfNobody", unfollowed := true, recurses := true, apart := false, narrowed := true }
def UtfNobodyUptoSaid : Prop := utfNobodyUptoRow.holds Try.pinned (OpenSpec.upto utfNobodySpec)

/-- 'crierlaw03.UtfPieces', WHERE WHAT IT READS IS OF BULK AT MOST 1048576: true; the input reads as it did. -/
def utfPiecesUptoRow : OpenClaim := { program := "ytadpggfmogjddaa", sum := "2f5d79a25c91cf85509d4ebd096ef798eeb2ee153771694bf4a05e2fdafd6d64", func := "crier/crierlaw03.UtfPieces", spec := "utfPieces", unfollowed := true, recurses := true, apart := false, narrowed := true }
def UtfPiecesUptoSaid : Prop := utfPiecesUptoRow.holds Try.pinned (OpenSpec.upto utfPiecesSpec)

/-- 'crierlaw03.UtfSpells', WHERE WHAT IT READS IS OF BULK AT MOST 1048576: true; the input reads as it did. -/
def utfSpellsUptoRow : OpenClaim := { program := "ytadpggfmogjddaa", sum := "2f5d79a25c91cf85509d4ebd096ef798eeb2ee153771694bf4a05e2fdafd6d64", func := "crier/crierlaw03.UtfSpells", spec := "utfSpells", unfollowed := true, recurses := true, apart := false, narrowed := true }
def UtfSpellsUptoSaid : Prop := utfSpellsUptoRow.holds Try.pinned (OpenSpec.upto utfSpellsSpec)

/-- 'crierlaw03.UtfStops', WHERE WHAT IT READS IS OF BULK AT MOST 1048576: true; the input reads as it did. -/
def utfStopsUptoRow : OpenClaim := { program := "ytadpggfmogjddaa", sum := "2f5d79a25c91cf85509d4ebd096ef798eeb2ee153771694bf4a05e2fdafd6d64", func := "crier/crierlaw03.UtfStops", spec := "utfStops", unfollowed := true, recurses := true, apart := false, narrowed := true }
def UtfStopsUptoSaid : Prop := utfStopsUptoRow.holds Try.pinned (OpenSpec.upto utfStopsSpec)

end Rows
end Go.Proofs.Ytadpggfmogjddaa
