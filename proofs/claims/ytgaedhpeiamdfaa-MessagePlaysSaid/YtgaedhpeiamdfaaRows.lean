/-
  No cell of these rows narrows 'for every input' (looked for: loops, veiled, ifaces, maps, wideKeys, modest, calm, conditions, laid).
  DERIVED. THE GIVEN ROWS OF THIS SEAT. 6 by the template 'for every input the law returns true; each argument reads behind the call as it read before'; 0 by the template 'total and deterministic' (their statements: YtgaedhpeiamdfaaTotals.lean).
  GIVEN WITH THE SEED: the statements are not yours to turn. If you find one false, say at which input.
  Laid BY PROGRAM, IN A SANDBOX (cutbox-rows.mjs): the forced cells as the released guide's own fill.sh prints them over the translation cc9e6caf3a6902fe… (all of the seat's roots in one cut). By AI agents, Wed Nov 11 2026. No macro, syntax, notation, axiom, sorry.
-/
import Derived.Test.YtgaedhpeiamdfaaChecked
import GoSem.Claim
import GoSem.ClaimJoined
import GoSem.ClaimMapViews
import Derived.JoinedTies
import Derived.KernelRfl
namespace Go.Proofs.Ytgaedhpeiamdfaa
/- THE CELL 'sum', in the pinned program and in every row, IS THE sha256 OF THE DUMP (.gsa) THAT YtgaedhpeiamdfaaProg.lean LOADS. Nothing in Lean hashes anything: it is a label: what it is worth is what the hold of that sum in a sandbox is worth. -/
noncomputable def Try.pinned : Pinned := { name := "ytgaedhpeiamdfaa", sum := "cc9e6caf3a6902fed8d81c3ce160f49f9d01faae4b642465d989ef7d188b6c02", checked := Try.checked }
namespace Rows
def none {H : Type} : Left H := { results := [], args := [] }

/-- 'crierlaw18.MessagePlays': WHATEVER THE INPUT: true; the input reads as it did. -/
def messagePlaysSpec : ChangeSpec := { name := "messagePlays", fn := fun _ => fun
  | [d1, d2] => { results := [.lit (.bool true)], args := [d1, d2] }
  | _ => none }
def messagePlaysRow : OpenClaim := { program := "ytgaedhpeiamdfaa", sum := "cc9e6caf3a6902fed8d81c3ce160f49f9d01faae4b642465d989ef7d188b6c02", func := "crier/crierlaw18.MessagePlays", spec := "messagePlays", inPlace := ["internal/abi.NoEscape"], apart := false }
def MessagePlaysSaid : Prop := messagePlaysRow.holds Try.pinned (OpenSpec.ofChange messagePlaysSpec)

/-- ITS FALSE NEIGHBOUR: 'it returns false'. Refute it at one input. -/
def messagePlaysWrong : ChangeSpec := { name := "messagePlays", fn := fun _ => fun
  | [d1, d2] => { results := [.lit (.bool false)], args := [d1, d2] }
  | _ => none }
def MessagePlaysWrongFalsely : Prop := messagePlaysRow.holds Try.pinned (OpenSpec.ofChange messagePlaysWrong)

/-- 'crierlaw18.MessageNobody': WHATEVER THE INPUT: true; the input reads as it did. -/
def messageNobodySpec : ChangeSpec := { name := "messageNobody", fn := fun _ => fun
  | [d1, d2] => { results := [.lit (.bool true)], args := [d1, d2] }
  | _ => none }
def messageNobodyRow : OpenClaim := { program := "ytgaedhpeiamdfaa", sum := "cc9e6caf3a6902fed8d81c3ce160f49f9d01faae4b642465d989ef7d188b6c02", func := "crier/crierlaw18.MessageNobody", spec := "messageNobody", inPlace := ["internal/abi.NoEscape"], apart := false }
def MessageNobodySaid : Prop := messageNobodyRow.holds Try.pinned (OpenSpec.ofChange messageNobodySpec)

/-- ITS FALSE NEIGHBOUR: 'it returns false'. Refute it at one input. -/
def messageNobodyWrong : ChangeSpec := { name := "messageNobody", fn := fun _ => fun
  | [d1, d2] => { results := [.lit (.bool false)], args := [d1, d2] }
  | _ => none }
def MessageNobodyWrongFalsely : Prop := messageNobodyRow.holds Try.pinned (OpenSpec.ofChange messageNobodyWrong)

/-- 'crierlaw18.MessageLimit': WHATEVER THE INPUT: true; the input reads as it did. -/
def messageLimitSpec : ChangeSpec := { name := "messageLimit", fn := fun _ => fun
  | [d1, d2] => { results := [.lit (.bool true)], args := [d1, d2] }
  | _ => none }
def messageLimitRow : OpenClaim := { program := "ytgaedhpeiamdfaa", sum := "cc9e6caf3a6902fed8d81c3ce160f49f9d01faae4b642465d989ef7d188b6c02", func := "crier/crierlaw18.MessageLimit", spec := "messageLimit", inPlace := ["internal/abi.NoEscape"], apart := false }
def MessageLimitSaid : Prop := messageLimitRow.holds Try.pinned (OpenSpec.ofChange messageLimitSpec)

/-- ITS FALSE NEIGHBOUR: 'it returns false'. Refute it at one input. -/
def messageLimitWrong : ChangeSpec := { name := "messageLimit", fn := fun _ => fun
  | [d1, d2] => { results := [.lit (.bool false)], args := [d1, d2] }
  | _ => none }
def MessageLimitWrongFalsely : Prop := messageLimitRow.holds Try.pinned (OpenSpec.ofChange messageLimitWrong)

/-- 'crierlaw18.MessageKnown': WHATEVER THE INPUT: true; the input reads as it did. -/
def messageKnownSpec : ChangeSpec := { name := "messageKnown", fn := fun _ => fun
  | [] => { results := [.lit (.bool true)], args := [] }
  | _ => none }
def messageKnownRow : OpenClaim := { program := "ytgaedhpeiamdfaa", sum := "cc9e6caf3a6902fed8d81c3ce160f49f9d01faae4b642465d989ef7d188b6c02", func := "crier/crierlaw18.MessageKnown", spec := "messageKnown", inPlace := ["internal/abi.NoEscape"], apart := false }
def MessageKnownSaid : Prop := messageKnownRow.holds Try.pinned (OpenSpec.ofChange messageKnownSpec)

/-- ITS FALSE NEIGHBOUR: 'it returns false'. Refute it at one input. -/
def messageKnownWrong : ChangeSpec := { name := "messageKnown", fn := fun _ => fun
  | [] => { results := [.lit (.bool false)], args := [] }
  | _ => none }
def MessageKnownWrongFalsely : Prop := messageKnownRow.holds Try.pinned (OpenSpec.ofChange messageKnownWrong)

/-- 'crierlaw18.MessageBad': WHATEVER THE INPUT: true; the input reads as it did. -/
def messageBadSpec : ChangeSpec := { name := "messageBad", fn := fun _ => fun
  | [d1, d2, d3] => { results := [.lit (.bool true)], args := [d1, d2, d3] }
  | _ => none }
def messageBadRow : OpenClaim := { program := "ytgaedhpeiamdfaa", sum := "cc9e6caf3a6902fed8d81c3ce160f49f9d01faae4b642465d989ef7d188b6c02", func := "crier/crierlaw18.MessageBad", spec := "messageBad", inPlace := ["internal/abi.NoEscape"], unfollowed := true, recurses := true, apart := false }
def MessageBadSaid : Prop := messageBadRow.holds Try.pinned (OpenSpec.ofChange messageBadSpec)

/-- ITS FALSE NEIGHBOUR: 'it returns false'. Refute it at one input. -/
def messageBadWrong : ChangeSpec := { name := "messageBad", fn := fun _ => fun
  | [d1, d2, d3] => { results := [.lit (.bool false)], args := [d1, d2, d3] }
  | _ => none }
def MessageBadWrongFalsely : Prop := messageBadRow.holds Try.pinned (OpenSpec.ofChange messageBadWrong)

/-- 'crierlaw18.MessageCuts': WHATEVER THE INPUT: true; the input reads as it did. -/
def messageCutsSpec : ChangeSpec := { name := "messageCuts", fn := fun _ => fun
  | [d1, d2, d3, d4] => { results := [.lit (.bool true)], args := [d1, d2, d3, d4] }
  | _ => none }
def messageCutsRow : OpenClaim := { program := "ytgaedhpeiamdfaa", sum := "cc9e6caf3a6902fed8d81c3ce160f49f9d01faae4b642465d989ef7d188b6c02", func := "crier/crierlaw18.MessageCuts", spec := "messageCuts", inPlace := ["internal/abi.NoEscape"], unfollowed := true, recurses := true, apart := false }
def MessageCutsSaid : Prop := messageCutsRow.holds Try.pinned (OpenSpec.ofChange messageCutsSpec)

/-- ITS FALSE NEIGHBOUR: 'it returns false'. Refute it at one input. -/
def messageCutsWrong : ChangeSpec := { name := "messageCuts", fn := fun _ => fun
  | [d1, d2, d3, d4] => { results := [.lit (.bool false)], args := [d1, d2, d3, d4] }
  | _ => none }
def MessageCutsWrongFalsely : Prop := messageCutsRow.holds Try.pinned (OpenSpec.ofChange messageCutsWrong)

/- THE SECOND FORM. 'bulk': how many values and letters a reading holds, each counted each time it is reached (what is shared counts as often as it is met; a slice's spare places count too). A statement '..UptoSaid' is the law's where the arguments, and the package variables that the reading takes, are together of bulk at most 1048576: NARROWER than '..Said'. Prove '..Said' where nothing that the law and all that it calls make is longer than what came in: it says more and counts as full. Else prove '..UptoSaid'. A law counts once. -/
mutual
def uptoBulk {H : Type} : DataW H → Nat
  | .lit (.string bytes) => bytes.length + 1
  | .lit _ => 1
  | .nil => 1
  | .ptr d => uptoBulk d + 1
  | .slice elems spare => uptoBulkAll elems + uptoBulkAll spare + 1
  | .agg parts => uptoBulkAll parts + 1
  | .iface _ d => uptoBulk d + 1
  | .map entries => uptoBulkEntries entries + 1
  | .held _ => 1
def uptoBulkAll {H : Type} : List (DataW H) → Nat
  | [] => 0
  | d :: r => uptoBulk d + uptoBulkAll r
def uptoBulkEntries {H : Type} : List (Lit × DataW H) → Nat
  | [] => 0
  | x :: r => uptoBulkEntry x + uptoBulkEntries r
def uptoBulkEntry {H : Type} : Lit × DataW H → Nat
  | (.string bytes, d) => bytes.length + uptoBulk d + 1
  | (_, d) => uptoBulk d + 1
 end
def uptoSmall : (H : Type) → List (DataW H) → Bool := fun _ ds => decide (uptoBulkAll ds ≤ 1048576)
def OpenSpec.upto (s : _root_.Go.ChangeSpec) : _root_.Go.OpenSpec := { _root_.Go.OpenSpec.ofChange s with cond := some uptoSmall }

/-- 'crierlaw18.MessagePlays', WHERE WHAT IT READS IS OF BULK AT MOST 1048576: true; the input reads as it did. -/
def messagePlaysUptoRow : OpenClaim := { program := "ytgaedhpeiamdfaa", sum := "cc9e6caf3a6902fed8d81c3ce160f49f9d01faae4b642465d989ef7d188b6c02", func := "crier/crierlaw18.MessagePlays", spec := "messagePlays", inPlace := ["internal/abi.NoEscape"], apart := false, narrowed := true }
def MessagePlaysUptoSaid : Prop := messagePlaysUptoRow.holds Try.pinned (OpenSpec.upto messagePlaysSpec)

/-- 'crierlaw18.MessageNobody', WHERE WHAT IT READS IS OF BULK AT MOST 1048576: true; the input reads as it did. -/
def messageNobodyUptoRow : OpenClaim := { program := "ytgaedhpeiamdfaa", sum := "cc9e6caf3a6902fed8d81c3ce160f49f9d01faae4b642465d989ef7d188b6c02", func := "crier/crierlaw18.MessageNobody", spec := "messageNobody", inPlace := ["internal/abi.NoEscape"], apart := false, narrowed := true }
def MessageNobodyUptoSaid : Prop := messageNobodyUptoRow.holds Try.pinned (OpenSpec.upto messageNobodySpec)

/-- 'crierlaw18.MessageLimit', WHERE WHAT IT READS IS OF BULK AT MOST 1048576: true; the input reads as it did. -/
def messageLimitUptoRow : OpenClaim := { program := "ytgaedhpeiamdfaa", sum := "cc9e6caf3a6902fed8d81c3ce160f49f9d01faae4b642465d989ef7d188b6c02", func := "crier/crierlaw18.MessageLimit", spec := "messageLimit", inPlace := ["internal/abi.NoEscape"], apart := false, narrowed := true }
def MessageLimitUptoSaid : Prop := messageLimitUptoRow.holds Try.pinned (OpenSpec.upto messageLimitSpec)

/-- 'crierlaw18.MessageKnown', WHERE WHAT IT READS IS OF BULK AT MOST 1048576: true; the input reads as it did. -/
def messageKnownUptoRow : OpenClaim := { program := "ytgaedhpeiamdfaa", sum := "cc9e6caf3a6902fed8d81c3ce160f49f9d01faae4b642465d989ef7d188b6c02", func := "crier/crierlaw18.MessageKnown", spec := "messageKnown", inPlace := ["internal/abi.NoEscape"], apart := false, narrowed := true }
def MessageKnownUptoSaid : Prop := messageKnownUptoRow.holds Try.pinned (OpenSpec.upto messageKnownSpec)

/-- 'crierlaw18.MessageBad', WHERE WHAT IT READS IS OF BULK AT MOST 1048576: true; the input reads as it did. -/
def messageBadUptoRow : OpenClaim := { program := "ytgaedhpeiamdfaa", sum := "cc9e6caf3a6902fed8d81c3ce160f49f9d01faae4b642465d989ef7d188b6c02", func := "crier/crierlaw18.MessageBad", spec := "messageBad", inPlace := ["internal/abi.NoEscape"], unfollowed := true, recurses := true, apart := false, narrowed := true }
def MessageBadUptoSaid : Prop := messageBadUptoRow.holds Try.pinned (OpenSpec.upto messageBadSpec)

/-- 'crierlaw18.MessageCuts', WHERE WHAT IT READS IS OF BULK AT MOST 1048576: true; the input reads as it did. -/
def messageCutsUptoRow : OpenClaim := { program := "ytgaedhpeiamdfaa", sum := "cc9e6caf3a6902fed8d81c3ce160f49f9d01faae4b642465d989ef7d188b6c02", func := "crier/crierlaw18.MessageCuts", spec := "messageCuts", inPlace := ["internal/abi.NoEscape"], unfollowed := true, recurses := true, apart := false, narrowed := true }
def MessageCutsUptoSaid : Prop := messageCutsUptoRow.holds Try.pinned (OpenSpec.upto messageCutsSpec)

end Rows
end Go.Proofs.Ytgaedhpeiamdfaa
