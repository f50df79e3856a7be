/-
  No cell of these rows narrows 'for every input' (looked for: loops, veiled, ifaces, maps, wideKeys, modest, calm, conditions, laid).
  DERIVED. THE GIVEN ROWS OF THIS SEAT. 6 by the template 'for every input the law returns true; each argument reads behind the call as it read before'; 0 by the template 'total and deterministic' (their statements: YticpjnmoiepafaaTotals.lean).
  GIVEN WITH THE SEED: the statements are not yours to turn. If you find one false, say at which input.
  Laid BY PROGRAM, IN A SANDBOX (cutbox-rows.mjs): the forced cells as the released guide's own fill.sh prints them over the translation 1917dd88240096a7… (all of the seat's roots in one cut). By AI agents, Wed Nov 11 2026. No macro, syntax, notation, axiom, sorry.
-/
import Derived.Test.YticpjnmoiepafaaChecked
import GoSem.Claim
import GoSem.ClaimJoined
import GoSem.ClaimMapViews
import Derived.JoinedTies
import Derived.KernelRfl
namespace Go.Proofs.Yticpjnmoiepafaa
/- THE CELL 'sum', in the pinned program and in every row, IS THE sha256 OF THE DUMP (.gsa) THAT YticpjnmoiepafaaProg.lean LOADS. Nothing in Lean hashes anything: it is a label: what it is worth is what the hold of that sum in a sandbox is worth. -/
noncomputable def Try.pinned : Pinned := { name := "yticpjnmoiepafaa", sum := "1917dd88240096a7c74530e085d57179013e793867bbe1b412184f8657850703", checked := Try.checked }
namespace Rows
def none {H : Type} : Left H := { results := [], args := [] }

/-- 'crierlaw23.OutboxFull': WHATEVER THE INPUT: true; the input reads as it did. -/
def outboxFullSpec : ChangeSpec := { name := "outboxFull", fn := fun _ => fun
  | [d1, d2] => { results := [.lit (.bool true)], args := [d1, d2] }
  | _ => none }
def outboxFullRow : OpenClaim := { program := "yticpjnmoiepafaa", sum := "1917dd88240096a7c74530e085d57179013e793867bbe1b412184f8657850703", func := "crier/crierlaw23.OutboxFull", spec := "outboxFull", unfollowed := true, recurses := true, apart := false }
def OutboxFullSaid : Prop := outboxFullRow.holds Try.pinned (OpenSpec.ofChange outboxFullSpec)

/-- ITS FALSE NEIGHBOUR: 'it returns false'. Refute it at one input. -/
def outboxFullWrong : ChangeSpec := { name := "outboxFull", fn := fun _ => fun
  | [d1, d2] => { results := [.lit (.bool false)], args := [d1, d2] }
  | _ => none }
def OutboxFullWrongFalsely : Prop := outboxFullRow.holds Try.pinned (OpenSpec.ofChange outboxFullWrong)

/-- 'crierlaw23.OutboxOnce': WHATEVER THE INPUT: true; the input reads as it did. -/
def outboxOnceSpec : ChangeSpec := { name := "outboxOnce", fn := fun _ => fun
  | [d1, d2] => { results := [.lit (.bool true)], args := [d1, d2] }
  | _ => none }
def outboxOnceRow : OpenClaim := { program := "yticpjnmoiepafaa", sum := "1917dd88240096a7c74530e085d57179013e793867bbe1b412184f8657850703", func := "crier/crierlaw23.OutboxOnce", spec := "outboxOnce", unfollowed := true, recurses := true, apart := false }
def OutboxOnceSaid : Prop := outboxOnceRow.holds Try.pinned (OpenSpec.ofChange outboxOnceSpec)

/-- ITS FALSE NEIGHBOUR: 'it returns false'. Refute it at one input. -/
def outboxOnceWrong : ChangeSpec := { name := "outboxOnce", fn := fun _ => fun
  | [d1, d2] => { results := [.lit (.bool false)], args := [d1, d2] }
  | _ => none }
def OutboxOnceWrongFalsely : Prop := outboxOnceRow.holds Try.pinned (OpenSpec.ofChange outboxOnceWrong)

/-- 'crierlaw23.OutboxKnown': WHATEVER THE INPUT: true; the input reads as it did. -/
def outboxKnownSpec : ChangeSpec := { name := "outboxKnown", fn := fun _ => fun
  | [] => { results := [.lit (.bool true)], args := [] }
  | _ => none }
def outboxKnownRow : OpenClaim := { program := "yticpjnmoiepafaa", sum := "1917dd88240096a7c74530e085d57179013e793867bbe1b412184f8657850703", func := "crier/crierlaw23.OutboxKnown", spec := "outboxKnown", unfollowed := true, recurses := true, apart := false }
def OutboxKnownSaid : Prop := outboxKnownRow.holds Try.pinned (OpenSpec.ofChange outboxKnownSpec)

/-- ITS FALSE NEIGHBOUR: 'it returns false'. Refute it at one input. -/
def outboxKnownWrong : ChangeSpec := { name := "outboxKnown", fn := fun _ => fun
  | [] => { results := [.lit (.bool false)], args := [] }
  | _ => none }
def OutboxKnownWrongFalsely : Prop := outboxKnownRow.holds Try.pinned (OpenSpec.ofChange outboxKnownWrong)

/-- 'crierlaw23.OutboxPlays': WHATEVER THE INPUT: true; the input reads as it did. -/
def outboxPlaysSpec : ChangeSpec := { name := "outboxPlays", fn := fun _ => fun
  | [d1, d2] => { results := [.lit (.bool true)], args := [d1, d2] }
  | _ => none }
def outboxPlaysRow : OpenClaim := { program := "yticpjnmoiepafaa", sum := "1917dd88240096a7c74530e085d57179013e793867bbe1b412184f8657850703", func := "crier/crierlaw23.OutboxPlays", spec := "outboxPlays", unfollowed := true, recurses := true, apart := false }
def OutboxPlaysSaid : Prop := outboxPlaysRow.holds Try.pinned (OpenSpec.ofChange outboxPlaysSpec)

/-- ITS FALSE NEIGHBOUR: 'it returns false'. Refute it at one input. -/
def outboxPlaysWrong : ChangeSpec := { name := "outboxPlays", fn := fun _ => fun
  | [d1, d2] => { results := [.lit (.bool false)], args := [d1, d2] }
  | _ => none }
def OutboxPlaysWrongFalsely : Prop := outboxPlaysRow.holds Try.pinned (OpenSpec.ofChange outboxPlaysWrong)

/-- 'crierlaw23.OutboxNobody': WHATEVER THE INPUT: true; the input reads as it did. -/
def outboxNobodySpec : ChangeSpec := { name := "outboxNobody", fn := fun _ => fun
  | [d1, d2] => { results := [.lit (.bool true)], args := [d1, d2] }
  | _ => none }
def outboxNobodyRow : OpenClaim := { program := "yticpjnmoiepafaa", sum := "1917dd88240096a7c74530e085d57179013e793867bbe1b412184f8657850703", func := "crier/crierlaw23.OutboxNobody", spec := "outboxNobody", unfollowed := true, recurses := true, apart := false }
def OutboxNobodySaid : Prop := outboxNobodyRow.holds Try.pinned (OpenSpec.ofChange outboxNobodySpec)

/-- ITS FALSE NEIGHBOUR: 'it returns false'. Refute it at one input. -/
def outboxNobodyWrong : ChangeSpec := { name := "outboxNobody", fn := fun _ => fun
  | [d1, d2] => { results := [.lit (.bool false)], args := [d1, d2] }
  | _ => none }
def OutboxNobodyWrongFalsely : Prop := outboxNobodyRow.holds Try.pinned (OpenSpec.ofChange outboxNobodyWrong)

/-- 'crierlaw23.OutboxClears': WHATEVER THE INPUT: true; the input reads as it did. -/
def outboxClearsSpec : ChangeSpec := { name := "outboxClears", fn := fun _ => fun
  | [d1, d2, d3] => { results := [.lit (.bool true)], args := [d1, d2, d3] }
  | _ => none }
def outboxClearsRow : OpenClaim := { program := "yticpjnmoiepafaa", sum := "1917dd88240096a7c74530e085d57179013e793867bbe1b412184f8657850703", func := "crier/crierlaw23.OutboxClears", spec := "outboxClears", unfollowed := true, recurses := true, apart := false }
def OutboxClearsSaid : Prop := outboxClearsRow.holds Try.pinned (OpenSpec.ofChange outboxClearsSpec)

/-- ITS FALSE NEIGHBOUR: 'it returns false'. Refute it at one input. -/
def outboxClearsWrong : ChangeSpec := { name := "outboxClears", fn := fun _ => fun
  | [d1, d2, d3] => { results := [.lit (.bool false)], args := [d1, d2, d3] }
  | _ => none }
def OutboxClearsWrongFalsely : Prop := outboxClearsRow.holds Try.pinned (OpenSpec.ofChange outboxClearsWrong)

/- THE SECOND FORM. 'bulk': how many values and letters a reading holds, each counted each time it is reached (what is shared counts as often as it is met; a slice's spare places count too). A statement '..UptoSaid' is the law's where the arguments, and the package variables that the reading takes, are together of bulk at most 1048576: NARROWER than '..Said'. Prove '..Said' where nothing that the law and all that it calls make is longer than what came in: it says more and counts as full. Else prove '..UptoSaid'. A law counts once. -/
mutual
def uptoBulk {H : Type} : DataW H → Nat
  | .lit (.string bytes) => bytes.length + 1
  | .lit _ => 1
  | .nil => 1
  | .ptr d => uptoBulk d + 1
  | .slice elems spare => uptoBulkAll elems + uptoBulkAll spare + 1
  | .agg parts => uptoBulkAll parts + 1
  | .iface _ d => uptoBulk d + 1
  | .map entries => uptoBulkEntries entries + 1
  | .held _ => 1
def uptoBulkAll {H : Type} : List (DataW H) → Nat
  | [] => 0
  | d :: r => uptoBulk d + uptoBulkAll r
def uptoBulkEntries {H : Type} : List (Lit × DataW H) → Nat
  | [] => 0
  | x :: r => uptoBulkEntry x + uptoBulkEntries r
def uptoBulkEntry {H : Type} : Lit × DataW H → Nat
  | (.string bytes, d) => bytes.length + uptoBulk d + 1
  | (_, d) => uptoBulk d + 1
 end
def uptoSmall : (H : Type) → List (DataW H) → Bool := fun _ ds => decide (uptoBulkAll ds ≤ 1048576)
def OpenSpec.upto (s : _root_.Go.ChangeSpec) : _root_.Go.OpenSpec := { _root_.Go.OpenSpec.ofChange s with cond := some uptoSmall }

/-- 'crierlaw23.OutboxFull', WHERE WHAT IT READS IS OF BULK AT MOST 1048576: true; the input reads as it did. -/
def outboxFullUptoRow : OpenClaim := { program := "yticpjnmoiepafaa", sum := "1917dd88240096a7c74530e085d57179013e793867bbe1b412184f8657850703", func := "crier/crierlaw23.OutboxFull", spec := "outboxFull", unfollowed := true, recurses := true, apart := false, narrowed := true }
def OutboxFullUptoSaid : Prop := outboxFullUptoRow.holds Try.pinned (OpenSpec.upto outboxFullSpec)

/-- 'crierlaw23.OutboxOnce', WHERE WHAT IT READS IS OF BULK AT MOST 1048576: true; the input reads as it did. -/
def outboxOnceUptoRow : OpenClaim := { program := "yticpjnmoiepafaa", sum := "1917dd88240096a7c74530e085d57179013e793867bbe1b412184f8657850703", func := "crier/crierlaw23.OutboxOnce", spec := "outboxOnce", unfollowed := true, recurses := true, apart := false, narrowed := true }
def OutboxOnceUptoSaid : Prop := outboxOnceUptoRow.holds Try.pinned (OpenSpec.upto outboxOnceSpec)

/-- 'crierlaw23.OutboxKnown', WHERE WHAT IT READS IS OF BULK AT MOST 1048576: true; the input reads as it did. -/
def outboxKnownUptoRow : OpenClaim := { program := "yticpjnmoiepafaa", sum := "1917dd88240096a7c74530e085d57179013e793867bbe1b412184f8657850703", func := "crier/crierlaw23.OutboxKnown", spec := "outboxKnown", unfollowed := true, recurses := true, apart := false, narrowed := true }
def OutboxKnownUptoSaid : Prop := outboxKnownUptoRow.holds Try.pinned (OpenSpec.upto outboxKnownSpec)

/-- 'crierlaw23.OutboxPlays', WHERE WHAT IT READS IS OF BULK AT MOST 1048576: true; the input reads as it did. -/
def outboxPlaysUptoRow : OpenClaim := { program := "yticpjnmoiepafaa", sum := "1917dd88240096a7c74530e085d57179013e793867bbe1b412184f8657850703", func := "crier/crierlaw23.OutboxPlays", spec := "outboxPlays", unfollowed := true, recurses := true, apart := false, narrowed := true }
def OutboxPlaysUptoSaid : Prop := outboxPlaysUptoRow.holds Try.pinned (OpenSpec.upto outboxPlaysSpec)

/-- 'crierlaw23.OutboxNobody', WHERE WHAT IT READS IS OF BULK AT MOST 1048576: true; the input reads as it did. -/
def outboxNobodyUptoRow : OpenClaim := { program := "yticpjnmoiepafaa", sum := "1917dd88240096a7c74530e085d57179013e793867bbe1b412184f8657850703", func := "crier/crierlaw23.OutboxNobody", spec := "outboxNobody", unfollowed := true, recurses := true, apart := false, narrowed := true }
def OutboxNobodyUptoSaid : Prop := outboxNobodyUptoRow.holds Try.pinned (OpenSpec.upto outboxNobodySpec)

/-- 'crierlaw23.OutboxClears', WHERE WHAT IT READS IS OF BULK AT MOST 1048576: true; the input reads as it did. -/
def outboxClearsUptoRow : OpenClaim := { program := "yticpjnmoiepafaa", sum := "1917dd88240096a7c74530e085d57179013e793867bbe1b412184f8657850703", func := "crier/crierlaw23.OutboxClears", spec := "outboxClears", unfollowed := true, recurses := true, apart := false, narrowed := true }
def OutboxClearsUptoSaid : Prop := outboxClearsUptoRow.holds Try.pinned (OpenSpec.upto outboxClearsSpec)

end Rows
end Go.Proofs.Yticpjnmoiepafaa
