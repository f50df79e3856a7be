/-
  No cell of these rows narrows 'for every input' (looked for: loops, veiled, ifaces, maps, wideKeys, modest, calm, conditions, laid).
  DERIVED. THE GIVEN ROWS OF THIS SEAT. 6 by the template 'for every input the law returns true; each argument reads behind the call as it read before'; 0 by the template 'total and deterministic' (their statements: YtfpnjpbdaniomaaTotals.lean).
  GIVEN WITH THE SEED: the statements are not yours to turn. If you find one false, say at which input.
  Laid BY PROGRAM, IN A SANDBOX (cutbox-rows.mjs): the forced cells as the released guide's own fill.sh prints them over the translation ab0eddbf220fd3d0… (all of the seat's roots in one cut). By AI agents, Wed Nov 11 2026. No macro, syntax, notation, axiom, sorry.
-/
import Derived.Test.YtfpnjpbdaniomaaChecked
import GoSem.Claim
import GoSem.ClaimJoined
import GoSem.ClaimMapViews
import Derived.JoinedTies
import Derived.KernelRfl
namespace Go.Proofs.Ytfpnjpbdaniomaa
/- THE CELL 'sum', in the pinned program and in every row, IS THE sha256 OF THE DUMP (.gsa) THAT YtfpnjpbdaniomaaProg.lean LOADS. Nothing in Lean hashes anything: it is a label: what it is worth is what the hold of that sum in a sandbox is worth. -/
noncomputable def Try.pinned : Pinned := { name := "ytfpnjpbdaniomaa", sum := "ab0eddbf220fd3d0c1c04aa33da0ddd3b59f7a6dcefd81cecc5c0515e26e6137", checked := Try.checked }
namespace Rows
def none {H : Type} : Left H := { results := [], args := [] }

/-- 'crierlaw20.WsconnCuts': WHATEVER THE INPUT: true; the input reads as it did. -/
def wsconnCutsSpec : ChangeSpec := { name := "wsconnCuts", fn := fun _ => fun
  | [d1, d2, d3] => { results := [.lit (.bool true)], args := [d1, d2, d3] }
  | _ => none }
def wsconnCutsRow : OpenClaim := { program := "ytfpnjpbdaniomaa", sum := "ab0eddbf220fd3d0c1c04aa33da0ddd3b59f7a6dcefd81cecc5c0515e26e6137", func := "crier/crierlaw20.WsconnCuts", spec := "wsconnCuts", inPlace := ["internal/abi.NoEscape"], unfollowed := true, recurses := true, apart := false }
def WsconnCutsSaid : Prop := wsconnCutsRow.holds Try.pinned (OpenSpec.ofChange wsconnCutsSpec)

/-- ITS FALSE NEIGHBOUR: 'it returns false'. Refute it at one input. -/
def wsconnCutsWrong : ChangeSpec := { name := "wsconnCuts", fn := fun _ => fun
  | [d1, d2, d3] => { results := [.lit (.bool false)], args := [d1, d2, d3] }
  | _ => none }
def WsconnCutsWrongFalsely : Prop := wsconnCutsRow.holds Try.pinned (OpenSpec.ofChange wsconnCutsWrong)

/-- 'crierlaw20.WsconnTells': WHATEVER THE INPUT: true; the input reads as it did. -/
def wsconnTellsSpec : ChangeSpec := { name := "wsconnTells", fn := fun _ => fun
  | [d1, d2] => { results := [.lit (.bool true)], args := [d1, d2] }
  | _ => none }
def wsconnTellsRow : OpenClaim := { program := "ytfpnjpbdaniomaa", sum := "ab0eddbf220fd3d0c1c04aa33da0ddd3b59f7a6dcefd81cecc5c0515e26e6137", func := "crier/crierlaw20.WsconnTells", spec := "wsconnTells", inPlace := ["internal/abi.NoEscape"], unfollowed := true, recurses := true, apart := false }
def WsconnTellsSaid : Prop := wsconnTellsRow.holds Try.pinned (OpenSpec.ofChange wsconnTellsSpec)

/-- ITS FALSE NEIGHBOUR: 'it returns false'. Refute it at one input. -/
def wsconnTellsWrong : ChangeSpec := { name := "wsconnTells", fn := fun _ => fun
  | [d1, d2] => { results := [.lit (.bool false)], args := [d1, d2] }
  | _ => none }
def WsconnTellsWrongFalsely : Prop := wsconnTellsRow.holds Try.pinned (OpenSpec.ofChange wsconnTellsWrong)

/-- 'crierlaw20.WsconnPlays': WHATEVER THE INPUT: true; the input reads as it did. -/
def wsconnPlaysSpec : ChangeSpec := { name := "wsconnPlays", fn := fun _ => fun
  | [d1, d2] => { results := [.lit (.bool true)], args := [d1, d2] }
  | _ => none }
def wsconnPlaysRow : OpenClaim := { program := "ytfpnjpbdaniomaa", sum := "ab0eddbf220fd3d0c1c04aa33da0ddd3b59f7a6dcefd81cecc5c0515e26e6137", func := "crier/crierlaw20.WsconnPlays", spec := "wsconnPlays", inPlace := ["internal/abi.NoEscape"], unfollowed := true, recurses := true, apart := false }
def WsconnPlaysSaid : Prop := wsconnPlaysRow.holds Try.pinned (OpenSpec.ofChange wsconnPlaysSpec)

/-- ITS FALSE NEIGHBOUR: 'it returns false'. Refute it at one input. -/
def wsconnPlaysWrong : ChangeSpec := { name := "wsconnPlays", fn := fun _ => fun
  | [d1, d2] => { results := [.lit (.bool false)], args := [d1, d2] }
  | _ => none }
def WsconnPlaysWrongFalsely : Prop := wsconnPlaysRow.holds Try.pinned (OpenSpec.ofChange wsconnPlaysWrong)

/-- 'crierlaw20.WsconnNobody': WHATEVER THE INPUT: true; the input reads as it did. -/
def wsconnNobodySpec : ChangeSpec := { name := "wsconnNobody", fn := fun _ => fun
  | [d] => { results := [.lit (.bool true)], args := [d] }
  | _ => none }
def wsconnNobodyRow : OpenClaim := { program := "ytfpnjpbdaniomaa", sum := "ab0eddbf220fd3d0c1c04aa33da0ddd3b59f7a6dcefd81cecc5c0515e26e6137", func := "crier/crierlaw20.WsconnNobody", spec := "wsconnNobody", inPlace := ["internal/abi.NoEscape"], unfollowed := true, recurses := true, apart := false }
def WsconnNobodySaid : Prop := wsconnNobodyRow.holds Try.pinned (OpenSpec.ofChange wsconnNobodySpec)

/-- ITS FALSE NEIGHBOUR: 'it returns false'. Refute it at one input. -/
def wsconnNobodyWrong : ChangeSpec := { name := "wsconnNobody", fn := fun _ => fun
  | [d] => { results := [.lit (.bool false)], args := [d] }
  | _ => none }
def WsconnNobodyWrongFalsely : Prop := wsconnNobodyRow.holds Try.pinned (OpenSpec.ofChange wsconnNobodyWrong)

/-- 'crierlaw20.WsconnWaits': WHATEVER THE INPUT: true; the input reads as it did. -/
def wsconnWaitsSpec : ChangeSpec := { name := "wsconnWaits", fn := fun _ => fun
  | [d1, d2, d3] => { results := [.lit (.bool true)], args := [d1, d2, d3] }
  | _ => none }
def wsconnWaitsRow : OpenClaim := { program := "ytfpnjpbdaniomaa", sum := "ab0eddbf220fd3d0c1c04aa33da0ddd3b59f7a6dcefd81cecc5c0515e26e6137", func := "crier/crierlaw20.WsconnWaits", spec := "wsconnWaits", inPlace := ["internal/abi.NoEscape"], unfollowed := true, recurses := true, apart := false }
def WsconnWaitsSaid : Prop := wsconnWaitsRow.holds Try.pinned (OpenSpec.ofChange wsconnWaitsSpec)

/-- ITS FALSE NEIGHBOUR: 'it returns false'. Refute it at one input. -/
def wsconnWaitsWrong : ChangeSpec := { name := "wsconnWaits", fn := fun _ => fun
  | [d1, d2, d3] => { results := [.lit (.bool false)], args := [d1, d2, d3] }
  | _ => none }
def WsconnWaitsWrongFalsely : Prop := wsconnWaitsRow.holds Try.pinned (OpenSpec.ofChange wsconnWaitsWrong)

/-- 'crierlaw20.WsconnKnown': WHATEVER THE INPUT: true; the input reads as it did. -/
def wsconnKnownSpec : ChangeSpec := { name := "wsconnKnown", fn := fun _ => fun
  | [] => { results := [.lit (.bool true)], args := [] }
  | _ => none }
def wsconnKnownRow : OpenClaim := { program := "ytfpnjpbdaniomaa", sum := "ab0eddbf220fd3d0c1c04aa33da0ddd3b59f7a6dcefd81cecc5c0515e26e6137", func := "crier/crierlaw20.WsconnKnown", spec := "wsconnKnown", inPlace := ["internal/abi.NoEscape"], unfollowed := true, recurses := true, apart := false }
def WsconnKnownSaid : Prop := wsconnKnownRow.holds Try.pinned (OpenSpec.ofChange wsconnKnownSpec)

/-- ITS FALSE NEIGHBOUR: 'it returns false'. Refute it at one input. -/
def wsconnKnownWrong : ChangeSpec := { name := "wsconnKnown", fn := fun _ => fun
  | [] => { results := [.lit (.bool false)], args := [] }
  | _ => none }
def WsconnKnownWrongFalsely : Prop := wsconnKnownRow.holds Try.pinned (OpenSpec.ofChange wsconnKnownWrong)

/- THE SECOND FORM. 'bulk': how many values and letters a reading holds, each counted each time it is reached (what is shared counts as often as it is met; a slice's spare places count too). A statement '..UptoSaid' is the law's where the arguments, and the package variables that the reading takes, are together of bulk at most 1048576: NARROWER than '..Said'. Prove '..Said' where nothing that the law and all that it calls make is longer than what came in: it says more and counts as full. Else prove '..UptoSaid'. A law counts once. -/
mutual
def uptoBulk {H : Type} : DataW H → Nat
  | .lit (.string bytes) => bytes.length + 1
  | .lit _ => 1
  | .nil => 1
  | .ptr d => uptoBulk d + 1
  | .slice elems spare => uptoBulkAll elems + uptoBulkAll spare + 1
  | .agg parts => uptoBulkAll parts + 1
  | .iface _ d => uptoBulk d + 1
  | .map entries => uptoBulkEntries entries + 1
  | .held _ => 1
def uptoBulkAll {H : Type} : List (DataW H) → Nat
  | [] => 0
  | d :: r => uptoBulk d + uptoBulkAll r
def uptoBulkEntries {H : Type} : List (Lit × DataW H) → Nat
  | [] => 0
  | x :: r => uptoBulkEntry x + uptoBulkEntries r
def uptoBulkEntry {H : Type} : Lit × DataW H → Nat
  | (.string bytes, d) => bytes.length + uptoBulk d + 1
  | (_, d) => uptoBulk d + 1
 end
def uptoSmall : (H : Type) → List (DataW H) → Bool := fun _ ds => decide (uptoBulkAll ds ≤ 1048576)
def OpenSpec.upto (s : _root_.Go.ChangeSpec) : _root_.Go.OpenSpec := { _root_.Go.OpenSpec.ofChange s with cond := some uptoSmall }

/-- 'crierlaw20.WsconnCuts', WHERE WHAT IT READS IS OF BULK AT MOST 1048576: true; the input reads as it did. -/
def wsconnCutsUptoRow : OpenClaim := { program := "ytfpnjpbdaniomaa", sum := "ab0eddbf220fd3d0c1c04aa33da0ddd3b59f7a6dcefd81cecc5c0515e26e6137", func := "crier/crierlaw20.WsconnCuts", spec := "wsconnCuts", inPlace := ["internal/abi.NoEscape"], unfollowed := true, recurses := true, apart := false, narrowed := true }
def WsconnCutsUptoSaid : Prop := wsconnCutsUptoRow.holds Try.pinned (OpenSpec.upto wsconnCutsSpec)

/-- 'crierlaw20.WsconnTells', WHERE WHAT IT READS IS OF BULK AT MOST 1048576: true; the input reads as it did. -/
def wsconnTellsUptoRow : OpenClaim := { program := "ytfpnjpbdaniomaa", sum := "ab0eddbf220fd3d0c1c04aa33da0ddd3b59f7a6dcefd81cecc5c0515e26e6137", func := "crier/crierlaw20.WsconnTells", spec := "wsconnTells", inPlace := ["internal/abi.NoEscape"], unfollowed := true, recurses := true, apart := false, narrowed := true }
def WsconnTellsUptoSaid : Prop := wsconnTellsUptoRow.holds Try.pinned (OpenSpec.upto wsconnTellsSpec)

/-- 'crierlaw20.WsconnPlays', WHERE WHAT IT READS IS OF BULK AT MOST 1048576: true; the input reads as it did. -/
def wsconnPlaysUptoRow : OpenClaim := { program := "ytfpnjpbdaniomaa", sum := "ab0eddbf220fd3d0c1c04aa33da0ddd3b59f7a6dcefd81cecc5c0515e26e6137", func := "crier/crierlaw20.WsconnPlays", spec := "wsconnPlays", inPlace := ["internal/abi.NoEscape"], unfollowed := true, recurses := true, apart := false, narrowed := true }
def WsconnPlaysUptoSaid : Prop := wsconnPlaysUptoRow.holds Try.pinned (OpenSpec.upto wsconnPlaysSpec)

/-- 'crierlaw20.WsconnNobody', WHERE WHAT IT READS IS OF BULK AT MOST 1048576: true; the input reads as it did. -/
def wsconnNobodyUptoRow : OpenClaim := { program := "ytfpnjpbdaniomaa", sum := "ab0eddbf220fd3d0c1c04aa33da0ddd3b59f7a6dcefd81cecc5c0515e26e6137", func := "crier/crierlaw20.WsconnNobody", spec := "wsconnNobody", inPlace := ["internal/abi.NoEscape"], unfollowed := true, recurses := true, apart := false, narrowed := true }
def WsconnNobodyUptoSaid : Prop := wsconnNobodyUptoRow.holds Try.pinned (OpenSpec.upto wsconnNobodySpec)

/-- 'crierlaw20.WsconnWaits', WHERE WHAT IT READS IS OF BULK AT MOST 1048576: true; the input reads as it did. -/
def wsconnWaitsUptoRow : OpenClaim := { program := "ytfpnjpbdaniomaa", sum := "ab0eddbf220fd3d0c1c04aa33da0ddd3b59f7a6dcefd81cecc5c0515e26e6137", func := "crier/crierlaw20.WsconnWaits", spec := "wsconnWaits", inPlace := ["internal/abi.NoEscape"], unfollowed := true, recurses := true, apart := false, narrowed := true }
def WsconnWaitsUptoSaid : Prop := wsconnWaitsUptoRow.holds Try.pinned (OpenSpec.upto wsconnWaitsSpec)

/-- 'crierlaw20.WsconnKnown', WHERE WHAT IT READS IS OF BULK AT MOST 1048576: true; the input reads as it did. -/
def wsconnKnownUptoRow : OpenClaim := { program := "ytfpnjpbdaniomaa", sum := "ab0eddbf220fd3d0c1c04aa33da0ddd3b59f7a6dcefd81cecc5c0515e26e6137", func := "crier/crierlaw20.WsconnKnown", spec := "wsconnKnown", inPlace := ["internal/abi.NoEscape"], unfollowed := true, recurses := true, apart := false, narrowed := true }
def WsconnKnownUptoSaid : Prop := wsconnKnownUptoRow.holds Try.pinned (OpenSpec.upto wsconnKnownSpec)

end Rows
end Go.Proofs.Ytfpnjpbdaniomaa
