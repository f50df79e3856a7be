/-
  The abstract machine: a law's argument that is a struct or an array of numbers, Bools and texts.
-/
import Derived.Test.YtfpnjpbdaniomaaAmCtr
set_option linter.unusedVariables false
set_option linter.unusedSimpArgs false
namespace Go.Am
open Go.ChangeShapes Go.WideShapes Go.ChangeAt Go.RowKit

def leafV : Leaf → Value → Prop
 | .int k, v => ∃ n, v = .int k n ∧ (Lit.int k n).wf = true
 | .bool, v => ∃ b, v = .bool b
 | .str, v => ∃ s : ByteArray, v = .string s ∧ s.size ≤ maxLen
 | .other, _ => False
 | .row, _ => False
def AllL : List Leaf → List Value → Prop
 | [], vs => vs = []
 | l :: ls, vs => ∃ v r, vs = v :: r ∧ leafV l v ∧ AllL ls r
end Go.Am
