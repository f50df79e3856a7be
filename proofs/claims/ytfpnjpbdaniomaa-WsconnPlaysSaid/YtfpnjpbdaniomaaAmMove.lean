/-
  The abstract machine: a contract of a function that gives up some of the blocks that it was given (their names stay, they name nothing any more): from a way that keeps the first B names alone.
-/
import Derived.Test.YtfpnjpbdaniomaaAmDt
set_option linter.unusedVariables false
set_option linter.unusedSimpArgs false
namespace Go.Am

/-! ### contracts by the memory's shape -/
def nilP (i : Nat) (H : Heap) : Bool :=
 match H with
 | some (.cells cs _ _) :: _ => match cs[i]? with
  | some (.pointer none) => true
  | _ => false
 | _ => false
end Go.Am
