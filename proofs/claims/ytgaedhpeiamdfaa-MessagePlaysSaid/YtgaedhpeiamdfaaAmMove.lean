/-
  The abstract machine: a contract of a function that gives up some of the blocks that it was given (their names stay, they name nothing any more): from a way that keeps the first B names alone.
-/
import Derived.Test.YtgaedhpeiamdfaaAmDt
set_option linter.unusedVariables false
set_option linter.unusedSimpArgs false
namespace Go.Am

/-! ### contracts by the memory's shape -/
def nilAt (i : Nat) (H : Heap) : Bool :=
 match H with
 | some (.cells cs _ _) :: _ => match cs[i]? with
  | some (.slice none _ _) => true
  | _ => false
 | _ => false
def nilP (i : Nat) (H : Heap) : Bool :=
 match H with
 | some (.cells cs _ _) :: _ => match cs[i]? with
  | some (.pointer none) => true
  | _ => false
 | _ => false
def kOr (p : Heap → Bool) (k1 k2 : Ct) : Ct := fun args H => match p H with
 | true => k1 args H
 | false => k2 args H
theorem kOr_ok {E : Env} {g : Nat} {p : Heap → Bool} {k1 k2 : Ct} (h1 : KFor E g k1) (h2 : KFor E g k2) : KFor E g (kOr p k1 k2) := by
 intro args H ok v H' h hok
 unfold kOr at h
 split at h
 ·exact h1 _ _ _ _ _ h hok
 ·exact h2 _ _ _ _ _ h hok
end Go.Am
