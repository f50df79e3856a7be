/-
  A check that is fed: the loop over a text's bytes.
-/
import Derived.Test.YtgaedhpeiamdfaaUtfA18
set_option linter.unusedVariables false
open Go Go.Am
namespace Go.Proofs.Ytgaedhpeiamdfaa
noncomputable def K2 : Ctr := ctrOf E [(40, anyA, begins_k), (36, ptrA, step_k), (35, anyA, width_k)]
theorem K2_ok : KOk E K2 := ctr_cons begins_k_ok (ctr_cons step_k_ok (ctr_cons width_k_ok ctr_nil))

abbrev Q := Int × Int × Int × Int
/-- What a byte does: whether it may be, how it stands. -/
def sst (q : Q) (b : Int) : Bool × Q := step_t0 q.1 q.2.1 q.2.2.1 q.2.2.2 0 false b
def feedL : Q → Int → Bool → List UInt8 → Q × Int × Bool
  | q, at', bad, [] => (q, at', bad)
  | q, at', bad, b :: r => bif bad then (q, at', bad) else feedL (sst q b.toNat).2 (bif (sst q b.toNat).1 then at' + 1 else at') (!(sst q b.toNat).1) r
theorem feedL_bad (q : Q) (at' : Int) : ∀ l, feedL q at' true l = (q, at', true)
  | [] => rfl
  | _ :: _ => rfl

theorem step_safe (a b c d e : Int) (f : Bool) (g : Int) : step_S0 a b c d e f g := by
  unfold step_S0 begins_S0
  simp

end Go.Proofs.Ytgaedhpeiamdfaa
