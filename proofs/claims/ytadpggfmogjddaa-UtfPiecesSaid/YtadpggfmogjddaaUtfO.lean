/-
  Plain laws of a check that is fed in pieces.
-/
import Derived.Test.YtadpggfmogjddaaUtfH
set_option linter.unusedVariables false
set_option linter.unusedSimpArgs false
open Go Go.Am
namespace Go.Proofs.Ytadpggfmogjddaa

theorem feedL_append : ∀ (l m : List UInt8) (q : Q) (at' : Int) (bad : Bool), feedL q at' bad (l ++ m) = feedL (feedL q at' bad l).1 (feedL q at' bad l).2.1 (feedL q at' bad l).2.2 m
  | [], m, q, at', bad => rfl
  | b :: r, m, q, at', true => by simp [feedL, feedL_bad]
  | b :: r, m, q, at', false => by
    rw [List.cons_append, feedL, feedL]
    simp only [cond_false]
    exact feedL_append r m _ _ _
theorem feedL_at : ∀ (l : List UInt8) (q : Q) (at' : Int), at' ≤ (feedL q at' false l).2.1 ∧ (feedL q at' false l).2.1 ≤ at' + l.length ∧ ((feedL q at' false l).2.2 = false ↔ (feedL q at' false l).2.1 = at' + l.length)
  | [], q, at' => by simp [feedL]
  | b :: r, q, at' => by
    rw [feedL]
    simp only [cond_false, List.length_cons]
    cases hb : (sst q b.toNat).1 with
    | false => simp [feedL_bad]; omega
    | true =>
      simp only [cond_true, Bool.not_true]
      obtain ⟨h1, h2, h3⟩ := feedL_at r (sst q b.toNat).2 (at' + 1)
      refine ⟨by omega, by omega, ?_⟩
      rw [h3]
      constructor <;> intro h <;> omega
end Go.Proofs.Ytadpggfmogjddaa
