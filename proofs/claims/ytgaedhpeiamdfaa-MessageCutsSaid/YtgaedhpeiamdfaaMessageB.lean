/-
  A joiner of frames: the examples; whether acts are too many.
-/
import Derived.Test.YtgaedhpeiamdfaaAmSlim
import Derived.Test.YtgaedhpeiamdfaaMessageJ0
set_option linter.unusedVariables false
set_option linter.unusedSimpArgs false
open Go Go.Am
namespace Go.Proofs.Ytgaedhpeiamdfaa

abbrev wakes_R : Type := Unit
def wakes_V (r : Unit) : Value := .bool true
def wakes_H (r : Unit) : Heap := []
noncomputable def wakes_Q (C : Cfg) (r : wakes_R) : Prop :=
  let p := r
  AEnds E 10 0 C (wakes_V p) (wakes_H p)
noncomputable def wakes_t0 : wakes_R :=
  ()
def wakes_S0 : Prop :=
  True
theorem wakes_ok0 (hS : wakes_S0) : wakes_Q (startC E 10 ([]) ([])) (wakes_t0) := by
  unfold wakes_S0 at hS
  unfold wakes_t0
  exact ends_q noK_ok 2000 1760 (some [false, false, false, false, false, false, false, false, false, true, false, false, false, false, true, false, false, false, false, false, true, false, true, true, true, true, false, true, true, true, true, true, false, true, false, false, false, true, false, false, false, false, false, false, false, false, false, true, false, true, true, false, false, false, false, false, false, false, false, false, false, false, false, false, false, false, false, true, false, true, true, true, true, false, true, false, false, false, false, false, false, false, false, false, false, true, true, true, true, false, false, true, true, true, true, true, true, true, true, true, true, false, false, false, false, false, false, false, false, true, true, true, false, false]) [] [0] [] (rfl)
theorem wakes_call (hS : wakes_S0) : CallOk E 10 ([]) ([]) (wakes_V (wakes_t0)) (wakes_H (wakes_t0)) := callOk_of_ends (wakes_ok0 hS) (by kernel_rfl) (Nat.le_of_ble_eq_true (by kernel_rfl))
def wakes_ex (a : List Value) (h : Heap) : Unit := ()
noncomputable def wakes_k : Ct := kP wakes_ex (fun x => []) (fun x => []) (fun x => wakes_S0 ) (fun x => wakes_V  (wakes_t0 )) (fun x => wakes_H  (wakes_t0 ))
theorem wakes_k_ok : KFor E 10 wakes_k := kP_ok (fun x hx => wakes_call  hx)


noncomputable def great_b1 (n : Nat) (A : List Value) : Cfg := cfgOf (goNil E noK 2000 20 (some [false]) [] [] [] [0, 3] [] [] [] (startC E 9 ([.iface n (.agg A.toArray)]) ([])))
noncomputable def great_h1 (n : Nat) (A : List Value) (t3 : Int) : Cfg := wTmp 3 (.int .i64 t3) (great_b1 n A)
noncomputable abbrev great_st (n : Nat) (A : List Value) : Cfg := startC E 9 ([.iface n (.agg A.toArray)]) ([])
theorem great_w0_0 (n : Nat) (A : List Value) (h0 : (decide (100 < (↑n : Int))) = true) : AEnds E 9 0 (great_st n A) (.bool true) ([]) := by
  exact ends_q noK_ok 2000 16 (some [true]) [] [2] [] (andI (dT h0) (rfl))
theorem great_w0_1 (n : Nat) (A : List Value) (h0 : (decide (100 < (↑n : Int))) = false) : Gets E 0 (great_st n A) (great_h1 n A (0)) := by
  exact reach_q noK_ok 2000 20 (some [false]) [] [] [] [0, 3] [] [] [] (andI (dF h0) (rfl))
theorem great_w1_0 (n : Nat) (A : List Value) (t3 : Int) (h0 : (decide (100 < (↑(slen (toStr (A.getD (t3.toNat * 5 + 4) undef))) : Int))) = true) (h1 : t3.toNat * 5 + 4 < A.length) (h2 : (isStr (A.getD (t3.toNat * 5 + 4) undef)) = true) (h3 : 0 ≤ t3) (h4 : t3 < (↑n : Int)) (h5 : 0 < A.length) (h6 : (decide (t3 < (↑n : Int))) = true) : AEnds E 9 0 (great_h1 n A t3) (.bool true) ([]) := by
  exact ends_q noK_ok 2000 27 (some [true, true]) [] [2] [] (andI (dT h0) (andI (decide_eq_true h1) (andI (h2) (andI (decide_eq_true h3) (andI (decide_eq_true h4) (andI (decide_eq_true h5) (andI (dT h6) (rfl))))))))
theorem great_w1_1 (n : Nat) (A : List Value) (t3 : Int) (h0 : (decide (100 < (↑(slen (toStr (A.getD (t3.toNat * 5 + 4) undef))) : Int))) = false) (h1 : t3.toNat * 5 + 4 < A.length) (h2 : (isStr (A.getD (t3.toNat * 5 + 4) undef)) = true) (h3 : 0 ≤ t3) (h4 : t3 < (↑n : Int)) (h5 : 0 < A.length) (h6 : (decide (t3 < (↑n : Int))) = true) : Gets E 0 (great_h1 n A t3) (great_h1 n A (IntKind.i64.wrap (t3 + 1))) := by
  exact reach_q noK_ok 2000 31 (some [true, false]) [] [] [] [0, 3] [] [] [] (andI (dF h0) (andI (decide_eq_true h1) (andI (h2) (andI (decide_eq_true h3) (andI (decide_eq_true h4) (andI (decide_eq_true h5) (andI (dT h6) (rfl))))))))
theorem great_w1_2 (n : Nat) (A : List Value) (t3 : Int) (h0 : (decide (t3 < (↑n : Int))) = false) : AEnds E 9 0 (great_h1 n A t3) (.bool false) ([]) := by
  exact ends_q noK_ok 2000 14 (some [false]) [] [2] [] (andI (dF h0) (rfl))


end Go.Proofs.Ytgaedhpeiamdfaa
