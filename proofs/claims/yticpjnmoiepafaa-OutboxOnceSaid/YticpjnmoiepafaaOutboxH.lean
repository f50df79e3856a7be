/-
  Acts: how many are more than statements go through.
-/
import Derived.Test.YticpjnmoiepafaaEnv
import Derived.Test.YticpjnmoiepafaaAmSlim
set_option linter.unusedVariables false
set_option linter.unusedSimpArgs false
open Go Go.Am
namespace Go.Proofs.Yticpjnmoiepafaa

noncomputable def great_b1 (n : Nat) (A : List Value) : Cfg := cfgOf (goNil E noK 2000 20 (some [false]) [] [] [] [0, 3] [] [] [] (startC E 14 ([Value.iface n (Value.agg A.toArray)]) ([])))
noncomputable def great_h1 (n : Nat) (A : List Value) (t3 : Int) : Cfg := wTmp 3 (Value.int IntKind.i64 t3) (great_b1 n A)
theorem great_p0_0 (n : Nat) (A : List Value) : goFinB E noK 2000 16 (some [true]) [] [2] [] (startC E 14 ([Value.iface n (Value.agg A.toArray)]) ([])) = some (and ((decide (200 < (↑n : Int))) == true) (true), Value.bool true, []) := by kernel_rfl
theorem great_w0_0 (n : Nat) (A : List Value) (h0 : (decide (200 < (↑n : Int))) = true) : AEnds E 14 0 (startC E 14 ([Value.iface n (Value.agg A.toArray)]) ([])) (Value.bool true) ([]) := by
 exact ends_ofB noK_ok (great_p0_0 n A) (andI (dT h0) (rfl)) (by kernel_rfl) (Nat.le_of_ble_eq_true (by kernel_rfl)) (fun i hi => absurd hi (Nat.not_lt_zero _)) (fun i hi => absurd hi (Nat.not_lt_zero _))
theorem great_p0_1 (n : Nat) (A : List Value) : goNilB E noK 2000 20 (some [false]) [] [] [] [0, 3] [] [] [] (startC E 14 ([Value.iface n (Value.agg A.toArray)]) ([])) = some (and ((decide (200 < (↑n : Int))) == false) (true), great_h1 n A (0)) := by kernel_rfl
theorem great_w0_1 (n : Nat) (A : List Value) (h0 : (decide (200 < (↑n : Int))) = false) : Gets E 0 (startC E 14 ([Value.iface n (Value.agg A.toArray)]) ([])) (great_h1 n A (0)) := by
 exact reach_gb noK_ok (great_p0_1 n A) (andI (dF h0) (rfl)) (Nat.le_of_ble_eq_true (by kernel_rfl)) (fun i hi => absurd hi (Nat.not_lt_zero _)) (fun i hi => absurd hi (Nat.not_lt_zero _)) (Nat.le_of_ble_eq_true (by kernel_rfl))
theorem great_p1_0 (n : Nat) (A : List Value) (t3 : Int) : goFinB E noK 2000 27 (some [true, true]) [] [2] [] (great_h1 n A t3) = some (and ((decide (60 < (↑(slen (toStr (A.getD (t3.toNat * 3 + 2) undef))) : Int))) == true) (and (decide (t3.toNat * 3 + 2 < A.length)) (and (isStr (A.getD (t3.toNat * 3 + 2) undef)) (and (decide (0 ≤ t3)) (and (decide (t3 < (↑n : Int))) (and (decide (0 < A.length)) (and ((decide (t3 < (↑n : Int))) == true) (true))))))), Value.bool true, []) := by kernel_rfl
theorem great_w1_0 (n : Nat) (A : List Value) (t3 : Int) (h0 : (decide (60 < (↑(slen (toStr (A.getD (t3.toNat * 3 + 2) undef))) : Int))) = true) (h1 : t3.toNat * 3 + 2 < A.length) (h2 : (isStr (A.getD (t3.toNat * 3 + 2) undef)) = true) (h3 : 0 ≤ t3) (h4 : t3 < (↑n : Int)) (h5 : 0 < A.length) (h6 : (decide (t3 < (↑n : Int))) = true) : AEnds E 14 0 (great_h1 n A t3) (Value.bool true) ([]) := by
 exact ends_ofB noK_ok (great_p1_0 n A t3) (andI (dT h0) (andI (decide_eq_true h1) (andI (h2) (andI (decide_eq_true h3) (andI (decide_eq_true h4) (andI (decide_eq_true h5) (andI (dT h6) (rfl)))))))) (by kernel_rfl) (Nat.le_of_ble_eq_true (by kernel_rfl)) (fun i hi => absurd hi (Nat.not_lt_zero _)) (fun i hi => absurd hi (Nat.not_lt_zero _))
theorem great_p1_1 (n : Nat) (A : List Value) (t3 : Int) : goNilB E noK 2000 31 (some [true, false]) [] [] [] [0, 3] [] [] [] (great_h1 n A t3) = some (and ((decide (60 < (↑(slen (toStr (A.getD (t3.toNat * 3 + 2) undef))) : Int))) == false) (and (decide (t3.toNat * 3 + 2 < A.length)) (and (isStr (A.getD (t3.toNat * 3 + 2) undef)) (and (decide (0 ≤ t3)) (and (decide (t3 < (↑n : Int))) (and (decide (0 < A.length)) (and ((decide (t3 < (↑n : Int))) == true) (true))))))), great_h1 n A (IntKind.i64.wrap (t3 + 1))) := by kernel_rfl
theorem great_w1_1 (n : Nat) (A : List Value) (t3 : Int) (h0 : (decide (60 < (↑(slen (toStr (A.getD (t3.toNat * 3 + 2) undef))) : Int))) = false) (h1 : t3.toNat * 3 + 2 < A.length) (h2 : (isStr (A.getD (t3.toNat * 3 + 2) undef)) = true) (h3 : 0 ≤ t3) (h4 : t3 < (↑n : Int)) (h5 : 0 < A.length) (h6 : (decide (t3 < (↑n : Int))) = true) : Gets E 0 (great_h1 n A t3) (great_h1 n A (IntKind.i64.wrap (t3 + 1))) := by
 exact reach_gb noK_ok (great_p1_1 n A t3) (andI (dF h0) (andI (decide_eq_true h1) (andI (h2) (andI (decide_eq_true h3) (andI (decide_eq_true h4) (andI (decide_eq_true h5) (andI (dT h6) (rfl)))))))) (Nat.le_of_ble_eq_true (by kernel_rfl)) (fun i hi => absurd hi (Nat.not_lt_zero _)) (fun i hi => absurd hi (Nat.not_lt_zero _)) (Nat.le_of_ble_eq_true (by kernel_rfl))
theorem great_p1_2 (n : Nat) (A : List Value) (t3 : Int) : goFinB E noK 2000 14 (some [false]) [] [2] [] (great_h1 n A t3) = some (and ((decide (t3 < (↑n : Int))) == false) (true), Value.bool false, []) := by kernel_rfl
theorem great_w1_2 (n : Nat) (A : List Value) (t3 : Int) (h0 : (decide (t3 < (↑n : Int))) = false) : AEnds E 14 0 (great_h1 n A t3) (Value.bool false) ([]) := by
 exact ends_ofB noK_ok (great_p1_2 n A t3) (andI (dF h0) (rfl)) (by kernel_rfl) (Nat.le_of_ble_eq_true (by kernel_rfl)) (fun i hi => absurd hi (Nat.not_lt_zero _)) (fun i hi => absurd hi (Nat.not_lt_zero _))


end Go.Proofs.Yticpjnmoiepafaa
