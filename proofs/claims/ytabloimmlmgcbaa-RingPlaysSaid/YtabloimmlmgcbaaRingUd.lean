/-
  The chapter's first ring; acts: whether they are more than statements go through: the ways.
-/
import Derived.Test.YtabloimmlmgcbaaEnv
import Derived.Test.YtabloimmlmgcbaaAmSlim
set_option linter.unusedVariables false
set_option linter.unusedSimpArgs false
open Go Go.Am
namespace Go.Proofs.Ytabloimmlmgcbaa

abbrev awake_R : Type := Unit
noncomputable def awake_V (r : Unit) : Value := Value.bool true
noncomputable def awake_H (r : Unit) : Heap := []
noncomputable def awake_Q (C : Cfg) (r : awake_R) : Prop :=
  let p := r
  AEnds E 8 0 C (awake_V p) (awake_H p)
theorem awake_p0_0 : goFinB E noK 2000 397 (some [false, false, false, false, true, false, false, false, false, false, false, false, true, false, false, false, false, false, false, true, true, true, true, true, true, true, true, true, false]) [] [0] [] (startC E 8 ([]) ([])) = some (true, Value.bool true, []) := by kernel_rfl
noncomputable def awake_t0 : awake_R :=
  ()
def awake_S0 : Prop :=
  True
theorem awake_ok0 (hS : awake_S0) : awake_Q (startC E 8 ([]) ([])) (awake_t0) := by
  unfold awake_S0 at hS
  unfold awake_t0
  exact ends_ofB noK_ok (awake_p0_0) (rfl) (by kernel_rfl) (Nat.le_of_ble_eq_true (by kernel_rfl)) (fun i hi => absurd hi (Nat.not_lt_zero _)) (fun i hi => absurd hi (Nat.not_lt_zero _))
theorem awake_call (hS : awake_S0) : CallOk E 8 ([]) ([]) (awake_V (awake_t0)) (awake_H (awake_t0)) := callOk_of_ends (awake_ok0 hS) (by kernel_rfl) (Nat.le_of_ble_eq_true (by kernel_rfl))
def awake_ex (a : List Value) (h : Heap) : Unit := ()
noncomputable def awake_k : Ct := kS awake_ex [] [] (fun x => awake_S0 ) (fun x => awake_V  (awake_t0 )) (fun x => awake_H  (awake_t0 ))
theorem awake_k_ok : KFor E 8 awake_k := kS_ok (fun x hx => awake_call  hx) (fun _ _ => rfl) (fun _ _ => rfl)


noncomputable def great_b1 (n : Nat) (A : List Value) : Cfg := reCfg (cfgOf (goNil E noK 2000 15 (some []) [] [] [] [0, 3, 4] [] [] [] (startC E 23 ([Value.iface n (Value.agg A.toArray)]) ([])))) (tmL 6 [(0, Value.iface n (Value.agg A.toArray)), (3, Value.int IntKind.i64 0), (4, Value.int IntKind.i64 0)]) []
noncomputable def great_h1 (n : Nat) (A : List Value) (t3 : Int) (t4 : Int) : Cfg := wTmp 4 (Value.int IntKind.i64 t4) (wTmp 3 (Value.int IntKind.i64 t3) (great_b1 n A))
theorem great_p0_0 (n : Nat) (A : List Value) : goNilB E noK 2000 15 (some []) [] [] [] [0, 3, 4] [] [] [] (startC E 23 ([Value.iface n (Value.agg A.toArray)]) ([])) = some (true, great_h1 n A (0) (0)) := by kernel_rfl
theorem great_w0_0 (n : Nat) (A : List Value) : Gets E 0 (startC E 23 ([Value.iface n (Value.agg A.toArray)]) ([])) (great_h1 n A (0) (0)) := by
  exact reach_gb noK_ok (great_p0_0 n A) (rfl) (Nat.le_of_ble_eq_true (by kernel_rfl)) (fun i hi => absurd hi (Nat.not_lt_zero _)) (fun i hi => absurd hi (Nat.not_lt_zero _)) (Nat.le_of_ble_eq_true (by kernel_rfl))
theorem great_p1_0 (n : Nat) (A : List Value) (t3 : Int) (t4 : Int) : goNilB E noK 2000 35 (some [true, true]) [] [] [] [0, 3, 4] [] [] [] (great_h1 n A t3 t4) = some (and (decide (t4.toNat * 3 + 2 < A.length)) (and (isStr (A.getD (t4.toNat * 3 + 2) undef)) (and (decide (0 ≤ t4)) (and (decide (t4 < (↑n : Int))) (and (decide (0 < A.length)) (and ((decide (t4 ≤ 400)) == true) (and ((decide (t4 < (↑n : Int))) == true) (true))))))), great_h1 n A (IntKind.i64.wrap (t3 + bif decide (20001 < (↑(slen (toStr (A.getD (t4.toNat * 3 + 2) undef))) : Int)) then 20001 else (↑(slen (toStr (A.getD (t4.toNat * 3 + 2) undef))) : Int))) (IntKind.i64.wrap (t4 + 1))) := by kernel_rfl
theorem great_w1_0 (n : Nat) (A : List Value) (t3 : Int) (t4 : Int) (h0 : t4.toNat * 3 + 2 < A.length) (h1 : (isStr (A.getD (t4.toNat * 3 + 2) undef)) = true) (h2 : 0 ≤ t4) (h3 : t4 < (↑n : Int)) (h4 : 0 < A.length) (h5 : (decide (t4 ≤ 400)) = true) (h6 : (decide (t4 < (↑n : Int))) = true) : Gets E 0 (great_h1 n A t3 t4) (great_h1 n A (IntKind.i64.wrap (t3 + bif decide (20001 < (↑(slen (toStr (A.getD (t4.toNat * 3 + 2) undef))) : Int)) then 20001 else (↑(slen (toStr (A.getD (t4.toNat * 3 + 2) undef))) : Int))) (IntKind.i64.wrap (t4 + 1))) := by
  exact reach_gb noK_ok (great_p1_0 n A t3 t4) (andI (decide_eq_true h0) (andI (h1) (andI (decide_eq_true h2) (andI (decide_eq_true h3) (andI (decide_eq_true h4) (andI (dT h5) (andI (dT h6) (rfl)))))))) (Nat.le_of_ble_eq_true (by kernel_rfl)) (fun i hi => absurd hi (Nat.not_lt_zero _)) (fun i hi => absurd hi (Nat.not_lt_zero _)) (Nat.le_of_ble_eq_true (by kernel_rfl))
theorem great_p1_1 (n : Nat) (A : List Value) (t3 : Int) (t4 : Int) : goFinB E noK 2000 25 (some [true, false, true]) [] [2] [] (great_h1 n A t3 t4) = some (and ((decide (400 < (↑n : Int))) == true) (and ((decide (t4 ≤ 400)) == false) (and ((decide (t4 < (↑n : Int))) == true) (true))), Value.bool true, []) := by kernel_rfl
theorem great_w1_1 (n : Nat) (A : List Value) (t3 : Int) (t4 : Int) (h0 : (decide (400 < (↑n : Int))) = true) (h1 : (decide (t4 ≤ 400)) = false) (h2 : (decide (t4 < (↑n : Int))) = true) : AEnds E 23 0 (great_h1 n A t3 t4) (Value.bool true) ([]) := by
  exact ends_ofB noK_ok (great_p1_1 n A t3 t4) (andI (dT h0) (andI (dF h1) (andI (dT h2) (rfl)))) (by kernel_rfl) (Nat.le_of_ble_eq_true (by kernel_rfl)) (fun i hi => absurd hi (Nat.not_lt_zero _)) (fun i hi => absurd hi (Nat.not_lt_zero _))
theorem great_p1_2 (n : Nat) (A : List Value) (t3 : Int) (t4 : Int) : goFinB E noK 2000 25 (some [true, false, false]) [] [2] [] (great_h1 n A t3 t4) = some (and ((decide (400 < (↑n : Int))) == false) (and ((decide (t4 ≤ 400)) == false) (and ((decide (t4 < (↑n : Int))) == true) (true))), Value.bool (decide (20000 < t3)), []) := by kernel_rfl
theorem great_w1_2 (n : Nat) (A : List Value) (t3 : Int) (t4 : Int) (h0 : (decide (400 < (↑n : Int))) = false) (h1 : (decide (t4 ≤ 400)) = false) (h2 : (decide (t4 < (↑n : Int))) = true) : AEnds E 23 0 (great_h1 n A t3 t4) (Value.bool (decide (20000 < t3))) ([]) := by
  exact ends_ofB noK_ok (great_p1_2 n A t3 t4) (andI (dF h0) (andI (dF h1) (andI (dT h2) (rfl)))) (by kernel_rfl) (Nat.le_of_ble_eq_true (by kernel_rfl)) (fun i hi => absurd hi (Nat.not_lt_zero _)) (fun i hi => absurd hi (Nat.not_lt_zero _))
theorem great_p1_3 (n : Nat) (A : List Value) (t3 : Int) (t4 : Int) : goFinB E noK 2000 25 (some [false, false, true]) [] [2] [] (great_h1 n A t3 t4) = some (and ((decide (400 < (↑n : Int))) == true) (and ((decide (t4 < (↑n : Int))) == false) (true)), Value.bool true, []) := by kernel_rfl
theorem great_w1_3 (n : Nat) (A : List Value) (t3 : Int) (t4 : Int) (h0 : (decide (400 < (↑n : Int))) = true) (h1 : (decide (t4 < (↑n : Int))) = false) : AEnds E 23 0 (great_h1 n A t3 t4) (Value.bool true) ([]) := by
  exact ends_ofB noK_ok (great_p1_3 n A t3 t4) (andI (dT h0) (andI (dF h1) (rfl))) (by kernel_rfl) (Nat.le_of_ble_eq_true (by kernel_rfl)) (fun i hi => absurd hi (Nat.not_lt_zero _)) (fun i hi => absurd hi (Nat.not_lt_zero _))
theorem great_p1_4 (n : Nat) (A : List Value) (t3 : Int) (t4 : Int) : goFinB E noK 2000 25 (some [false, false, false]) [] [2] [] (great_h1 n A t3 t4) = some (and ((decide (400 < (↑n : Int))) == false) (and ((decide (t4 < (↑n : Int))) == false) (true)), Value.bool (decide (20000 < t3)), []) := by kernel_rfl
theorem great_w1_4 (n : Nat) (A : List Value) (t3 : Int) (t4 : Int) (h0 : (decide (400 < (↑n : Int))) = false) (h1 : (decide (t4 < (↑n : Int))) = false) : AEnds E 23 0 (great_h1 n A t3 t4) (Value.bool (decide (20000 < t3))) ([]) := by
  exact ends_ofB noK_ok (great_p1_4 n A t3 t4) (andI (dF h0) (andI (dF h1) (rfl))) (by kernel_rfl) (Nat.le_of_ble_eq_true (by kernel_rfl)) (fun i hi => absurd hi (Nat.not_lt_zero _)) (fun i hi => absurd hi (Nat.not_lt_zero _))


end Go.Proofs.Ytabloimmlmgcbaa
