/-
  What a Close's data say, and which data a code and a reason are, as plain functions: the program's.
-/
import Derived.Test.YtnimmocgnimdiaaUtfH19
set_option linter.unusedVariables false
set_option linter.unusedSimpArgs false
open Go Go.Am
namespace Go.Proofs.Ytnimmocgnimdiaa

def valid_ex (a : List Value) (h : Heap) : ByteArray := (toStr (a.getD 0 undef))
noncomputable def valid_k : Ct := kP valid_ex (fun x => [Value.string x]) (fun x => []) (fun x => valid_pre x) (fun x => valid_v x) (fun x => valid_h x)
theorem valid_k_ok : KFor E 15 valid_k := kP_ok (fun x hx => valid_call x hx)


abbrev may_R : Type := Bool
def may_V (c : Int) (r : Bool) : Value := Value.bool r
def may_H (c : Int) (r : Bool) : Heap := []
noncomputable def may_Q (c : Int) (C : Cfg) (r : may_R) : Prop :=
  let p := r
  AEnds E 13 0 C (may_V c p) (may_H c p)
theorem may_p0_0 (c : Int) : goFinB E noK 2000 24 (some [true, true, true]) [] [2] [] (startC E 13 ([Value.int IntKind.i64 c]) ([])) = some (and ((decide (c ≤ 1003)) == true) (and ((decide (c ≤ 1003)) == true) (and ((decide (1000 ≤ c)) == true) (true))), Value.bool true, []) := by kernel_rfl
theorem may_p0_1 (c : Int) : goFinB E noK 2000 35 (some [false, false, true, true, true]) [] [2] [] (startC E 13 ([Value.int IntKind.i64 c]) ([])) = some (and ((decide (c ≤ 1014)) == true) (and ((decide (c ≤ 1014)) == true) (and ((decide (1007 ≤ c)) == true) (and ((decide (1000 ≤ c)) == false) (true)))), Value.bool true, []) := by kernel_rfl
theorem may_p0_2 (c : Int) : goFinB E noK 2000 35 (some [true, false, true, true, true]) [] [2] [] (startC E 13 ([Value.int IntKind.i64 c]) ([])) = some (and ((decide (c ≤ 1014)) == true) (and ((decide (c ≤ 1014)) == true) (and ((decide (1007 ≤ c)) == true) (and ((decide (c ≤ 1003)) == false) (and ((decide (1000 ≤ c)) == true) (true))))), Value.bool true, []) := by kernel_rfl
theorem may_p0_3 (c : Int) : goFinB E noK 2000 43 (some [false, false, false, false, true, true]) [] [2] [] (startC E 13 ([Value.int IntKind.i64 c]) ([])) = some (and ((decide (c ≤ 4999)) == true) (and ((decide (3000 ≤ c)) == true) (and ((decide (1007 ≤ c)) == false) (and ((decide (1000 ≤ c)) == false) (true)))), Value.bool true, []) := by kernel_rfl
theorem may_p0_4 (c : Int) : goFinB E noK 2000 43 (some [false, false, true, false, true, true]) [] [2] [] (startC E 13 ([Value.int IntKind.i64 c]) ([])) = some (and ((decide (c ≤ 4999)) == true) (and ((decide (3000 ≤ c)) == true) (and ((decide (c ≤ 1014)) == false) (and ((decide (1007 ≤ c)) == true) (and ((decide (1000 ≤ c)) == false) (true))))), Value.bool true, []) := by kernel_rfl
theorem may_p0_5 (c : Int) : goFinB E noK 2000 43 (some [true, false, false, false, true, true]) [] [2] [] (startC E 13 ([Value.int IntKind.i64 c]) ([])) = some (and ((decide (c ≤ 4999)) == true) (and ((decide (3000 ≤ c)) == true) (and ((decide (1007 ≤ c)) == false) (and ((decide (c ≤ 1003)) == false) (and ((decide (1000 ≤ c)) == true) (true))))), Value.bool true, []) := by kernel_rfl
theorem may_p0_6 (c : Int) : goFinB E noK 2000 43 (some [true, false, true, false, true, true]) [] [2] [] (startC E 13 ([Value.int IntKind.i64 c]) ([])) = some (and ((decide (c ≤ 4999)) == true) (and ((decide (3000 ≤ c)) == true) (and ((decide (c ≤ 1014)) == false) (and ((decide (1007 ≤ c)) == true) (and ((decide (c ≤ 1003)) == false) (and ((decide (1000 ≤ c)) == true) (true)))))), Value.bool true, []) := by kernel_rfl
theorem may_p0_7 (c : Int) : goFinB E noK 2000 45 (some [false, false, false, false, false, false]) [] [2] [] (startC E 13 ([Value.int IntKind.i64 c]) ([])) = some (and ((decide (3000 ≤ c)) == false) (and ((decide (1007 ≤ c)) == false) (and ((decide (1000 ≤ c)) == false) (true))), Value.bool false, []) := by kernel_rfl
theorem may_p0_8 (c : Int) : goFinB E noK 2000 45 (some [false, false, false, false, true, false]) [] [2] [] (startC E 13 ([Value.int IntKind.i64 c]) ([])) = some (and ((decide (c ≤ 4999)) == false) (and ((decide (3000 ≤ c)) == true) (and ((decide (1007 ≤ c)) == false) (and ((decide (1000 ≤ c)) == false) (true)))), Value.bool false, []) := by kernel_rfl
theorem may_p0_9 (c : Int) : goFinB E noK 2000 45 (some [false, false, true, false, false, false]) [] [2] [] (startC E 13 ([Value.int IntKind.i64 c]) ([])) = some (and ((decide (3000 ≤ c)) == false) (and ((decide (c ≤ 1014)) == false) (and ((decide (1007 ≤ c)) == true) (and ((decide (1000 ≤ c)) == false) (true)))), Value.bool false, []) := by kernel_rfl
theorem may_p0_10 (c : Int) : goFinB E noK 2000 45 (some [false, false, true, false, true, false]) [] [2] [] (startC E 13 ([Value.int IntKind.i64 c]) ([])) = some (and ((decide (c ≤ 4999)) == false) (and ((decide (3000 ≤ c)) == true) (and ((decide (c ≤ 1014)) == false) (and ((decide (1007 ≤ c)) == true) (and ((decide (1000 ≤ c)) == false) (true))))), Value.bool false, []) := by kernel_rfl
theorem may_p0_11 (c : Int) : goFinB E noK 2000 45 (some [true, false, false, false, false, false]) [] [2] [] (startC E 13 ([Value.int IntKind.i64 c]) ([])) = some (and ((decide (3000 ≤ c)) == false) (and ((decide (1007 ≤ c)) == false) (and ((decide (c ≤ 1003)) == false) (and ((decide (1000 ≤ c)) == true) (true)))), Value.bool false, []) := by kernel_rfl
theorem may_p0_12 (c : Int) : goFinB E noK 2000 45 (some [true, false, false, false, true, false]) [] [2] [] (startC E 13 ([Value.int IntKind.i64 c]) ([])) = some (and ((decide (c ≤ 4999)) == false) (and ((decide (3000 ≤ c)) == true) (and ((decide (1007 ≤ c)) == false) (and ((decide (c ≤ 1003)) == false) (and ((decide (1000 ≤ c)) == true) (true))))), Value.bool false, []) := by kernel_rfl
theorem may_p0_13 (c : Int) : goFinB E noK 2000 45 (some [true, false, true, false, false, false]) [] [2] [] (startC E 13 ([Value.int IntKind.i64 c]) ([])) = some (and ((decide (3000 ≤ c)) == false) (and ((decide (c ≤ 1014)) == false) (and ((decide (1007 ≤ c)) == true) (and ((decide (c ≤ 1003)) == false) (and ((decide (1000 ≤ c)) == true) (true))))), Value.bool false, []) := by kernel_rfl
theorem may_p0_14 (c : Int) : goFinB E noK 2000 45 (some [true, false, true, false, true, false]) [] [2] [] (startC E 13 ([Value.int IntKind.i64 c]) ([])) = some (and ((decide (c ≤ 4999)) == false) (and ((decide (3000 ≤ c)) == true) (and ((decide (c ≤ 1014)) == false) (and ((decide (1007 ≤ c)) == true) (and ((decide (c ≤ 1003)) == false) (and ((decide (1000 ≤ c)) == true) (true)))))), Value.bool false, []) := by kernel_rfl
def may_t0 (c : Int) : may_R :=
  bif decide (1000 ≤ c) then bif decide (c ≤ 1003) then true
    else bif decide (1007 ≤ c) then bif decide (c ≤ 1014) then true
        else bif decide (3000 ≤ c) then bif decide (c ≤ 4999) then true
            else false
          else false
      else bif decide (3000 ≤ c) then bif decide (c ≤ 4999) then true
          else false
        else false
  else bif decide (1007 ≤ c) then bif decide (c ≤ 1014) then true
      else bif decide (3000 ≤ c) then bif decide (c ≤ 4999) then true
          else false
        else false
    else bif decide (3000 ≤ c) then bif decide (c ≤ 4999) then true
        else false
      else false
def may_S0 (c : Int) : Prop :=
  True
theorem may_ok0 (c : Int) (hS : may_S0 c) : may_Q c (startC E 13 ([Value.int IntKind.i64 c]) ([])) (may_t0 c) := by
  unfold may_S0 at hS
  unfold may_t0
  refine cond_intro (P := may_Q c (startC E 13 ([Value.int IntKind.i64 c]) ([]))) _ (fun h0 => ?_) (fun h0 => ?_)
  · skip
    refine cond_intro (P := may_Q c (startC E 13 ([Value.int IntKind.i64 c]) ([]))) _ (fun h1 => ?_) (fun h1 => ?_)
    · skip
      exact ends_ofB noK_ok (may_p0_0 c) (andI (dT h1) (andI (dT h1) (andI (dT h0) (rfl)))) (by kernel_rfl) (Nat.le_of_ble_eq_true (by kernel_rfl)) (fun i hi => absurd hi (Nat.not_lt_zero _)) (fun i hi => absurd hi (Nat.not_lt_zero _))
    · skip
      refine cond_intro (P := may_Q c (startC E 13 ([Value.int IntKind.i64 c]) ([]))) _ (fun h2 => ?_) (fun h2 => ?_)
      · skip
        refine cond_intro (P := may_Q c (startC E 13 ([Value.int IntKind.i64 c]) ([]))) _ (fun h3 => ?_) (fun h3 => ?_)
        · skip
          exact ends_ofB noK_ok (may_p0_2 c) (andI (dT h3) (andI (dT h3) (andI (dT h2) (andI (dF h1) (andI (dT h0) (rfl)))))) (by kernel_rfl) (Nat.le_of_ble_eq_true (by kernel_rfl)) (fun i hi => absurd hi (Nat.not_lt_zero _)) (fun i hi => absurd hi (Nat.not_lt_zero _))
        · skip
          refine cond_intro (P := may_Q c (startC E 13 ([Value.int IntKind.i64 c]) ([]))) _ (fun h4 => ?_) (fun h4 => ?_)
          · skip
            refine cond_intro (P := may_Q c (startC E 13 ([Value.int IntKind.i64 c]) ([]))) _ (fun h5 => ?_) (fun h5 => ?_)
            · skip
              exact ends_ofB noK_ok (may_p0_6 c) (andI (dT h5) (andI (dT h4) (andI (dF h3) (andI (dT h2) (andI (dF h1) (andI (dT h0) (rfl))))))) (by kernel_rfl) (Nat.le_of_ble_eq_true (by kernel_rfl)) (fun i hi => absurd hi (Nat.not_lt_zero _)) (fun i hi => absurd hi (Nat.not_lt_zero _))
            · skip
              exact ends_ofB noK_ok (may_p0_14 c) (andI (dF h5) (andI (dT h4) (andI (dF h3) (andI (dT h2) (andI (dF h1) (andI (dT h0) (rfl))))))) (by kernel_rfl) (Nat.le_of_ble_eq_true (by kernel_rfl)) (fun i hi => absurd hi (Nat.not_lt_zero _)) (fun i hi => absurd hi (Nat.not_lt_zero _))
          · skip
            exact ends_ofB noK_ok (may_p0_13 c) (andI (dF h4) (andI (dF h3) (andI (dT h2) (andI (dF h1) (andI (dT h0) (rfl)))))) (by kernel_rfl) (Nat.le_of_ble_eq_true (by kernel_rfl)) (fun i hi => absurd hi (Nat.not_lt_zero _)) (fun i hi => absurd hi (Nat.not_lt_zero _))
      · skip
        refine cond_intro (P := may_Q c (startC E 13 ([Value.int IntKind.i64 c]) ([]))) _ (fun h4 => ?_) (fun h4 => ?_)
        · skip
          refine cond_intro (P := may_Q c (startC E 13 ([Value.int IntKind.i64 c]) ([]))) _ (fun h5 => ?_) (fun h5 => ?_)
          · skip
            exact ends_ofB noK_ok (may_p0_5 c) (andI (dT h5) (andI (dT h4) (andI (dF h2) (andI (dF h1) (andI (dT h0) (rfl)))))) (by kernel_rfl) (Nat.le_of_ble_eq_true (by kernel_rfl)) (fun i hi => absurd hi (Nat.not_lt_zero _)) (fun i hi => absurd hi (Nat.not_lt_zero _))
          · skip
            exact ends_ofB noK_ok (may_p0_12 c) (andI (dF h5) (andI (dT h4) (andI (dF h2) (andI (dF h1) (andI (dT h0) (rfl)))))) (by kernel_rfl) (Nat.le_of_ble_eq_true (by kernel_rfl)) (fun i hi => absurd hi (Nat.not_lt_zero _)) (fun i hi => absurd hi (Nat.not_lt_zero _))
        · skip
          exact ends_ofB noK_ok (may_p0_11 c) (andI (dF h4) (andI (dF h2) (andI (dF h1) (andI (dT h0) (rfl))))) (by kernel_rfl) (Nat.le_of_ble_eq_true (by kernel_rfl)) (fun i hi => absurd hi (Nat.not_lt_zero _)) (fun i hi => absurd hi (Nat.not_lt_zero _))
  · skip
    refine cond_intro (P := may_Q c (startC E 13 ([Value.int IntKind.i64 c]) ([]))) _ (fun h2 => ?_) (fun h2 => ?_)
    · skip
      refine cond_intro (P := may_Q c (startC E 13 ([Value.int IntKind.i64 c]) ([]))) _ (fun h3 => ?_) (fun h3 => ?_)
      · skip
        exact ends_ofB noK_ok (may_p0_1 c) (andI (dT h3) (andI (dT h3) (andI (dT h2) (andI (dF h0) (rfl))))) (by kernel_rfl) (Nat.le_of_ble_eq_true (by kernel_rfl)) (fun i hi => absurd hi (Nat.not_lt_zero _)) (fun i hi => absurd hi (Nat.not_lt_zero _))
      · skip
        refine cond_intro (P := may_Q c (startC E 13 ([Value.int IntKind.i64 c]) ([]))) _ (fun h4 => ?_) (fun h4 => ?_)
        · skip
          refine cond_intro (P := may_Q c (startC E 13 ([Value.int IntKind.i64 c]) ([]))) _ (fun h5 => ?_) (fun h5 => ?_)
          · skip
            exact ends_ofB noK_ok (may_p0_4 c) (andI (dT h5) (andI (dT h4) (andI (dF h3) (andI (dT h2) (andI (dF h0) (rfl)))))) (by kernel_rfl) (Nat.le_of_ble_eq_true (by kernel_rfl)) (fun i hi => absurd hi (Nat.not_lt_zero _)) (fun i hi => absurd hi (Nat.not_lt_zero _))
          · skip
            exact ends_ofB noK_ok (may_p0_10 c) (andI (dF h5) (andI (dT h4) (andI (dF h3) (andI (dT h2) (andI (dF h0) (rfl)))))) (by kernel_rfl) (Nat.le_of_ble_eq_true (by kernel_rfl)) (fun i hi => absurd hi (Nat.not_lt_zero _)) (fun i hi => absurd hi (Nat.not_lt_zero _))
        · skip
          exact ends_ofB noK_ok (may_p0_9 c) (andI (dF h4) (andI (dF h3) (andI (dT h2) (andI (dF h0) (rfl))))) (by kernel_rfl) (Nat.le_of_ble_eq_true (by kernel_rfl)) (fun i hi => absurd hi (Nat.not_lt_zero _)) (fun i hi => absurd hi (Nat.not_lt_zero _))
    · skip
      refine cond_intro (P := may_Q c (startC E 13 ([Value.int IntKind.i64 c]) ([]))) _ (fun h4 => ?_) (fun h4 => ?_)
      · skip
        refine cond_intro (P := may_Q c (startC E 13 ([Value.int IntKind.i64 c]) ([]))) _ (fun h5 => ?_) (fun h5 => ?_)
        · skip
          exact ends_ofB noK_ok (may_p0_3 c) (andI (dT h5) (andI (dT h4) (andI (dF h2) (andI (dF h0) (rfl))))) (by kernel_rfl) (Nat.le_of_ble_eq_true (by kernel_rfl)) (fun i hi => absurd hi (Nat.not_lt_zero _)) (fun i hi => absurd hi (Nat.not_lt_zero _))
        · skip
          exact ends_ofB noK_ok (may_p0_8 c) (andI (dF h5) (andI (dT h4) (andI (dF h2) (andI (dF h0) (rfl))))) (by kernel_rfl) (Nat.le_of_ble_eq_true (by kernel_rfl)) (fun i hi => absurd hi (Nat.not_lt_zero _)) (fun i hi => absurd hi (Nat.not_lt_zero _))
      · skip
        exact ends_ofB noK_ok (may_p0_7 c) (andI (dF h4) (andI (dF h2) (andI (dF h0) (rfl)))) (by kernel_rfl) (Nat.le_of_ble_eq_true (by kernel_rfl)) (fun i hi => absurd hi (Nat.not_lt_zero _)) (fun i hi => absurd hi (Nat.not_lt_zero _))
theorem may_call (c : Int) (hS : may_S0 c) : CallOk E 13 ([Value.int IntKind.i64 c]) ([]) (may_V c (may_t0 c)) (may_H c (may_t0 c)) := callOk_of_ends (may_ok0 c hS) (by kernel_rfl) (Nat.le_of_ble_eq_true (by kernel_rfl))
def may_ex (a : List Value) (h : Heap) : Int := (toInt (a.getD 0 undef))
noncomputable def may_k : Ct := kP may_ex (fun x => [Value.int IntKind.i64 x]) (fun x => []) (fun x => may_S0 x) (fun x => may_V x (may_t0 x)) (fun x => may_H x (may_t0 x))
theorem may_k_ok : KFor E 13 may_k := kP_ok (fun x hx => may_call x hx)


abbrev rmay_R : Type := Bool
def rmay_V (c : Int) (r : Bool) : Value := Value.bool r
def rmay_H (c : Int) (r : Bool) : Heap := []
noncomputable def rmay_Q (c : Int) (C : Cfg) (r : rmay_R) : Prop :=
  let p := r
  AEnds E 14 0 C (rmay_V c p) (rmay_H c p)
theorem rmay_p0_0 (c : Int) : goFinB E noK 2000 27 (some [true, true, true]) [] [2] [] (startC E 14 ([Value.int IntKind.i64 c]) ([])) = some (and ((decide (c < 1000)) == true) (true), Value.bool false, []) := by kernel_rfl
theorem rmay_p0_1 (c : Int) : goFinB E noK 2000 27 (some [false, true, true]) [] [2] [] (startC E 14 ([Value.int IntKind.i64 c]) ([])) = some (and ((decide (4999 < c)) == true) (and ((decide (c < 1000)) == false) (true)), Value.bool false, []) := by kernel_rfl
theorem rmay_p0_2 (c : Int) : goFinB E noK 2000 27 (some [false, false, true, true]) [] [2] [] (startC E 14 ([Value.int IntKind.i64 c]) ([])) = some (and ((decide (c < 3000)) == true) (and ((decide (1014 < c)) == true) (and ((decide (4999 < c)) == false) (and ((decide (c < 1000)) == false) (true)))), Value.bool false, []) := by kernel_rfl
theorem rmay_p0_3 (c : Int) : goFinB E noK 2000 38 (some [false, false, false, false, true, true]) [] [2] [] (startC E 14 ([Value.int IntKind.i64 c]) ([])) = some (and ((c != 1005) == true) (and ((c != 1004) == true) (and ((decide (1014 < c)) == false) (and ((decide (4999 < c)) == false) (and ((decide (c < 1000)) == false) (true))))), Value.bool (c != 1006), []) := by kernel_rfl
theorem rmay_p0_4 (c : Int) : goFinB E noK 2000 38 (some [false, false, true, false, true, true]) [] [2] [] (startC E 14 ([Value.int IntKind.i64 c]) ([])) = some (and ((c != 1005) == true) (and ((c != 1004) == true) (and ((decide (c < 3000)) == false) (and ((decide (1014 < c)) == true) (and ((decide (4999 < c)) == false) (and ((decide (c < 1000)) == false) (true)))))), Value.bool (c != 1006), []) := by kernel_rfl
theorem rmay_p0_5 (c : Int) : goFinB E noK 2000 38 (some [false, false, false, false, false, false]) [] [2] [] (startC E 14 ([Value.int IntKind.i64 c]) ([])) = some (and ((c != 1004) == false) (and ((decide (1014 < c)) == false) (and ((decide (4999 < c)) == false) (and ((decide (c < 1000)) == false) (true)))), Value.bool false, []) := by kernel_rfl
theorem rmay_p0_6 (c : Int) : goFinB E noK 2000 38 (some [false, false, false, false, true, false]) [] [2] [] (startC E 14 ([Value.int IntKind.i64 c]) ([])) = some (and ((c != 1005) == false) (and ((c != 1004) == true) (and ((decide (1014 < c)) == false) (and ((decide (4999 < c)) == false) (and ((decide (c < 1000)) == false) (true))))), Value.bool false, []) := by kernel_rfl
theorem rmay_p0_7 (c : Int) : goFinB E noK 2000 38 (some [false, false, true, false, false, false]) [] [2] [] (startC E 14 ([Value.int IntKind.i64 c]) ([])) = some (and ((c != 1004) == false) (and ((decide (c < 3000)) == false) (and ((decide (1014 < c)) == true) (and ((decide (4999 < c)) == false) (and ((decide (c < 1000)) == false) (true))))), Value.bool false, []) := by kernel_rfl
theorem rmay_p0_8 (c : Int) : goFinB E noK 2000 38 (some [false, false, true, false, true, false]) [] [2] [] (startC E 14 ([Value.int IntKind.i64 c]) ([])) = some (and ((c != 1005) == false) (and ((c != 1004) == true) (and ((decide (c < 3000)) == false) (and ((decide (1014 < c)) == true) (and ((decide (4999 < c)) == false) (and ((decide (c < 1000)) == false) (true)))))), Value.bool false, []) := by kernel_rfl
def rmay_t0 (c : Int) : rmay_R :=
  bif decide (c < 1000) then false
  else bif decide (4999 < c) then false
    else bif decide (1014 < c) then bif decide (c < 3000) then false
        else bif c != 1004 then bif c != 1005 then c != 1006
            else false
          else false
      else bif c != 1004 then bif c != 1005 then c != 1006
          else false
        else false
def rmay_S0 (c : Int) : Prop :=
  True
theorem rmay_ok0 (c : Int) (hS : rmay_S0 c) : rmay_Q c (startC E 14 ([Value.int IntKind.i64 c]) ([])) (rmay_t0 c) := by
  unfold rmay_S0 at hS
  unfold rmay_t0
  refine cond_intro (P := rmay_Q c (startC E 14 ([Value.int IntKind.i64 c]) ([]))) _ (fun h0 => ?_) (fun h0 => ?_)
  · skip
    exact ends_ofB noK_ok (rmay_p0_0 c) (andI (dT h0) (rfl)) (by kernel_rfl) (Nat.le_of_ble_eq_true (by kernel_rfl)) (fun i hi => absurd hi (Nat.not_lt_zero _)) (fun i hi => absurd hi (Nat.not_lt_zero _))
  · skip
    refine cond_intro (P := rmay_Q c (startC E 14 ([Value.int IntKind.i64 c]) ([]))) _ (fun h1 => ?_) (fun h1 => ?_)
    · skip
      exact ends_ofB noK_ok (rmay_p0_1 c) (andI (dT h1) (andI (dF h0) (rfl))) (by kernel_rfl) (Nat.le_of_ble_eq_true (by kernel_rfl)) (fun i hi => absurd hi (Nat.not_lt_zero _)) (fun i hi => absurd hi (Nat.not_lt_zero _))
    · skip
      refine cond_intro (P := rmay_Q c (startC E 14 ([Value.int IntKind.i64 c]) ([]))) _ (fun h2 => ?_) (fun h2 => ?_)
      · skip
        refine cond_intro (P := rmay_Q c (startC E 14 ([Value.int IntKind.i64 c]) ([]))) _ (fun h3 => ?_) (fun h3 => ?_)
        · skip
          exact ends_ofB noK_ok (rmay_p0_2 c) (andI (dT h3) (andI (dT h2) (andI (dF h1) (andI (dF h0) (rfl))))) (by kernel_rfl) (Nat.le_of_ble_eq_true (by kernel_rfl)) (fun i hi => absurd hi (Nat.not_lt_zero _)) (fun i hi => absurd hi (Nat.not_lt_zero _))
        · skip
          refine cond_intro (P := rmay_Q c (startC E 14 ([Value.int IntKind.i64 c]) ([]))) _ (fun h4 => ?_) (fun h4 => ?_)
          · skip
            refine cond_intro (P := rmay_Q c (startC E 14 ([Value.int IntKind.i64 c]) ([]))) _ (fun h5 => ?_) (fun h5 => ?_)
            · skip
              exact ends_ofB noK_ok (rmay_p0_4 c) (andI (dT h5) (andI (dT h4) (andI (dF h3) (andI (dT h2) (andI (dF h1) (andI (dF h0) (rfl))))))) (by kernel_rfl) (Nat.le_of_ble_eq_true (by kernel_rfl)) (fun i hi => absurd hi (Nat.not_lt_zero _)) (fun i hi => absurd hi (Nat.not_lt_zero _))
            · skip
              exact ends_ofB noK_ok (rmay_p0_8 c) (andI (dF h5) (andI (dT h4) (andI (dF h3) (andI (dT h2) (andI (dF h1) (andI (dF h0) (rfl))))))) (by kernel_rfl) (Nat.le_of_ble_eq_true (by kernel_rfl)) (fun i hi => absurd hi (Nat.not_lt_zero _)) (fun i hi => absurd hi (Nat.not_lt_zero _))
          · skip
            exact ends_ofB noK_ok (rmay_p0_7 c) (andI (dF h4) (andI (dF h3) (andI (dT h2) (andI (dF h1) (andI (dF h0) (rfl)))))) (by kernel_rfl) (Nat.le_of_ble_eq_true (by kernel_rfl)) (fun i hi => absurd hi (Nat.not_lt_zero _)) (fun i hi => absurd hi (Nat.not_lt_zero _))
      · skip
        refine cond_intro (P := rmay_Q c (startC E 14 ([Value.int IntKind.i64 c]) ([]))) _ (fun h4 => ?_) (fun h4 => ?_)
        · skip
          refine cond_intro (P := rmay_Q c (startC E 14 ([Value.int IntKind.i64 c]) ([]))) _ (fun h5 => ?_) (fun h5 => ?_)
          · skip
            exact ends_ofB noK_ok (rmay_p0_3 c) (andI (dT h5) (andI (dT h4) (andI (dF h2) (andI (dF h1) (andI (dF h0) (rfl)))))) (by kernel_rfl) (Nat.le_of_ble_eq_true (by kernel_rfl)) (fun i hi => absurd hi (Nat.not_lt_zero _)) (fun i hi => absurd hi (Nat.not_lt_zero _))
          · skip
            exact ends_ofB noK_ok (rmay_p0_6 c) (andI (dF h5) (andI (dT h4) (andI (dF h2) (andI (dF h1) (andI (dF h0) (rfl)))))) (by kernel_rfl) (Nat.le_of_ble_eq_true (by kernel_rfl)) (fun i hi => absurd hi (Nat.not_lt_zero _)) (fun i hi => absurd hi (Nat.not_lt_zero _))
        · skip
          exact ends_ofB noK_ok (rmay_p0_5 c) (andI (dF h4) (andI (dF h2) (andI (dF h1) (andI (dF h0) (rfl))))) (by kernel_rfl) (Nat.le_of_ble_eq_true (by kernel_rfl)) (fun i hi => absurd hi (Nat.not_lt_zero _)) (fun i hi => absurd hi (Nat.not_lt_zero _))
theorem rmay_call (c : Int) (hS : rmay_S0 c) : CallOk E 14 ([Value.int IntKind.i64 c]) ([]) (rmay_V c (rmay_t0 c)) (rmay_H c (rmay_t0 c)) := callOk_of_ends (rmay_ok0 c hS) (by kernel_rfl) (Nat.le_of_ble_eq_true (by kernel_rfl))
def rmay_ex (a : List Value) (h : Heap) : Int := (toInt (a.getD 0 undef))
noncomputable def rmay_k : Ct := kP rmay_ex (fun x => [Value.int IntKind.i64 x]) (fun x => []) (fun x => rmay_S0 x) (fun x => rmay_V x (rmay_t0 x)) (fun x => rmay_H x (rmay_t0 x))
theorem rmay_k_ok : KFor E 14 rmay_k := kP_ok (fun x hx => rmay_call x hx)


noncomputable def KA : Ctr := ctrOf E [(15, anyA, valid_k), (13, anyA, may_k)]
theorem KA_ok : KOk E KA := ctr_cons valid_k_ok (ctr_cons may_k_ok ctr_nil)

abbrev cread_R : Type := Int × ByteArray × Int
def cread_V (s : ByteArray) (r : Int × ByteArray × Int) : Value := Value.tuple #[Value.int IntKind.i64 r.1, Value.string r.2.1, Value.int IntKind.i64 r.2.2]
def cread_H (s : ByteArray) (r : Int × ByteArray × Int) : Heap := []
noncomputable def cread_Q (s : ByteArray) (C : Cfg) (r : cread_R) : Prop :=
  let p := r
  AEnds E 9 0 C (cread_V s p) (cread_H s p)
theorem cread_p0_0 (s : ByteArray) : goFinB E KA 2000 25 (some [true]) [] [2, 3, 4] [] (startC E 9 ([Value.string s]) ([])) = some (and (((↑(slen s) : Int) == 0) == true) (true), Value.tuple #[Value.int IntKind.i64 1005, Value.string { data := #[] }, Value.int IntKind.i64 0], []) := by kernel_rfl
theorem cread_p0_1 (s : ByteArray) : goFinB E KA 2000 31 (some [false, true]) [] [2, 3, 4] [] (startC E 9 ([Value.string s]) ([])) = some (and (((↑(slen s) : Int) == 1) == true) (and (((↑(slen s) : Int) == 0) == false) (true)), Value.tuple #[Value.int IntKind.i64 0, Value.string { data := #[] }, Value.int IntKind.i64 1002], []) := by kernel_rfl
theorem cread_p0_2 (s : ByteArray) : goFinB E KA 2000 45 (some [false, false, true]) [] [2, 3, 4] [] (startC E 9 ([Value.string s]) ([])) = some (and ((!may_t0 (ior IntKind.i64 (ishl IntKind.i64 (IntKind.i64.wrap (chr s 0)) 8) (IntKind.i64.wrap (chr s 1)))) == true) (and (eqA [Value.int IntKind.i64 (ior IntKind.i64 (ishl IntKind.i64 (IntKind.i64.wrap (chr s 0)) 8) (IntKind.i64.wrap (chr s 1)))] [Value.int IntKind.i64 (ior IntKind.i64 (ishl IntKind.i64 (IntKind.i64.wrap (chr s 0)) 8) (IntKind.i64.wrap (chr s 1)))]) (and (eqH [] []) (and (pdec (may_S0 (ior IntKind.i64 (ishl IntKind.i64 (IntKind.i64.wrap (chr s 0)) 8) (IntKind.i64.wrap (chr s 1))))) (and (decide (2 ≤ slen s)) (and (decide (1 < (↑(slen s) : Int))) (and (decide (0 < (↑(slen s) : Int))) (and (((↑(slen s) : Int) == 1) == false) (and (((↑(slen s) : Int) == 0) == false) (true))))))))), Value.tuple #[Value.int IntKind.i64 0, Value.string { data := #[] }, Value.int IntKind.i64 1002], []) := by kernel_rfl
theorem cread_p0_3 (s : ByteArray) : goFinB E KA 2000 53 (some [false, false, false, true]) [] [2, 3, 4] [] (startC E 9 ([Value.string s]) ([])) = some (and ((!wholeD (0, 0, 0, 0) (toL (sub s 2 (slen s)))) == true) (and (eqA [Value.string (sub s 2 (slen s))] [Value.string (sub s 2 (slen s))]) (and (eqH [] []) (and (pdec (valid_pre (sub s 2 (slen s)))) (and ((!may_t0 (ior IntKind.i64 (ishl IntKind.i64 (IntKind.i64.wrap (chr s 0)) 8) (IntKind.i64.wrap (chr s 1)))) == false) (and (eqA [Value.int IntKind.i64 (ior IntKind.i64 (ishl IntKind.i64 (IntKind.i64.wrap (chr s 0)) 8) (IntKind.i64.wrap (chr s 1)))] [Value.int IntKind.i64 (ior IntKind.i64 (ishl IntKind.i64 (IntKind.i64.wrap (chr s 0)) 8) (IntKind.i64.wrap (chr s 1)))]) (and (eqH [] []) (and (pdec (may_S0 (ior IntKind.i64 (ishl IntKind.i64 (IntKind.i64.wrap (chr s 0)) 8) (IntKind.i64.wrap (chr s 1))))) (and (decide (2 ≤ slen s)) (and (decide (1 < (↑(slen s) : Int))) (and (decide (0 < (↑(slen s) : Int))) (and (((↑(slen s) : Int) == 1) == false) (and (((↑(slen s) : Int) == 0) == false) (true))))))))))))), Value.tuple #[Value.int IntKind.i64 0, Value.string { data := #[] }, Value.int IntKind.i64 1007], []) := by kernel_rfl
theorem cread_p0_4 (s : ByteArray) : goFinB E KA 2000 57 (some [false, false, false, false]) [] [2, 3, 4] [] (startC E 9 ([Value.string s]) ([])) = some (and ((!wholeD (0, 0, 0, 0) (toL (sub s 2 (slen s)))) == false) (and (eqA [Value.string (sub s 2 (slen s))] [Value.string (sub s 2 (slen s))]) (and (eqH [] []) (and (pdec (valid_pre (sub s 2 (slen s)))) (and ((!may_t0 (ior IntKind.i64 (ishl IntKind.i64 (IntKind.i64.wrap (chr s 0)) 8) (IntKind.i64.wrap (chr s 1)))) == false) (and (eqA [Value.int IntKind.i64 (ior IntKind.i64 (ishl IntKind.i64 (IntKind.i64.wrap (chr s 0)) 8) (IntKind.i64.wrap (chr s 1)))] [Value.int IntKind.i64 (ior IntKind.i64 (ishl IntKind.i64 (IntKind.i64.wrap (chr s 0)) 8) (IntKind.i64.wrap (chr s 1)))]) (and (eqH [] []) (and (pdec (may_S0 (ior IntKind.i64 (ishl IntKind.i64 (IntKind.i64.wrap (chr s 0)) 8) (IntKind.i64.wrap (chr s 1))))) (and (decide (2 ≤ slen s)) (and (decide (1 < (↑(slen s) : Int))) (and (decide (0 < (↑(slen s) : Int))) (and (((↑(slen s) : Int) == 1) == false) (and (((↑(slen s) : Int) == 0) == false) (true))))))))))))), Value.tuple #[Value.int IntKind.i64 (ior IntKind.i64 (ishl IntKind.i64 (IntKind.i64.wrap (chr s 0)) 8) (IntKind.i64.wrap (chr s 1))), Value.string (sub s 2 (slen s)), Value.int IntKind.i64 0], []) := by kernel_rfl
def cread_t0 (s : ByteArray) : cread_R :=
  bif (↑(slen s) : Int) == 0 then (1005, { data := #[] }, 0)
  else bif (↑(slen s) : Int) == 1 then (0, { data := #[] }, 1002)
    else bif !may_t0 (ior IntKind.i64 (ishl IntKind.i64 (IntKind.i64.wrap (chr s 0)) 8) (IntKind.i64.wrap (chr s 1))) then (0, { data := #[] }, 1002)
      else bif !wholeD (0, 0, 0, 0) (toL (sub s 2 (slen s))) then (0, { data := #[] }, 1007)
        else (ior IntKind.i64 (ishl IntKind.i64 (IntKind.i64.wrap (chr s 0)) 8) (IntKind.i64.wrap (chr s 1)), sub s 2 (slen s), 0)
def cread_S0 (s : ByteArray) : Prop :=
  (((↑(slen s) : Int) == 0) = true → True) ∧
  (((↑(slen s) : Int) == 0) = false → (((↑(slen s) : Int) == 1) = true → True) ∧
    (((↑(slen s) : Int) == 1) = false → ((!may_t0 (ior IntKind.i64 (ishl IntKind.i64 (IntKind.i64.wrap (chr s 0)) 8) (IntKind.i64.wrap (chr s 1)))) = true → (may_S0 (ior IntKind.i64 (ishl IntKind.i64 (IntKind.i64.wrap (chr s 0)) 8) (IntKind.i64.wrap (chr s 1)))) ∧ (2 ≤ slen s) ∧ (1 < (↑(slen s) : Int)) ∧ (0 < (↑(slen s) : Int))) ∧
      ((!may_t0 (ior IntKind.i64 (ishl IntKind.i64 (IntKind.i64.wrap (chr s 0)) 8) (IntKind.i64.wrap (chr s 1)))) = false → ((!wholeD (0, 0, 0, 0) (toL (sub s 2 (slen s)))) = true → (valid_pre (sub s 2 (slen s))) ∧ (may_S0 (ior IntKind.i64 (ishl IntKind.i64 (IntKind.i64.wrap (chr s 0)) 8) (IntKind.i64.wrap (chr s 1)))) ∧ (2 ≤ slen s) ∧ (1 < (↑(slen s) : Int)) ∧ (0 < (↑(slen s) : Int))) ∧
        ((!wholeD (0, 0, 0, 0) (toL (sub s 2 (slen s)))) = false → (valid_pre (sub s 2 (slen s))) ∧ (may_S0 (ior IntKind.i64 (ishl IntKind.i64 (IntKind.i64.wrap (chr s 0)) 8) (IntKind.i64.wrap (chr s 1)))) ∧ (2 ≤ slen s) ∧ (1 < (↑(slen s) : Int)) ∧ (0 < (↑(slen s) : Int))))))
theorem cread_ok0 (s : ByteArray) (hS : cread_S0 s) : cread_Q s (startC E 9 ([Value.string s]) ([])) (cread_t0 s) := by
  unfold cread_S0 at hS
  unfold cread_t0
  refine cond_intro (P := cread_Q s (startC E 9 ([Value.string s]) ([]))) _ (fun h0 => ?_) (fun h0 => ?_)
  · skip
    exact ends_ofB KA_ok (cread_p0_0 s) (andI (dT h0) (rfl)) (by kernel_rfl) (Nat.le_of_ble_eq_true (by kernel_rfl)) (fun i hi => absurd hi (Nat.not_lt_zero _)) (fun i hi => absurd hi (Nat.not_lt_zero _))
  · skip
    refine cond_intro (P := cread_Q s (startC E 9 ([Value.string s]) ([]))) _ (fun h1 => ?_) (fun h1 => ?_)
    · skip
      exact ends_ofB KA_ok (cread_p0_1 s) (andI (dT h1) (andI (dF h0) (rfl))) (by kernel_rfl) (Nat.le_of_ble_eq_true (by kernel_rfl)) (fun i hi => absurd hi (Nat.not_lt_zero _)) (fun i hi => absurd hi (Nat.not_lt_zero _))
    · skip
      refine cond_intro (P := cread_Q s (startC E 9 ([Value.string s]) ([]))) _ (fun h2 => ?_) (fun h2 => ?_)
      · skip
        exact ends_ofB KA_ok (cread_p0_2 s) (andI (dT h2) (andI (eqA_self _) (andI (eqH_self _) (andI (pdec_iff.2 (((hS.2 h0).2 h1).1 h2).1) (andI (decide_eq_true (((hS.2 h0).2 h1).1 h2).2.1) (andI (decide_eq_true (((hS.2 h0).2 h1).1 h2).2.2.1) (andI (decide_eq_true (((hS.2 h0).2 h1).1 h2).2.2.2) (andI (dF h1) (andI (dF h0) (rfl)))))))))) (by kernel_rfl) (Nat.le_of_ble_eq_true (by kernel_rfl)) (fun i hi => absurd hi (Nat.not_lt_zero _)) (fun i hi => absurd hi (Nat.not_lt_zero _))
      · skip
        refine cond_intro (P := cread_Q s (startC E 9 ([Value.string s]) ([]))) _ (fun h3 => ?_) (fun h3 => ?_)
        · skip
          exact ends_ofB KA_ok (cread_p0_3 s) (andI (dT h3) (andI (eqA_self _) (andI (eqH_self _) (andI (pdec_iff.2 ((((hS.2 h0).2 h1).2 h2).1 h3).1) (andI (dF h2) (andI (eqA_self _) (andI (eqH_self _) (andI (pdec_iff.2 ((((hS.2 h0).2 h1).2 h2).1 h3).2.1) (andI (decide_eq_true ((((hS.2 h0).2 h1).2 h2).1 h3).2.2.1) (andI (decide_eq_true ((((hS.2 h0).2 h1).2 h2).1 h3).2.2.2.1) (andI (decide_eq_true ((((hS.2 h0).2 h1).2 h2).1 h3).2.2.2.2) (andI (dF h1) (andI (dF h0) (rfl)))))))))))))) (by kernel_rfl) (Nat.le_of_ble_eq_true (by kernel_rfl)) (fun i hi => absurd hi (Nat.not_lt_zero _)) (fun i hi => absurd hi (Nat.not_lt_zero _))
        · skip
          exact ends_ofB KA_ok (cread_p0_4 s) (andI (dF h3) (andI (eqA_self _) (andI (eqH_self _) (andI (pdec_iff.2 ((((hS.2 h0).2 h1).2 h2).2 h3).1) (andI (dF h2) (andI (eqA_self _) (andI (eqH_self _) (andI (pdec_iff.2 ((((hS.2 h0).2 h1).2 h2).2 h3).2.1) (andI (decide_eq_true ((((hS.2 h0).2 h1).2 h2).2 h3).2.2.1) (andI (decide_eq_true ((((hS.2 h0).2 h1).2 h2).2 h3).2.2.2.1) (andI (decide_eq_true ((((hS.2 h0).2 h1).2 h2).2 h3).2.2.2.2) (andI (dF h1) (andI (dF h0) (rfl)))))))))))))) (by kernel_rfl) (Nat.le_of_ble_eq_true (by kernel_rfl)) (fun i hi => absurd hi (Nat.not_lt_zero _)) (fun i hi => absurd hi (Nat.not_lt_zero _))
theorem cread_call (s : ByteArray) (hS : cread_S0 s) : CallOk E 9 ([Value.string s]) ([]) (cread_V s (cread_t0 s)) (cread_H s (cread_t0 s)) := callOk_of_ends (cread_ok0 s hS) (by kernel_rfl) (Nat.le_of_ble_eq_true (by kernel_rfl))
def cread_ex (a : List Value) (h : Heap) : ByteArray := (toStr (a.getD 0 undef))
noncomputable def cread_k : Ct := kP cread_ex (fun x => [Value.string x]) (fun x => []) (fun x => cread_S0 x) (fun x => cread_V x (cread_t0 x)) (fun x => cread_H x (cread_t0 x))
theorem cread_k_ok : KFor E 9 cread_k := kP_ok (fun x hx => cread_call x hx)


abbrev cbytes_R : Type := ByteArray × Int
def cbytes_V (code : Int) (s : ByteArray) (r : ByteArray × Int) : Value := Value.tuple #[Value.string r.1, Value.int IntKind.i64 r.2]
def cbytes_H (code : Int) (s : ByteArray) (r : ByteArray × Int) : Heap := []
noncomputable def cbytes_Q (code : Int) (s : ByteArray) (C : Cfg) (r : cbytes_R) : Prop :=
  let p := r
  AEnds E 11 0 C (cbytes_V code s p) (cbytes_H code s p)
theorem cbytes_p0_0 (code : Int) (s : ByteArray) : goFinB E KA 2000 23 (some [true, true]) [] [4, 5] [] (startC E 11 ([Value.int IntKind.i64 code, Value.string s]) ([])) = some (and ((toL s == []) == true) (and ((code == 1005) == true) (true)), Value.tuple #[Value.string { data := #[] }, Value.int IntKind.i64 0], []) := by kernel_rfl
theorem cbytes_p0_1 (code : Int) (s : ByteArray) : goFinB E KA 2000 41 (some [false, false, true, true, true]) [] [4, 5] [] (startC E 11 ([Value.int IntKind.i64 code, Value.string s]) ([])) = some (and ((!may_t0 code) == true) (and (eqA [Value.int IntKind.i64 code] [Value.int IntKind.i64 code]) (and (eqH [] []) (and (pdec (may_S0 code)) (and ((code == 1005) == false) (true))))), Value.tuple #[Value.string { data := #[] }, Value.int IntKind.i64 1], []) := by kernel_rfl
theorem cbytes_p0_2 (code : Int) (s : ByteArray) : goFinB E KA 2000 41 (some [true, false, true, true, true]) [] [4, 5] [] (startC E 11 ([Value.int IntKind.i64 code, Value.string s]) ([])) = some (and ((!may_t0 code) == true) (and (eqA [Value.int IntKind.i64 code] [Value.int IntKind.i64 code]) (and (eqH [] []) (and (pdec (may_S0 code)) (and ((toL s == []) == false) (and ((code == 1005) == true) (true)))))), Value.tuple #[Value.string { data := #[] }, Value.int IntKind.i64 1], []) := by kernel_rfl
theorem cbytes_p0_3 (code : Int) (s : ByteArray) : goFinB E KA 2000 41 (some [false, false, false, true, true]) [] [4, 5] [] (startC E 11 ([Value.int IntKind.i64 code, Value.string s]) ([])) = some (and ((decide (123 < (↑(slen s) : Int))) == true) (and ((!may_t0 code) == false) (and (eqA [Value.int IntKind.i64 code] [Value.int IntKind.i64 code]) (and (eqH [] []) (and (pdec (may_S0 code)) (and ((code == 1005) == false) (true)))))), Value.tuple #[Value.string { data := #[] }, Value.int IntKind.i64 1], []) := by kernel_rfl
theorem cbytes_p0_4 (code : Int) (s : ByteArray) : goFinB E KA 2000 41 (some [true, false, false, true, true]) [] [4, 5] [] (startC E 11 ([Value.int IntKind.i64 code, Value.string s]) ([])) = some (and ((decide (123 < (↑(slen s) : Int))) == true) (and ((!may_t0 code) == false) (and (eqA [Value.int IntKind.i64 code] [Value.int IntKind.i64 code]) (and (eqH [] []) (and (pdec (may_S0 code)) (and ((toL s == []) == false) (and ((code == 1005) == true) (true))))))), Value.tuple #[Value.string { data := #[] }, Value.int IntKind.i64 1], []) := by kernel_rfl
theorem cbytes_p0_5 (code : Int) (s : ByteArray) : goFinB E KA 2000 41 (some [false, false, false, false, true]) [] [4, 5] [] (startC E 11 ([Value.int IntKind.i64 code, Value.string s]) ([])) = some (and ((!wholeD (0, 0, 0, 0) (toL s)) == true) (and (eqA [Value.string s] [Value.string s]) (and (eqH [] []) (and (pdec (valid_pre s)) (and ((decide (123 < (↑(slen s) : Int))) == false) (and ((!may_t0 code) == false) (and (eqA [Value.int IntKind.i64 code] [Value.int IntKind.i64 code]) (and (eqH [] []) (and (pdec (may_S0 code)) (and ((code == 1005) == false) (true)))))))))), Value.tuple #[Value.string { data := #[] }, Value.int IntKind.i64 1], []) := by kernel_rfl
theorem cbytes_p0_6 (code : Int) (s : ByteArray) : goFinB E KA 2000 41 (some [true, false, false, false, true]) [] [4, 5] [] (startC E 11 ([Value.int IntKind.i64 code, Value.string s]) ([])) = some (and ((!wholeD (0, 0, 0, 0) (toL s)) == true) (and (eqA [Value.string s] [Value.string s]) (and (eqH [] []) (and (pdec (valid_pre s)) (and ((decide (123 < (↑(slen s) : Int))) == false) (and ((!may_t0 code) == false) (and (eqA [Value.int IntKind.i64 code] [Value.int IntKind.i64 code]) (and (eqH [] []) (and (pdec (may_S0 code)) (and ((toL s == []) == false) (and ((code == 1005) == true) (true))))))))))), Value.tuple #[Value.string { data := #[] }, Value.int IntKind.i64 1], []) := by kernel_rfl
theorem cbytes_p0_7 (code : Int) (s : ByteArray) : goFinB E KA 2000 52 (some [false, false, false, false, false]) [] [4, 5] [] (startC E 11 ([Value.int IntKind.i64 code, Value.string s]) ([])) = some (and (decide (slen (bytesOf [Value.int IntKind.u8 (IntKind.u8.wrap (ishr IntKind.i64 code 8)), Value.int IntKind.u8 (IntKind.u8.wrap code)]) + slen s ≤ 9223372036854775807)) (and ((!wholeD (0, 0, 0, 0) (toL s)) == false) (and (eqA [Value.string s] [Value.string s]) (and (eqH [] []) (and (pdec (valid_pre s)) (and ((decide (123 < (↑(slen s) : Int))) == false) (and ((!may_t0 code) == false) (and (eqA [Value.int IntKind.i64 code] [Value.int IntKind.i64 code]) (and (eqH [] []) (and (pdec (may_S0 code)) (and ((code == 1005) == false) (true))))))))))), Value.tuple #[Value.string (cat (bytesOf [Value.int IntKind.u8 (IntKind.u8.wrap (ishr IntKind.i64 code 8)), Value.int IntKind.u8 (IntKind.u8.wrap code)]) s), Value.int IntKind.i64 0], []) := by kernel_rfl
theorem cbytes_p0_8 (code : Int) (s : ByteArray) : goFinB E KA 2000 52 (some [true, false, false, false, false]) [] [4, 5] [] (startC E 11 ([Value.int IntKind.i64 code, Value.string s]) ([])) = some (and (decide (slen (bytesOf [Value.int IntKind.u8 (IntKind.u8.wrap (ishr IntKind.i64 code 8)), Value.int IntKind.u8 (IntKind.u8.wrap code)]) + slen s ≤ 9223372036854775807)) (and ((!wholeD (0, 0, 0, 0) (toL s)) == false) (and (eqA [Value.string s] [Value.string s]) (and (eqH [] []) (and (pdec (valid_pre s)) (and ((decide (123 < (↑(slen s) : Int))) == false) (and ((!may_t0 code) == false) (and (eqA [Value.int IntKind.i64 code] [Value.int IntKind.i64 code]) (and (eqH [] []) (and (pdec (may_S0 code)) (and ((toL s == []) == false) (and ((code == 1005) == true) (true)))))))))))), Value.tuple #[Value.string (cat (bytesOf [Value.int IntKind.u8 (IntKind.u8.wrap (ishr IntKind.i64 code 8)), Value.int IntKind.u8 (IntKind.u8.wrap code)]) s), Value.int IntKind.i64 0], []) := by kernel_rfl
def cbytes_t0 (code : Int) (s : ByteArray) : cbytes_R :=
  bif code == 1005 then bif toL s == [] then ({ data := #[] }, 0)
    else bif !may_t0 code then ({ data := #[] }, 1)
      else bif decide (123 < (↑(slen s) : Int)) then ({ data := #[] }, 1)
        else bif !wholeD (0, 0, 0, 0) (toL s) then ({ data := #[] }, 1)
          else (cat (bytesOf [Value.int IntKind.u8 (IntKind.u8.wrap (ishr IntKind.i64 code 8)), Value.int IntKind.u8 (IntKind.u8.wrap code)]) s, 0)
  else bif !may_t0 code then ({ data := #[] }, 1)
    else bif decide (123 < (↑(slen s) : Int)) then ({ data := #[] }, 1)
      else bif !wholeD (0, 0, 0, 0) (toL s) then ({ data := #[] }, 1)
        else (cat (bytesOf [Value.int IntKind.u8 (IntKind.u8.wrap (ishr IntKind.i64 code 8)), Value.int IntKind.u8 (IntKind.u8.wrap code)]) s, 0)
def cbytes_S0 (code : Int) (s : ByteArray) : Prop :=
  ((code == 1005) = true → ((toL s == []) = true → True) ∧
    ((toL s == []) = false → ((!may_t0 code) = true → may_S0 code) ∧
      ((!may_t0 code) = false → ((decide (123 < (↑(slen s) : Int))) = true → may_S0 code) ∧
        ((decide (123 < (↑(slen s) : Int))) = false → ((!wholeD (0, 0, 0, 0) (toL s)) = true → (valid_pre s) ∧ (may_S0 code)) ∧
          ((!wholeD (0, 0, 0, 0) (toL s)) = false → (slen (bytesOf [Value.int IntKind.u8 (IntKind.u8.wrap (ishr IntKind.i64 code 8)), Value.int IntKind.u8 (IntKind.u8.wrap code)]) + slen s ≤ 9223372036854775807) ∧ (valid_pre s) ∧ (may_S0 code)))))) ∧
  ((code == 1005) = false → ((!may_t0 code) = true → may_S0 code) ∧
    ((!may_t0 code) = false → ((decide (123 < (↑(slen s) : Int))) = true → may_S0 code) ∧
      ((decide (123 < (↑(slen s) : Int))) = false → ((!wholeD (0, 0, 0, 0) (toL s)) = true → (valid_pre s) ∧ (may_S0 code)) ∧
        ((!wholeD (0, 0, 0, 0) (toL s)) = false → (slen (bytesOf [Value.int IntKind.u8 (IntKind.u8.wrap (ishr IntKind.i64 code 8)), Value.int IntKind.u8 (IntKind.u8.wrap code)]) + slen s ≤ 9223372036854775807) ∧ (valid_pre s) ∧ (may_S0 code)))))
theorem cbytes_ok0 (code : Int) (s : ByteArray) (hS : cbytes_S0 code s) : cbytes_Q code s (startC E 11 ([Value.int IntKind.i64 code, Value.string s]) ([])) (cbytes_t0 code s) := by
  unfold cbytes_S0 at hS
  unfold cbytes_t0
  refine cond_intro (P := cbytes_Q code s (startC E 11 ([Value.int IntKind.i64 code, Value.string s]) ([]))) _ (fun h0 => ?_) (fun h0 => ?_)
  · skip
    refine cond_intro (P := cbytes_Q code s (startC E 11 ([Value.int IntKind.i64 code, Value.string s]) ([]))) _ (fun h1 => ?_) (fun h1 => ?_)
    · skip
      exact ends_ofB KA_ok (cbytes_p0_0 code s) (andI (dT h1) (andI (dT h0) (rfl))) (by kernel_rfl) (Nat.le_of_ble_eq_true (by kernel_rfl)) (fun i hi => absurd hi (Nat.not_lt_zero _)) (fun i hi => absurd hi (Nat.not_lt_zero _))
    · skip
      refine cond_intro (P := cbytes_Q code s (startC E 11 ([Value.int IntKind.i64 code, Value.string s]) ([]))) _ (fun h2 => ?_) (fun h2 => ?_)
      · skip
        exact ends_ofB KA_ok (cbytes_p0_2 code s) (andI (dT h2) (andI (eqA_self _) (andI (eqH_self _) (andI (pdec_iff.2 (((hS.1 h0).2 h1).1 h2)) (andI (dF h1) (andI (dT h0) (rfl))))))) (by kernel_rfl) (Nat.le_of_ble_eq_true (by kernel_rfl)) (fun i hi => absurd hi (Nat.not_lt_zero _)) (fun i hi => absurd hi (Nat.not_lt_zero _))
      · skip
        refine cond_intro (P := cbytes_Q code s (startC E 11 ([Value.int IntKind.i64 code, Value.string s]) ([]))) _ (fun h3 => ?_) (fun h3 => ?_)
        · skip
          exact ends_ofB KA_ok (cbytes_p0_4 code s) (andI (dT h3) (andI (dF h2) (andI (eqA_self _) (andI (eqH_self _) (andI (pdec_iff.2 ((((hS.1 h0).2 h1).2 h2).1 h3)) (andI (dF h1) (andI (dT h0) (rfl)))))))) (by kernel_rfl) (Nat.le_of_ble_eq_true (by kernel_rfl)) (fun i hi => absurd hi (Nat.not_lt_zero _)) (fun i hi => absurd hi (Nat.not_lt_zero _))
        · skip
          refine cond_intro (P := cbytes_Q code s (startC E 11 ([Value.int IntKind.i64 code, Value.string s]) ([]))) _ (fun h4 => ?_) (fun h4 => ?_)
          · skip
            exact ends_ofB KA_ok (cbytes_p0_6 code s) (andI (dT h4) (andI (eqA_self _) (andI (eqH_self _) (andI (pdec_iff.2 (((((hS.1 h0).2 h1).2 h2).2 h3).1 h4).1) (andI (dF h3) (andI (dF h2) (andI (eqA_self _) (andI (eqH_self _) (andI (pdec_iff.2 (((((hS.1 h0).2 h1).2 h2).2 h3).1 h4).2) (andI (dF h1) (andI (dT h0) (rfl)))))))))))) (by kernel_rfl) (Nat.le_of_ble_eq_true (by kernel_rfl)) (fun i hi => absurd hi (Nat.not_lt_zero _)) (fun i hi => absurd hi (Nat.not_lt_zero _))
          · skip
            exact ends_ofB KA_ok (cbytes_p0_8 code s) (andI (decide_eq_true (((((hS.1 h0).2 h1).2 h2).2 h3).2 h4).1) (andI (dF h4) (andI (eqA_self _) (andI (eqH_self _) (andI (pdec_iff.2 (((((hS.1 h0).2 h1).2 h2).2 h3).2 h4).2.1) (andI (dF h3) (andI (dF h2) (andI (eqA_self _) (andI (eqH_self _) (andI (pdec_iff.2 (((((hS.1 h0).2 h1).2 h2).2 h3).2 h4).2.2) (andI (dF h1) (andI (dT h0) (rfl))))))))))))) (by kernel_rfl) (Nat.le_of_ble_eq_true (by kernel_rfl)) (fun i hi => absurd hi (Nat.not_lt_zero _)) (fun i hi => absurd hi (Nat.not_lt_zero _))
  · skip
    refine cond_intro (P := cbytes_Q code s (startC E 11 ([Value.int IntKind.i64 code, Value.string s]) ([]))) _ (fun h2 => ?_) (fun h2 => ?_)
    · skip
      exact ends_ofB KA_ok (cbytes_p0_1 code s) (andI (dT h2) (andI (eqA_self _) (andI (eqH_self _) (andI (pdec_iff.2 ((hS.2 h0).1 h2)) (andI (dF h0) (rfl)))))) (by kernel_rfl) (Nat.le_of_ble_eq_true (by kernel_rfl)) (fun i hi => absurd hi (Nat.not_lt_zero _)) (fun i hi => absurd hi (Nat.not_lt_zero _))
    · skip
      refine cond_intro (P := cbytes_Q code s (startC E 11 ([Value.int IntKind.i64 code, Value.string s]) ([]))) _ (fun h3 => ?_) (fun h3 => ?_)
      · skip
        exact ends_ofB KA_ok (cbytes_p0_3 code s) (andI (dT h3) (andI (dF h2) (andI (eqA_self _) (andI (eqH_self _) (andI (pdec_iff.2 (((hS.2 h0).2 h2).1 h3)) (andI (dF h0) (rfl))))))) (by kernel_rfl) (Nat.le_of_ble_eq_true (by kernel_rfl)) (fun i hi => absurd hi (Nat.not_lt_zero _)) (fun i hi => absurd hi (Nat.not_lt_zero _))
      · skip
        refine cond_intro (P := cbytes_Q code s (startC E 11 ([Value.int IntKind.i64 code, Value.string s]) ([]))) _ (fun h4 => ?_) (fun h4 => ?_)
        · skip
          exact ends_ofB KA_ok (cbytes_p0_5 code s) (andI (dT h4) (andI (eqA_self _) (andI (eqH_self _) (andI (pdec_iff.2 ((((hS.2 h0).2 h2).2 h3).1 h4).1) (andI (dF h3) (andI (dF h2) (andI (eqA_self _) (andI (eqH_self _) (andI (pdec_iff.2 ((((hS.2 h0).2 h2).2 h3).1 h4).2) (andI (dF h0) (rfl))))))))))) (by kernel_rfl) (Nat.le_of_ble_eq_true (by kernel_rfl)) (fun i hi => absurd hi (Nat.not_lt_zero _)) (fun i hi => absurd hi (Nat.not_lt_zero _))
        · skip
          exact ends_ofB KA_ok (cbytes_p0_7 code s) (andI (decide_eq_true ((((hS.2 h0).2 h2).2 h3).2 h4).1) (andI (dF h4) (andI (eqA_self _) (andI (eqH_self _) (andI (pdec_iff.2 ((((hS.2 h0).2 h2).2 h3).2 h4).2.1) (andI (dF h3) (andI (dF h2) (andI (eqA_self _) (andI (eqH_self _) (andI (pdec_iff.2 ((((hS.2 h0).2 h2).2 h3).2 h4).2.2) (andI (dF h0) (rfl)))))))))))) (by kernel_rfl) (Nat.le_of_ble_eq_true (by kernel_rfl)) (fun i hi => absurd hi (Nat.not_lt_zero _)) (fun i hi => absurd hi (Nat.not_lt_zero _))
theorem cbytes_call (code : Int) (s : ByteArray) (hS : cbytes_S0 code s) : CallOk E 11 ([Value.int IntKind.i64 code, Value.string s]) ([]) (cbytes_V code s (cbytes_t0 code s)) (cbytes_H code s (cbytes_t0 code s)) := callOk_of_ends (cbytes_ok0 code s hS) (by kernel_rfl) (Nat.le_of_ble_eq_true (by kernel_rfl))
def cbytes_ex (a : List Value) (h : Heap) : Int × ByteArray := ((toInt (a.getD 0 undef)), (toStr (a.getD 1 undef)))
noncomputable def cbytes_k : Ct := kP cbytes_ex (fun x => [Value.int IntKind.i64 x.1, Value.string x.2]) (fun x => []) (fun x => cbytes_S0 (x.1) (x.2)) (fun x => cbytes_V (x.1) (x.2) (cbytes_t0 (x.1) (x.2))) (fun x => cbytes_H (x.1) (x.2) (cbytes_t0 (x.1) (x.2)))
theorem cbytes_k_ok : KFor E 11 cbytes_k := kP_ok (fun x hx => cbytes_call (x.1) (x.2) hx)


end Go.Proofs.Ytnimmocgnimdiaa
