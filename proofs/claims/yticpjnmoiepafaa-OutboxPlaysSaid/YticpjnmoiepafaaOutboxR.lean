/-
  The reference's box: Count, drop, Put, Next: the ways.
-/
import Derived.Test.YticpjnmoiepafaaOutboxP
import Derived.Test.YticpjnmoiepafaaAmSlim
import Derived.Test.YticpjnmoiepafaaOutboxD
set_option linter.unusedVariables false
set_option linter.unusedSimpArgs false
open Go Go.Am
namespace Go.Proofs.Yticpjnmoiepafaa

noncomputable def E2 : Env := { E with symP := true }

noncomputable def rcount_b1 (mq : Int) (n : Nat) (L : List Value) (c : Bool) (e : Bool) (t : Bool) (k : Int) : Cfg := reCfg (cfgOf (goNil E noK 2000 15 (some []) [] [] [0, 1] [0, 1, 5, 6] [] [0, 1] [] (startC E 39 ([Value.pointer (some { block := 0, off := 0 }), Value.int IntKind.i64 k]) ([some (Ob.cells [Value.int IntKind.i64 mq, Value.slice (some { block := 1, off := 0 }) n 0, Value.bool c, Value.bool e, Value.bool t] 45 none), some (Ob.cells L 64 (some 3))])))) (tmL 5 [(0, Value.pointer (some { block := 0, off := 0 })), (1, Value.int IntKind.i64 k), (5, Value.int IntKind.i64 0), (6, Value.int IntKind.i64 0)]) [some (Ob.cells [Value.int IntKind.i64 mq, Value.slice (some { block := 1, off := 0 }) n 0, Value.bool c, Value.bool e, Value.bool t] 45 none), some (Ob.cells L 64 (some 3))]
noncomputable def rcount_h1 (mq : Int) (n : Nat) (L : List Value) (c : Bool) (e : Bool) (t : Bool) (k : Int) (t5 : Int) (t6 : Int) : Cfg := wTmp 6 (Value.int IntKind.i64 t6) (wTmp 5 (Value.int IntKind.i64 t5) (rcount_b1 mq n L c e t k))
theorem rcount_p0_0 (mq : Int) (n : Nat) (L : List Value) (c : Bool) (e : Bool) (t : Bool) (k : Int) : goNilB E noK 2000 15 (some []) [] [] [0, 1] [0, 1, 5, 6] [] [0, 1] [] (startC E 39 ([Value.pointer (some { block := 0, off := 0 }), Value.int IntKind.i64 k]) ([some (Ob.cells [Value.int IntKind.i64 mq, Value.slice (some { block := 1, off := 0 }) n 0, Value.bool c, Value.bool e, Value.bool t] 45 none), some (Ob.cells L 64 (some 3))])) = some (and (L.all flat) (true), rcount_h1 mq n L c e t k (0) (0)) := by kernel_rfl
theorem rcount_w0_0 (mq : Int) (n : Nat) (L : List Value) (c : Bool) (e : Bool) (t : Bool) (k : Int) (h0 : (L.all flat) = true) : Gets E 2 (startC E 39 ([Value.pointer (some { block := 0, off := 0 }), Value.int IntKind.i64 k]) ([some (Ob.cells [Value.int IntKind.i64 mq, Value.slice (some { block := 1, off := 0 }) n 0, Value.bool c, Value.bool e, Value.bool t] 45 none), some (Ob.cells L 64 (some 3))])) (rcount_h1 mq n L c e t k (0) (0)) := by
 exact reach_gb noK_ok (rcount_p0_0 mq n L c e t k) (andI (h0) (rfl)) (Nat.le_of_ble_eq_true (by kernel_rfl)) (by show ∀ i, i < 2 → _; first | decide | (decide)) (by show ∀ i, i < 2 → _; decide) (Nat.le_of_ble_eq_true (by kernel_rfl))
theorem rcount_p1_0 (mq : Int) (n : Nat) (L : List Value) (c : Bool) (e : Bool) (t : Bool) (k : Int) (t5 : Int) (t6 : Int) : goNilB E noK 2000 41 (some [true, true]) [] [] [0, 1] [0, 1, 5, 6] [] [0, 1] [] (rcount_h1 mq n L c e t k t5 t6) = some (and (L.all flat) (and ((toInt (L.getD (0 + t6.toNat * 3 + 0) undef) == k) == true) (and (decide (0 + t6.toNat * 3 + 0 < L.length)) (and (isInt IntKind.i64 (L.getD (0 + t6.toNat * 3 + 0) undef)) (and (decide (0 ≤ t6)) (and (decide (t6 < (↑n : Int))) (and ((decide (t6 < (↑n : Int))) == true) (true))))))), rcount_h1 mq n L c e t k (IntKind.i64.wrap (t5 + 1)) (IntKind.i64.wrap (t6 + 1))) := by kernel_rfl
theorem rcount_w1_0 (mq : Int) (n : Nat) (L : List Value) (c : Bool) (e : Bool) (t : Bool) (k : Int) (t5 : Int) (t6 : Int) (h0 : (L.all flat) = true) (h1 : (toInt (L.getD (0 + t6.toNat * 3 + 0) undef) == k) = true) (h2 : 0 + t6.toNat * 3 + 0 < L.length) (h3 : (isInt IntKind.i64 (L.getD (0 + t6.toNat * 3 + 0) undef)) = true) (h4 : 0 ≤ t6) (h5 : t6 < (↑n : Int)) (h6 : (decide (t6 < (↑n : Int))) = true) : Gets E 2 (rcount_h1 mq n L c e t k t5 t6) (rcount_h1 mq n L c e t k (IntKind.i64.wrap (t5 + 1)) (IntKind.i64.wrap (t6 + 1))) := by
 exact reach_gb noK_ok (rcount_p1_0 mq n L c e t k t5 t6) (andI (h0) (andI (dT h1) (andI (decide_eq_true h2) (andI (h3) (andI (decide_eq_true h4) (andI (decide_eq_true h5) (andI (dT h6) (rfl)))))))) (Nat.le_of_ble_eq_true (by kernel_rfl)) (by show ∀ i, i < 2 → _; first | decide | (decide)) (by show ∀ i, i < 2 → _; decide) (Nat.le_of_ble_eq_true (by kernel_rfl))
theorem rcount_p1_1 (mq : Int) (n : Nat) (L : List Value) (c : Bool) (e : Bool) (t : Bool) (k : Int) (t5 : Int) (t6 : Int) : goNilB E noK 2000 37 (some [true, false]) [] [] [0, 1] [0, 1, 5, 6] [] [0, 1] [] (rcount_h1 mq n L c e t k t5 t6) = some (and (L.all flat) (and ((toInt (L.getD (0 + t6.toNat * 3 + 0) undef) == k) == false) (and (decide (0 + t6.toNat * 3 + 0 < L.length)) (and (isInt IntKind.i64 (L.getD (0 + t6.toNat * 3 + 0) undef)) (and (decide (0 ≤ t6)) (and (decide (t6 < (↑n : Int))) (and ((decide (t6 < (↑n : Int))) == true) (true))))))), rcount_h1 mq n L c e t k t5 (IntKind.i64.wrap (t6 + 1))) := by kernel_rfl
theorem rcount_w1_1 (mq : Int) (n : Nat) (L : List Value) (c : Bool) (e : Bool) (t : Bool) (k : Int) (t5 : Int) (t6 : Int) (h0 : (L.all flat) = true) (h1 : (toInt (L.getD (0 + t6.toNat * 3 + 0) undef) == k) = false) (h2 : 0 + t6.toNat * 3 + 0 < L.length) (h3 : (isInt IntKind.i64 (L.getD (0 + t6.toNat * 3 + 0) undef)) = true) (h4 : 0 ≤ t6) (h5 : t6 < (↑n : Int)) (h6 : (decide (t6 < (↑n : Int))) = true) : Gets E 2 (rcount_h1 mq n L c e t k t5 t6) (rcount_h1 mq n L c e t k t5 (IntKind.i64.wrap (t6 + 1))) := by
 exact reach_gb noK_ok (rcount_p1_1 mq n L c e t k t5 t6) (andI (h0) (andI (dF h1) (andI (decide_eq_true h2) (andI (h3) (andI (decide_eq_true h4) (andI (decide_eq_true h5) (andI (dT h6) (rfl)))))))) (Nat.le_of_ble_eq_true (by kernel_rfl)) (by show ∀ i, i < 2 → _; first | decide | (decide)) (by show ∀ i, i < 2 → _; decide) (Nat.le_of_ble_eq_true (by kernel_rfl))
theorem rcount_p1_2 (mq : Int) (n : Nat) (L : List Value) (c : Bool) (e : Bool) (t : Bool) (k : Int) (t5 : Int) (t6 : Int) : goFinB E noK 2000 18 (some [false]) [0, 1] [4] [0, 1] (rcount_h1 mq n L c e t k t5 t6) = some (and (L.all flat) (and (L.all flat) (and ((decide (t6 < (↑n : Int))) == false) (true))), Value.int IntKind.i64 t5, [some (Ob.cells [Value.int IntKind.i64 mq, Value.slice (some { block := 1, off := 0 }) n 0, Value.bool c, Value.bool e, Value.bool t] 45 none), some (Ob.cells L 64 (some 3))]) := by kernel_rfl
theorem rcount_w1_2 (mq : Int) (n : Nat) (L : List Value) (c : Bool) (e : Bool) (t : Bool) (k : Int) (t5 : Int) (t6 : Int) (h0 : (L.all flat) = true) (h1 : (decide (t6 < (↑n : Int))) = false) : AEnds E 39 2 (rcount_h1 mq n L c e t k t5 t6) (Value.int IntKind.i64 t5) ([some (Ob.cells [Value.int IntKind.i64 mq, Value.slice (some { block := 1, off := 0 }) n 0, Value.bool c, Value.bool e, Value.bool t] 45 none), some (Ob.cells L 64 (some 3))]) := by
 exact ends_ofB noK_ok (rcount_p1_2 mq n L c e t k t5 t6) (andI (h0) (andI (h0) (andI (dF h1) (rfl)))) (by kernel_rfl) (Nat.le_of_ble_eq_true (by kernel_rfl)) (by show ∀ i, i < 2 → _; first | decide | (decide)) (by show ∀ i, i < 2 → _; first | decide | (decide))


abbrev rdrop_R : Type := Unit
def rdrop_V (n : Nat) (L : List Value) (i : Int) (r : Unit) : Value := Value.slice (some { block := 1, off := 0 }) (0 + (i.toNat - 0) + (n - (IntKind.i64.wrap (i + 1)).toNat)) 0
def rdrop_H (n : Nat) (L : List Value) (i : Int) (r : Unit) : Heap := [some (Ob.cells L 64 (some 3)), some (Ob.cells (List.take ((0 + (i.toNat - 0)) * 3) (List.drop 0 ([] ++ List.take ((i.toNat - 0) * 3) (List.drop 0 L))) ++ List.take ((n - (IntKind.i64.wrap (i + 1)).toNat) * 3) (List.drop (0 + (IntKind.i64.wrap (i + 1)).toNat * 3) L)) 64 (some 3))]
noncomputable def rdrop_Q (n : Nat) (L : List Value) (i : Int) (C : Cfg) (r : rdrop_R) : Prop :=
 let p := r
 AEnds E2 46 1 C (rdrop_V n L i p) (rdrop_H n L i p)
theorem rdrop_p0_0 (n : Nat) (L : List Value) (i : Int) : goFinB E2 noK 2000 6 (some []) [0, 3] [4] [0, 1] (startC E2 46 ([Value.slice (some { block := 0, off := 0 }) n 0, Value.int IntKind.i64 i]) ([some (Ob.cells L 64 (some 3))])) = some (and (L.all flat) (and ((List.take ((0 + (i.toNat - 0)) * 3) (List.drop 0 ([] ++ List.take ((i.toNat - 0) * 3) (List.drop 0 L))) ++ List.take ((n - (IntKind.i64.wrap (i + 1)).toNat) * 3) (List.drop (0 + (IntKind.i64.wrap (i + 1)).toNat * 3) L)).all flat) (and (L.all flat) (and ((List.take ((0 + (i.toNat - 0)) * 3) (List.drop 0 ([] ++ List.take ((i.toNat - 0) * 3) (List.drop 0 L))) ++ List.take ((n - (IntKind.i64.wrap (i + 1)).toNat) * 3) (List.drop (0 + (IntKind.i64.wrap (i + 1)).toNat * 3) L)).all flat) (and (n == n) (and (i == i) (and (i.toNat - 0 == i.toNat - 0) (and (decide (0 ≤ i)) (and (decide (i ≤ (↑n : Int))) (and (n == n) (and (n == n) (and (i == i) (and (i == i) (and (IntKind.i64.wrap (i + 1) == IntKind.i64.wrap (i + 1)) (and (IntKind.i64.wrap (i + 1) == IntKind.i64.wrap (i + 1)) (and (0 + (IntKind.i64.wrap (i + 1)).toNat * 3 == 0 + (IntKind.i64.wrap (i + 1)).toNat * 3) (and (n - (IntKind.i64.wrap (i + 1)).toNat == n - (IntKind.i64.wrap (i + 1)).toNat) (and (0 - (IntKind.i64.wrap (i + 1)).toNat == 0 - (IntKind.i64.wrap (i + 1)).toNat) (and (decide ((IntKind.i64.wrap (i + 1)).toNat ≤ n)) (and (decide (0 ≤ IntKind.i64.wrap (i + 1))) (and (0 + (IntKind.i64.wrap (i + 1)).toNat * 3 == 0 + (IntKind.i64.wrap (i + 1)).toNat * 3) (and (n - (IntKind.i64.wrap (i + 1)).toNat == n - (IntKind.i64.wrap (i + 1)).toNat) (and (0 - (IntKind.i64.wrap (i + 1)).toNat == 0 - (IntKind.i64.wrap (i + 1)).toNat) (and (decide ((IntKind.i64.wrap (i + 1)).toNat ≤ n)) (and (decide (0 ≤ IntKind.i64.wrap (i + 1))) (and ((List.take ((n - (IntKind.i64.wrap (i + 1)).toNat) * 3) (List.drop (0 + (IntKind.i64.wrap (i + 1)).toNat * 3) L)).all one) (and (decide (0 + (IntKind.i64.wrap (i + 1)).toNat * 3 + (n - (IntKind.i64.wrap (i + 1)).toNat) * 3 ≤ L.length)) (and (decide (0 + (0 + (i.toNat - 0)) * 3 ≤ ([] ++ List.take ((i.toNat - 0) * 3) (List.drop 0 L)).length)) (and (decide ((0 + (i.toNat - 0) + (n - (IntKind.i64.wrap (i + 1)).toNat)) * 32 ≤ 140737488355328)) (and (decide (0 + (i.toNat - 0) + (n - (IntKind.i64.wrap (i + 1)).toNat) ≤ 9223372036854775807)) (and (decide ((IntKind.i64.wrap (i + 1)).toNat ≤ n)) (and (decide (0 ≤ IntKind.i64.wrap (i + 1))) (and ((List.take ((i.toNat - 0) * 3) (List.drop 0 L)).all one) (and (decide (0 + (i.toNat - 0) * 3 ≤ L.length)) (and (decide ((0 + (i.toNat - 0)) * 32 ≤ 140737488355328)) (and (decide (0 + (i.toNat - 0) ≤ 9223372036854775807)) (and (decide (0 ≤ i)) (and (decide (i ≤ (↑n : Int))) (true)))))))))))))))))))))))))))))))))))))), Value.slice (some { block := 1, off := 0 }) (0 + (i.toNat - 0) + (n - (IntKind.i64.wrap (i + 1)).toNat)) 0, [some (Ob.cells L 64 (some 3)), some (Ob.cells (List.take ((0 + (i.toNat - 0)) * 3) (List.drop 0 ([] ++ List.take ((i.toNat - 0) * 3) (List.drop 0 L))) ++ List.take ((n - (IntKind.i64.wrap (i + 1)).toNat) * 3) (List.drop (0 + (IntKind.i64.wrap (i + 1)).toNat * 3) L)) 64 (some 3))]) := by kernel_rfl
noncomputable def rdrop_t0 (n : Nat) (L : List Value) (i : Int) : rdrop_R :=
 ()
def rdrop_S0 (n : Nat) (L : List Value) (i : Int) : Prop :=
 ((L.all flat) = true) ∧ (((List.take ((0 + (i.toNat - 0)) * 3) (List.drop 0 ([] ++ List.take ((i.toNat - 0) * 3) (List.drop 0 L))) ++ List.take ((n - (IntKind.i64.wrap (i + 1)).toNat) * 3) (List.drop (0 + (IntKind.i64.wrap (i + 1)).toNat * 3) L)).all flat) = true) ∧ ((n == n) = true) ∧ ((i.toNat - 0 == i.toNat - 0) = true) ∧ (0 ≤ i) ∧ (i ≤ (↑n : Int)) ∧ ((0 + (IntKind.i64.wrap (i + 1)).toNat * 3 == 0 + (IntKind.i64.wrap (i + 1)).toNat * 3) = true) ∧ ((n - (IntKind.i64.wrap (i + 1)).toNat == n - (IntKind.i64.wrap (i + 1)).toNat) = true) ∧ ((0 - (IntKind.i64.wrap (i + 1)).toNat == 0 - (IntKind.i64.wrap (i + 1)).toNat) = true) ∧ ((IntKind.i64.wrap (i + 1)).toNat ≤ n) ∧ (0 ≤ IntKind.i64.wrap (i + 1)) ∧ (((List.take ((n - (IntKind.i64.wrap (i + 1)).toNat) * 3) (List.drop (0 + (IntKind.i64.wrap (i + 1)).toNat * 3) L)).all one) = true) ∧ (0 + (IntKind.i64.wrap (i + 1)).toNat * 3 + (n - (IntKind.i64.wrap (i + 1)).toNat) * 3 ≤ L.length) ∧ (0 + (0 + (i.toNat - 0)) * 3 ≤ ([] ++ List.take ((i.toNat - 0) * 3) (List.drop 0 L)).length) ∧ ((0 + (i.toNat - 0) + (n - (IntKind.i64.wrap (i + 1)).toNat)) * 32 ≤ 140737488355328) ∧ (0 + (i.toNat - 0) + (n - (IntKind.i64.wrap (i + 1)).toNat) ≤ 9223372036854775807) ∧ (((List.take ((i.toNat - 0) * 3) (List.drop 0 L)).all one) = true) ∧ (0 + (i.toNat - 0) * 3 ≤ L.length) ∧ ((0 + (i.toNat - 0)) * 32 ≤ 140737488355328) ∧ (0 + (i.toNat - 0) ≤ 9223372036854775807)
theorem rdrop_ok0 (n : Nat) (L : List Value) (i : Int) (hS : rdrop_S0 n L i) : rdrop_Q n L i (startC E2 46 ([Value.slice (some { block := 0, off := 0 }) n 0, Value.int IntKind.i64 i]) ([some (Ob.cells L 64 (some 3))])) (rdrop_t0 n L i) := by
 unfold rdrop_S0 at hS
 unfold rdrop_t0
 exact ends_ofB noK_ok (rdrop_p0_0 n L i) (andI (hS.1) (andI (hS.2.1) (andI (hS.1) (andI (hS.2.1) (andI (hS.2.2.1) (andI (beq_self_eq_true _) (andI (hS.2.2.2.1) (andI (decide_eq_true hS.2.2.2.2.1) (andI (decide_eq_true hS.2.2.2.2.2.1) (andI (hS.2.2.1) (andI (hS.2.2.1) (andI (beq_self_eq_true _) (andI (beq_self_eq_true _) (andI (beq_self_eq_true _) (andI (beq_self_eq_true _) (andI (hS.2.2.2.2.2.2.1) (andI (hS.2.2.2.2.2.2.2.1) (andI (hS.2.2.2.2.2.2.2.2.1) (andI (decide_eq_true hS.2.2.2.2.2.2.2.2.2.1) (andI (decide_eq_true hS.2.2.2.2.2.2.2.2.2.2.1) (andI (hS.2.2.2.2.2.2.1) (andI (hS.2.2.2.2.2.2.2.1) (andI (hS.2.2.2.2.2.2.2.2.1) (andI (decide_eq_true hS.2.2.2.2.2.2.2.2.2.1) (andI (decide_eq_true hS.2.2.2.2.2.2.2.2.2.2.1) (andI (hS.2.2.2.2.2.2.2.2.2.2.2.1) (andI (decide_eq_true hS.2.2.2.2.2.2.2.2.2.2.2.2.1) (andI (decide_eq_true hS.2.2.2.2.2.2.2.2.2.2.2.2.2.1) (andI (decide_eq_true hS.2.2.2.2.2.2.2.2.2.2.2.2.2.2.1) (andI (decide_eq_true hS.2.2.2.2.2.2.2.2.2.2.2.2.2.2.2.1) (andI (decide_eq_true hS.2.2.2.2.2.2.2.2.2.1) (andI (decide_eq_true hS.2.2.2.2.2.2.2.2.2.2.1) (andI (hS.2.2.2.2.2.2.2.2.2.2.2.2.2.2.2.2.1) (andI (decide_eq_true hS.2.2.2.2.2.2.2.2.2.2.2.2.2.2.2.2.2.1) (andI (decide_eq_true hS.2.2.2.2.2.2.2.2.2.2.2.2.2.2.2.2.2.2.1) (andI (decide_eq_true hS.2.2.2.2.2.2.2.2.2.2.2.2.2.2.2.2.2.2.2) (andI (decide_eq_true hS.2.2.2.2.1) (andI (decide_eq_true hS.2.2.2.2.2.1) (rfl))))))))))))))))))))))))))))))))))))))) (by kernel_rfl) (Nat.le_of_ble_eq_true (by kernel_rfl)) (by show ∀ i, i < 1 → _; first | decide | (decide)) (by show ∀ i, i < 1 → _; first | decide | (decide))
theorem rdrop_call (n : Nat) (L : List Value) (i : Int) (hS : rdrop_S0 n L i) : CallOk E2 46 ([Value.slice (some { block := 0, off := 0 }) n 0, Value.int IntKind.i64 i]) ([some (Ob.cells L 64 (some 3))]) (rdrop_V n L i (rdrop_t0 n L i)) (rdrop_H n L i (rdrop_t0 n L i)) := callOk_of_ends (rdrop_ok0 n L i hS) (by kernel_rfl) (Nat.le_of_ble_eq_true (by kernel_rfl))
end Go.Proofs.Yticpjnmoiepafaa

/-
  The reference's box: count, drop: contracts.
-/
set_option linter.unusedVariables false
set_option linter.unusedSimpArgs false
open Go Go.Am
namespace Go.Proofs.Yticpjnmoiepafaa

def prs (n : Nat) (L : List Value) : List mT := (List.range n).map fun i => (toInt (L.getD (0 + i * 3 + 0) undef), toInt (L.getD (0 + i * 3 + 1) undef), toStr (L.getD (0 + i * 3 + 2) undef))
theorem prs_mQ (l : List mT) : prs l.length (mQ l).flatten = l := by
 unfold prs
 apply List.ext_getElem
 ·simp
 ·intro i h1 h2
  rw [List.getElem_map, List.getElem_range]
  obtain ⟨g0, g1, g2⟩ := mQ_getD (l := l) (i := i) (x := l[i]) (by simp)
  rw [g0, g1, g2]
  rfl
structure IsL (n : Nat) (L : List Value) (l : List mT) : Prop where
 n : n = l.length
 L : L = (mQ l).flatten
 m : l.length ≤ 100000
theorem IsL.prs {n : Nat} {L : List Value} {l : List mT} (h : IsL n L l) : prs n L = l := by rw [h.n, h.L, prs_mQ]
theorem IsL.flat {n : Nat} {L : List Value} {l : List mT} (h : IsL n L l) : L.all flat = true := by rw [h.L]; exact mQ_flat l
theorem IsL.len {n : Nat} {L : List Value} {l : List mT} (h : IsL n L l) : L.length = n * 3 := by rw [h.L, h.n]; exact mQ_flen l
theorem IsL.get {n : Nat} {L : List Value} {l : List mT} (h : IsL n L l) {i : Nat} {x : mT} (hx : l[i]? = some x) : L.getD (0 + i * 3 + 0) undef = .int .i64 x.1 ∧ L.getD (0 + i * 3 + 1) undef = .int .i64 x.2.1 ∧ L.getD (0 + i * 3 + 2) undef = .string x.2.2 := by
 rw [h.L]; exact mQ_getD hx
def cnt (k : Int) (l : List mT) : Nat := (l.filter fun x => x.1 == k).length
theorem cnt_le (k : Int) (l : List mT) : cnt k l ≤ l.length := List.length_filter_le _ _
theorem count_run {n : Nat} {L : List Value} {l : List mT} (h : IsL n L l) (mq : Int) (c e t : Bool) (k : Int) : ∀ m i, i + m = l.length →
  AEnds E 39 2 (rcount_h1 mq n L c e t k (cnt k (l.take i)) i) (.int .i64 (cnt k l)) [some (.cells [.int .i64 mq, .slice (some ⟨1, 0, none⟩) n 0, .bool c, .bool e, .bool t] 45 none), some (.cells L 64 (some 3))]
 | 0, i, hi => by
  have hn := h.n
  rw [List.take_of_length_le (by omega)]
  exact rcount_w1_2 mq n L c e t k _ i h.flat (decide_eq_false (by omega))
 | m + 1, i, hi => by
  have hn := h.n
  have hm := h.m
  have hlen := h.len
  obtain ⟨x, hx⟩ : ∃ x, l[i]? = some x := ⟨l[i]'(by omega), List.getElem?_eq_getElem (by omega)⟩
  obtain ⟨g0, _, _⟩ := h.get hx
  have ih := count_run h mq c e t k m (i + 1) (by omega)
  have htk : l.take (i + 1) = l.take i ++ [x] := by rw [List.take_add_one, hx]; rfl
  have hc := cnt_le k (l.take i)
  rw [List.length_take] at hc
  have e1 : IntKind.i64.wrap ((i : Int) + 1) = ((i + 1 : Nat) : Int) := by rw [wrap64_in (by omega) (by omega)]; omega
  by_cases hk : x.1 = k
  ·have w := rcount_w1_0 mq n L c e t k (cnt k (l.take i)) i
   rw [Int.toNat_natCast, g0, e1, show IntKind.i64.wrap ((cnt k (l.take i) : Int) + 1) = ((cnt k (l.take i) + 1 : Nat) : Int) by rw [wrap64_in (by omega) (by omega)]; omega] at w
   have hcc : cnt k (l.take (i + 1)) = cnt k (l.take i) + 1 := by rw [htk]; unfold cnt; rw [List.filter_append, List.length_append]; simp [hk]
   rw [hcc] at ih
   exact (w h.flat (by simp [toInt, hk]) (by omega) rfl (by omega) (by omega) (decide_eq_true (by omega))).ends ih
  ·have w := rcount_w1_1 mq n L c e t k (cnt k (l.take i)) i
   rw [Int.toNat_natCast, g0, e1] at w
   have hcc : cnt k (l.take (i + 1)) = cnt k (l.take i) := by rw [htk]; unfold cnt; rw [List.filter_append, List.length_append]; simp [hk]
   rw [hcc] at ih
   exact (w h.flat (by simp [toInt, hk]) (by omega) rfl (by omega) (by omega) (decide_eq_true (by omega))).ends ih

def rcountc_pre (mq : Int) (n : Nat) (L : List Value) (c e t : Bool) (k : Int) : Prop := ∃ l, IsL n L l
def rcountc_v (mq : Int) (n : Nat) (L : List Value) (c e t : Bool) (k : Int) : Value := .int .i64 (cnt k (prs n L))
def rcountc_h (mq : Int) (n : Nat) (L : List Value) (c e t : Bool) (k : Int) : Heap := [some (.cells [.int .i64 mq, .slice (some ⟨1, 0, none⟩) n 0, .bool c, .bool e, .bool t] 45 none), some (.cells L 64 (some 3))]
theorem rcountc_call (mq : Int) (n : Nat) (L : List Value) (c e t : Bool) (k : Int) (h : rcountc_pre mq n L c e t k) :
  CallOk E 39 [.pointer (some ⟨0, 0, none⟩), .int .i64 k] [some (.cells [.int .i64 mq, .slice (some ⟨1, 0, none⟩) n 0, .bool c, .bool e, .bool t] 45 none), some (.cells L 64 (some 3))] (rcountc_v mq n L c e t k) (rcountc_h mq n L c e t k) := by
 obtain ⟨l, hl⟩ := h
 refine callOk_of_ends ?_ (by kernel_rfl) (Nat.le_of_ble_eq_true (by kernel_rfl))
 unfold rcountc_v
 rw [hl.prs]
 exact (rcount_w0_0 mq n L c e t k hl.flat).ends (count_run hl mq c e t k l.length 0 (by omega))

def rcountc_ex (a : List Value) (h : Heap) : Int × Nat × List Value × Bool × Bool × Bool × Int := ((toInt ((cellsOf h 0).getD 0 undef)), (sliceLen ((cellsOf h 0).getD 1 undef)), (cellsOf h 1), (toBool ((cellsOf h 0).getD 2 undef)), (toBool ((cellsOf h 0).getD 3 undef)), (toBool ((cellsOf h 0).getD 4 undef)), (toInt (a.getD 1 undef)))
noncomputable def rcountc_k : Ct := kS rcountc_ex [.ptr 0 0, .int .i64] [.cells [.int .i64, .sl 1 (some 0) (some 0), .bool, .bool, .bool] 45 none, .any 64 (some 3)] (fun x => rcountc_pre (x.1) (x.2.1) (x.2.2.1) (x.2.2.2.1) (x.2.2.2.2.1) (x.2.2.2.2.2.1) (x.2.2.2.2.2.2)) (fun x => rcountc_v (x.1) (x.2.1) (x.2.2.1) (x.2.2.2.1) (x.2.2.2.2.1) (x.2.2.2.2.2.1) (x.2.2.2.2.2.2)) (fun x => rcountc_h (x.1) (x.2.1) (x.2.2.1) (x.2.2.2.1) (x.2.2.2.2.1) (x.2.2.2.2.2.1) (x.2.2.2.2.2.2))
theorem rcountc_k_ok : KFor E 39 rcountc_k := kS_ok (fun x hx => rcountc_call (x.1) (x.2.1) (x.2.2.1) (x.2.2.2.1) (x.2.2.2.2.1) (x.2.2.2.2.2.1) (x.2.2.2.2.2.2) hx) (fun _ _ => rfl) (fun _ _ => rfl)


theorem drop_flat3 : ∀ (k : Nat) (l : List mT), (mQ l).flatten.drop (k * 3) = (mQ (l.drop k)).flatten
 | 0, l => by simp
 | k + 1, [] => by simp [mQ]
 | k + 1, x :: l => by
  rw [show (mQ (x :: l)).flatten = mC x ++ (mQ l).flatten from rfl, List.drop_succ_cons, ← drop_flat3 k l, List.drop_append, List.drop_of_length_le (by show 3 ≤ _; omega), List.nil_append, show (k + 1) * 3 - (mC x).length = k * 3 by show (k + 1) * 3 - 3 = _; omega]
theorem take_flat3 (k : Nat) (l : List mT) : (mQ l).flatten.take (k * 3) = (mQ (l.take k)).flatten := by
 rw [take_flat (w := 3) (fun e he => mEl.len e (mQ_E l e he)), mQ_take]
theorem mQ_app2 (a b : List mT) : (mQ a).flatten ++ (mQ b).flatten = (mQ (a ++ b)).flatten := by simp [mQ]
theorem mQ_one (l : List mT) : (mQ l).flatten.all one = true := by
 simp [mQ, mC, one, List.all_flatten]
def rdropc_pre (n : Nat) (L : List Value) (i : Int) : Prop := ∃ l j, IsL n L l ∧ i = ((j : Nat) : Int) ∧ j < l.length
def rdropc_v (n : Nat) (L : List Value) (i : Int) : Value := .slice (some ⟨1, 0, none⟩) ((prs n L).eraseIdx i.toNat).length 0
def rdropc_h (n : Nat) (L : List Value) (i : Int) : Heap := [some (.cells L 64 (some 3)), some (.cells (mQ ((prs n L).eraseIdx i.toNat)).flatten 64 (some 3))]
theorem rdropc_call (n : Nat) (L : List Value) (i : Int) (h : rdropc_pre n L i) : CallOk E2 46 [.slice (some ⟨0, 0, none⟩) n 0, .int .i64 i] [some (.cells L 64 (some 3))] (rdropc_v n L i) (rdropc_h n L i) := by
 obtain ⟨l, j, hl, rfl, hj⟩ := h
 have hm := hl.m
 have hn := hl.n
 have hlen := hl.len
 have e1 : (IntKind.i64.wrap (((j : Nat) : Int) + 1)).toNat = j + 1 := by rw [wrap64_in (by omega) (by omega)]; omega
 have e2 : IntKind.i64.wrap (((j : Nat) : Int) + 1) = ((j + 1 : Nat) : Int) := by rw [wrap64_in (by omega) (by omega)]; omega
 have t1 : List.take ((((j : Nat) : Int).toNat - 0) * 3) (List.drop 0 L) = (mQ (l.take j)).flatten := by
  rw [Int.toNat_natCast, Nat.sub_zero, List.drop_zero, hl.L, take_flat3]
 have t2 : List.take ((n - (j + 1)) * 3) (List.drop (0 + (j + 1) * 3) L) = (mQ (l.drop (j + 1))).flatten := by
  rw [Nat.zero_add, hl.L, drop_flat3, List.take_of_length_le (by rw [mQ_flen, List.length_drop]; omega)]
 have t3 : List.take ((0 + (((j : Nat) : Int).toNat - 0)) * 3) (List.drop 0 ([] ++ (mQ (l.take j)).flatten)) = (mQ (l.take j)).flatten := by
  rw [Int.toNat_natCast, List.nil_append, List.drop_zero, List.take_of_length_le (by rw [mQ_flen, List.length_take]; omega)]
 have hS : rdrop_S0 n L ((j : Nat) : Int) := by
  unfold rdrop_S0
  rw [e1, t1, t2, t3, e2]
  refine ⟨hl.flat, by rw [mQ_app2]; exact mQ_flat _, by simp, by simp, by omega, by omega, by simp, by simp, by simp, by omega, by omega, mQ_one _, by omega, by rw [List.nil_append, mQ_flen, List.length_take]; omega, by omega, by omega, mQ_one _, by omega, by omega, by omega⟩
 have k := rdrop_call n L ((j : Nat) : Int) hS
 unfold rdrop_V rdrop_H at k
 rw [e1, t1, t2, t3, mQ_app2] at k
 unfold rdropc_v rdropc_h
 rw [hl.prs, Int.toNat_natCast, List.eraseIdx_eq_take_drop_succ]
 have e3 : 0 + (((j : Nat) : Int).toNat - 0) + (n - (j + 1)) = (l.take j ++ l.drop (j + 1)).length := by
  rw [List.length_append, List.length_take, List.length_drop]; omega
 rw [e3] at k
 exact k

def rdropc_ex (a : List Value) (h : Heap) : Nat × List Value × Int := ((sliceLen (a.getD 0 undef)), (cellsOf h 0), (toInt (a.getD 1 undef)))
noncomputable def rdropc_k : Ct := kS rdropc_ex [.sl 0 (some 0) (some 0), .int .i64] [.any 64 (some 3)] (fun x => rdropc_pre (x.1) (x.2.1) (x.2.2)) (fun x => rdropc_v (x.1) (x.2.1) (x.2.2)) (fun x => rdropc_h (x.1) (x.2.1) (x.2.2))
theorem rdropc_k_ok : KFor E2 46 rdropc_k := kS_ok (fun x hx => rdropc_call (x.1) (x.2.1) (x.2.2) hx) (fun _ _ => rfl) (fun _ _ => rfl)


end Go.Proofs.Yticpjnmoiepafaa
