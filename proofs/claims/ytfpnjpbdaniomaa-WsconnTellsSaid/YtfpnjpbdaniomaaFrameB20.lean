/-
  Masks, numbers, as plain functions.
-/
import Derived.Test.YtfpnjpbdaniomaaEnv
import Derived.Test.YtfpnjpbdaniomaaAmSlim
set_option linter.unusedVariables false
set_option linter.unusedSimpArgs false
open Go Go.Am
namespace Go.Proofs.Ytfpnjpbdaniomaa

noncomputable def big_b1 (s : ByteArray) : Cfg := cfgOf (goNil E noK 2000 13 (some []) [] [] [] [0, 2, 5, 6] [] [] [] (startC E 78 ([Value.string s]) ([])))
noncomputable def big_h1 (s : ByteArray) (t2 : Int) (t6 : Int) : Cfg := wTmp 6 (Value.int IntKind.i64 t6) (wTmp 2 (Value.int IntKind.u64 t2) (big_b1 s))
abbrev big_R : Type := (Int × Int) ⊕ (Int)
def big_V (s : ByteArray) (r : Int) : Value := Value.int IntKind.u64 r
def big_H (s : ByteArray) (r : Int) : Heap := []
noncomputable def big_Q (s : ByteArray) (C : Cfg) (r : big_R) : Prop :=
 match r with
 | .inl (p) => Gets E 0 C (big_h1 s (p.1) (p.2))
 | .inr (p) => AEnds E 78 0 C (big_V s p) (big_H s p)
theorem big_go1 {s : ByteArray} {C : Cfg} {t2 : Int} {t6 : Int} (h : big_Q s C (.inl ((t2, t6)))) : Gets E 0 C (big_h1 s t2 t6) := h
theorem big_end {s : ByteArray} {C : Cfg} {r : Int} (h : big_Q s C (.inr (r))) : AEnds E 78 0 C (big_V s r) (big_H s r) := h
theorem big_p0_0 (s : ByteArray) : goNilB E noK 2000 13 (some []) [] [] [] [0, 2, 5, 6] [] [] [] (startC E 78 ([Value.string s]) ([])) = some (true, big_h1 s (0) (0)) := by kernel_rfl
noncomputable def big_t0 (s : ByteArray) : big_R :=
 .inl ((0, 0))
def big_S0 (s : ByteArray) : Prop :=
 True
theorem big_ok0 (s : ByteArray) (hS : big_S0 s) : big_Q s (startC E 78 ([Value.string s]) ([])) (big_t0 s) := by
 unfold big_S0 at hS
 unfold big_t0
 show Gets E 0 _ (big_h1 s (0) (0))
 exact reach_gb noK_ok (big_p0_0 s) (rfl) (Nat.le_of_ble_eq_true (by kernel_rfl)) (fun i hi => absurd hi (Nat.not_lt_zero _)) (fun i hi => absurd hi (Nat.not_lt_zero _)) (Nat.le_of_ble_eq_true (by kernel_rfl))
theorem big_p1_0 (s : ByteArray) (t2 : Int) (t6 : Int) : goNilB E noK 2000 30 (some [true]) [] [] [] [0, 2, 5, 6] [] [] [] (big_h1 s t2 t6) = some (and (decide (0 ≤ t6)) (and (decide (t6 < (↑(slen s) : Int))) (and ((decide (t6 < (↑(slen s) : Int))) == true) (true))), big_h1 s (ior IntKind.u64 (ishl IntKind.u64 t2 8) (IntKind.u64.wrap (chr s t6.toNat))) (IntKind.i64.wrap (t6 + 1))) := by kernel_rfl
theorem big_p1_1 (s : ByteArray) (t2 : Int) (t6 : Int) : goFinB E noK 2000 12 (some [false]) [] [2] [] (big_h1 s t2 t6) = some (and ((decide (t6 < (↑(slen s) : Int))) == false) (true), Value.int IntKind.u64 t2, []) := by kernel_rfl
noncomputable def big_t1 (s : ByteArray) (t2 : Int) (t6 : Int) : big_R :=
 bif decide (t6 < (↑(slen s) : Int)) then .inl ((ior IntKind.u64 (ishl IntKind.u64 t2 8) (IntKind.u64.wrap (chr s t6.toNat)), IntKind.i64.wrap (t6 + 1)))
 else .inr (t2)
def big_S1 (s : ByteArray) (t2 : Int) (t6 : Int) : Prop :=
 ((decide (t6 < (↑(slen s) : Int))) = true → (0 ≤ t6) ∧ (t6 < (↑(slen s) : Int))) ∧
 ((decide (t6 < (↑(slen s) : Int))) = false → True)
theorem big_ok1 (s : ByteArray) (t2 : Int) (t6 : Int) (hS : big_S1 s t2 t6) : big_Q s (big_h1 s t2 t6) (big_t1 s t2 t6) := by
 unfold big_S1 at hS
 unfold big_t1
 refine cond_intro (P := big_Q s (big_h1 s t2 t6)) _ (fun h0 => ?_) (fun h0 => ?_)
 ·skip
  show Gets E 0 _ (big_h1 s (ior IntKind.u64 (ishl IntKind.u64 t2 8) (IntKind.u64.wrap (chr s t6.toNat))) (IntKind.i64.wrap (t6 + 1)))
  exact reach_gb noK_ok (big_p1_0 s t2 t6) (andI (decide_eq_true (hS.1 h0).1) (andI (decide_eq_true (hS.1 h0).2) (andI (dT h0) (rfl)))) (Nat.le_of_ble_eq_true (by kernel_rfl)) (fun i hi => absurd hi (Nat.not_lt_zero _)) (fun i hi => absurd hi (Nat.not_lt_zero _)) (Nat.le_of_ble_eq_true (by kernel_rfl))
 ·skip
  exact ends_ofB noK_ok (big_p1_1 s t2 t6) (andI (dF h0) (rfl)) (by kernel_rfl) (Nat.le_of_ble_eq_true (by kernel_rfl)) (fun i hi => absurd hi (Nat.not_lt_zero _)) (fun i hi => absurd hi (Nat.not_lt_zero _))


noncomputable def mask_b1 (k0 : Int) (k1 : Int) (k2 : Int) (k3 : Int) (at' : Int) (s : ByteArray) : Cfg := cfgOf (goNil E noK 2000 28 (some [false]) [] [] [0, 1] [1, 3, 7, 15, 16] [] [] [] (startC E 75 ([Value.agg #[Value.int IntKind.u8 k0, Value.int IntKind.u8 k1, Value.int IntKind.u8 k2, Value.int IntKind.u8 k3], Value.int IntKind.i64 at', Value.string s]) ([])))
noncomputable def mask_h1 (k0 : Int) (k1 : Int) (k2 : Int) (k3 : Int) (at' : Int) (s : ByteArray) (t16 : Int) (l1 : List Value) : Cfg := wCells 1 l1 (wTmp 16 (Value.int IntKind.i64 t16) (mask_b1 k0 k1 k2 k3 at' s))
abbrev mask_R : Type := (Int × List Value) ⊕ (ByteArray)
def mask_V (k0 : Int) (k1 : Int) (k2 : Int) (k3 : Int) (at' : Int) (s : ByteArray) (r : ByteArray) : Value := Value.string r
def mask_H (k0 : Int) (k1 : Int) (k2 : Int) (k3 : Int) (at' : Int) (s : ByteArray) (r : ByteArray) : Heap := []
noncomputable def mask_Q (k0 : Int) (k1 : Int) (k2 : Int) (k3 : Int) (at' : Int) (s : ByteArray) (C : Cfg) (r : mask_R) : Prop :=
 match r with
 | .inl (p) => Gets E 0 C (mask_h1 k0 k1 k2 k3 at' s (p.1) (p.2))
 | .inr (p) => AEnds E 75 0 C (mask_V k0 k1 k2 k3 at' s p) (mask_H k0 k1 k2 k3 at' s p)
theorem mask_go1 {k0 : Int} {k1 : Int} {k2 : Int} {k3 : Int} {at' : Int} {s : ByteArray} {C : Cfg} {t16 : Int} {l1 : List Value} (h : mask_Q k0 k1 k2 k3 at' s C (.inl ((t16, l1)))) : Gets E 0 C (mask_h1 k0 k1 k2 k3 at' s t16 l1) := h
theorem mask_end {k0 : Int} {k1 : Int} {k2 : Int} {k3 : Int} {at' : Int} {s : ByteArray} {C : Cfg} {r : ByteArray} (h : mask_Q k0 k1 k2 k3 at' s C (.inr (r))) : AEnds E 75 0 C (mask_V k0 k1 k2 k3 at' s r) (mask_H k0 k1 k2 k3 at' s r) := h
theorem mask_p0_0 (k0 : Int) (k1 : Int) (k2 : Int) (k3 : Int) (at' : Int) (s : ByteArray) : goFinB E noK 2000 17 (some [true]) [] [6] [] (startC E 75 ([Value.agg #[Value.int IntKind.u8 k0, Value.int IntKind.u8 k1, Value.int IntKind.u8 k2, Value.int IntKind.u8 k3], Value.int IntKind.i64 at', Value.string s]) ([])) = some (and ((decide (at' < 0)) == true) (true), Value.string s, []) := by kernel_rfl
theorem mask_p0_1 (k0 : Int) (k1 : Int) (k2 : Int) (k3 : Int) (at' : Int) (s : ByteArray) : goNilB E noK 2000 28 (some [false]) [] [] [0, 1] [1, 3, 7, 15, 16] [] [] [] (startC E 75 ([Value.agg #[Value.int IntKind.u8 k0, Value.int IntKind.u8 k1, Value.int IntKind.u8 k2, Value.int IntKind.u8 k3], Value.int IntKind.i64 at', Value.string s]) ([])) = some (and ((ofBytes s).all flat) (and (decide (slen s ≤ 9223372036854775807)) (and ((decide (at' < 0)) == false) (true))), mask_h1 k0 k1 k2 k3 at' s (0) (ofBytes s)) := by kernel_rfl
noncomputable def mask_t0 (k0 : Int) (k1 : Int) (k2 : Int) (k3 : Int) (at' : Int) (s : ByteArray) : mask_R :=
 bif decide (at' < 0) then .inr (s)
 else .inl ((0, ofBytes s))
def mask_S0 (k0 : Int) (k1 : Int) (k2 : Int) (k3 : Int) (at' : Int) (s : ByteArray) : Prop :=
 ((decide (at' < 0)) = true → True) ∧
 ((decide (at' < 0)) = false → (((ofBytes s).all flat) = true) ∧ (slen s ≤ 9223372036854775807))
theorem mask_ok0 (k0 : Int) (k1 : Int) (k2 : Int) (k3 : Int) (at' : Int) (s : ByteArray) (hS : mask_S0 k0 k1 k2 k3 at' s) : mask_Q k0 k1 k2 k3 at' s (startC E 75 ([Value.agg #[Value.int IntKind.u8 k0, Value.int IntKind.u8 k1, Value.int IntKind.u8 k2, Value.int IntKind.u8 k3], Value.int IntKind.i64 at', Value.string s]) ([])) (mask_t0 k0 k1 k2 k3 at' s) := by
 unfold mask_S0 at hS
 unfold mask_t0
 refine cond_intro (P := mask_Q k0 k1 k2 k3 at' s (startC E 75 ([Value.agg #[Value.int IntKind.u8 k0, Value.int IntKind.u8 k1, Value.int IntKind.u8 k2, Value.int IntKind.u8 k3], Value.int IntKind.i64 at', Value.string s]) ([]))) _ (fun h0 => ?_) (fun h0 => ?_)
 ·skip
  exact ends_ofB noK_ok (mask_p0_0 k0 k1 k2 k3 at' s) (andI (dT h0) (rfl)) (by kernel_rfl) (Nat.le_of_ble_eq_true (by kernel_rfl)) (fun i hi => absurd hi (Nat.not_lt_zero _)) (fun i hi => absurd hi (Nat.not_lt_zero _))
 ·skip
  show Gets E 0 _ (mask_h1 k0 k1 k2 k3 at' s (0) (ofBytes s))
  exact reach_gb noK_ok (mask_p0_1 k0 k1 k2 k3 at' s) (andI ((hS.2 h0).1) (andI (decide_eq_true (hS.2 h0).2) (andI (dF h0) (rfl)))) (Nat.le_of_ble_eq_true (by kernel_rfl)) (fun i hi => absurd hi (Nat.not_lt_zero _)) (fun i hi => absurd hi (Nat.not_lt_zero _)) (Nat.le_of_ble_eq_true (by kernel_rfl))
theorem mask_p1_0 (k0 : Int) (k1 : Int) (k2 : Int) (k3 : Int) (at' : Int) (s : ByteArray) (t16 : Int) (l1 : List Value) : goNilB E noK 2000 21 (some [true]) [] [] [0, 1] [1, 3, 7, 15, 16] [] [] [] (mask_h1 k0 k1 k2 k3 at' s t16 l1) = some (and ((setN l1 (0 + t16.toNat * 1) [Value.int IntKind.u8 (ixor IntKind.u8 (toInt (l1.getD (0 + t16.toNat * 1) undef)) (toInt ([Value.int IntKind.u8 k0, Value.int IntKind.u8 k1, Value.int IntKind.u8 k2, Value.int IntKind.u8 k3].getD (0 + ((IntKind.i64.wrap (at'.tmod 4 + t16)).tmod 4).toNat * 1) undef)))]).all flat) (and (decide (0 + t16.toNat * 1 + 1 ≤ l1.length)) (and (decide (0 ≤ t16)) (and (decide (t16 < (↑(slen s) : Int))) (and (decide (0 + ((IntKind.i64.wrap (at'.tmod 4 + t16)).tmod 4).toNat * 1 < 4)) (and (isInt IntKind.u8 ([Value.int IntKind.u8 k0, Value.int IntKind.u8 k1, Value.int IntKind.u8 k2, Value.int IntKind.u8 k3].getD (0 + ((IntKind.i64.wrap (at'.tmod 4 + t16)).tmod 4).toNat * 1) undef)) (and (decide (0 ≤ (IntKind.i64.wrap (at'.tmod 4 + t16)).tmod 4)) (and (decide ((IntKind.i64.wrap (at'.tmod 4 + t16)).tmod 4 < 4)) (and (decide (0 + t16.toNat * 1 < l1.length)) (and (isInt IntKind.u8 (l1.getD (0 + t16.toNat * 1) undef)) (and (decide (0 ≤ t16)) (and (decide (t16 < (↑(slen s) : Int))) (and ((decide (t16 < (↑(slen s) : Int))) == true) (true))))))))))))), mask_h1 k0 k1 k2 k3 at' s (IntKind.i64.wrap (t16 + 1)) (setN l1 (0 + t16.toNat * 1) [Value.int IntKind.u8 (ixor IntKind.u8 (toInt (l1.getD (0 + t16.toNat * 1) undef)) (toInt ([Value.int IntKind.u8 k0, Value.int IntKind.u8 k1, Value.int IntKind.u8 k2, Value.int IntKind.u8 k3].getD (0 + ((IntKind.i64.wrap (at'.tmod 4 + t16)).tmod 4).toNat * 1) undef)))])) := by kernel_rfl
theorem mask_p1_1 (k0 : Int) (k1 : Int) (k2 : Int) (k3 : Int) (at' : Int) (s : ByteArray) (t16 : Int) (l1 : List Value) : goFinB E noK 2000 13 (some [false]) [] [6] [] (mask_h1 k0 k1 k2 k3 at' s t16 l1) = some (and ((List.take (slen s * 1) (List.drop 0 l1)).all (isInt IntKind.u8)) (and (decide (0 + slen s * 1 ≤ l1.length)) (and ((decide (t16 < (↑(slen s) : Int))) == false) (true))), Value.string (bytesOf (List.take (slen s * 1) (List.drop 0 l1))), []) := by kernel_rfl
noncomputable def mask_t1 (k0 : Int) (k1 : Int) (k2 : Int) (k3 : Int) (at' : Int) (s : ByteArray) (t16 : Int) (l1 : List Value) : mask_R :=
 bif decide (t16 < (↑(slen s) : Int)) then .inl ((IntKind.i64.wrap (t16 + 1), setN l1 (0 + t16.toNat * 1) [Value.int IntKind.u8 (ixor IntKind.u8 (toInt (l1.getD (0 + t16.toNat * 1) undef)) (toInt ([Value.int IntKind.u8 k0, Value.int IntKind.u8 k1, Value.int IntKind.u8 k2, Value.int IntKind.u8 k3].getD (0 + ((IntKind.i64.wrap (at'.tmod 4 + t16)).tmod 4).toNat * 1) undef)))]))
 else .inr (bytesOf (List.take (slen s * 1) (List.drop 0 l1)))
def mask_S1 (k0 : Int) (k1 : Int) (k2 : Int) (k3 : Int) (at' : Int) (s : ByteArray) (t16 : Int) (l1 : List Value) : Prop :=
 ((decide (t16 < (↑(slen s) : Int))) = true → (((setN l1 (0 + t16.toNat * 1) [Value.int IntKind.u8 (ixor IntKind.u8 (toInt (l1.getD (0 + t16.toNat * 1) undef)) (toInt ([Value.int IntKind.u8 k0, Value.int IntKind.u8 k1, Value.int IntKind.u8 k2, Value.int IntKind.u8 k3].getD (0 + ((IntKind.i64.wrap (at'.tmod 4 + t16)).tmod 4).toNat * 1) undef)))]).all flat) = true) ∧ (0 + t16.toNat * 1 + 1 ≤ l1.length) ∧ (0 ≤ t16) ∧ (t16 < (↑(slen s) : Int)) ∧ (0 + ((IntKind.i64.wrap (at'.tmod 4 + t16)).tmod 4).toNat * 1 < 4) ∧ ((isInt IntKind.u8 ([Value.int IntKind.u8 k0, Value.int IntKind.u8 k1, Value.int IntKind.u8 k2, Value.int IntKind.u8 k3].getD (0 + ((IntKind.i64.wrap (at'.tmod 4 + t16)).tmod 4).toNat * 1) undef)) = true) ∧ (0 ≤ (IntKind.i64.wrap (at'.tmod 4 + t16)).tmod 4) ∧ ((IntKind.i64.wrap (at'.tmod 4 + t16)).tmod 4 < 4) ∧ (0 + t16.toNat * 1 < l1.length) ∧ ((isInt IntKind.u8 (l1.getD (0 + t16.toNat * 1) undef)) = true)) ∧
 ((decide (t16 < (↑(slen s) : Int))) = false → (((List.take (slen s * 1) (List.drop 0 l1)).all (isInt IntKind.u8)) = true) ∧ (0 + slen s * 1 ≤ l1.length))
theorem mask_ok1 (k0 : Int) (k1 : Int) (k2 : Int) (k3 : Int) (at' : Int) (s : ByteArray) (t16 : Int) (l1 : List Value) (hS : mask_S1 k0 k1 k2 k3 at' s t16 l1) : mask_Q k0 k1 k2 k3 at' s (mask_h1 k0 k1 k2 k3 at' s t16 l1) (mask_t1 k0 k1 k2 k3 at' s t16 l1) := by
 unfold mask_S1 at hS
 unfold mask_t1
 refine cond_intro (P := mask_Q k0 k1 k2 k3 at' s (mask_h1 k0 k1 k2 k3 at' s t16 l1)) _ (fun h0 => ?_) (fun h0 => ?_)
 ·skip
  show Gets E 0 _ (mask_h1 k0 k1 k2 k3 at' s (IntKind.i64.wrap (t16 + 1)) (setN l1 (0 + t16.toNat * 1) [Value.int IntKind.u8 (ixor IntKind.u8 (toInt (l1.getD (0 + t16.toNat * 1) undef)) (toInt ([Value.int IntKind.u8 k0, Value.int IntKind.u8 k1, Value.int IntKind.u8 k2, Value.int IntKind.u8 k3].getD (0 + ((IntKind.i64.wrap (at'.tmod 4 + t16)).tmod 4).toNat * 1) undef)))]))
  exact reach_gb noK_ok (mask_p1_0 k0 k1 k2 k3 at' s t16 l1) (andI ((hS.1 h0).1) (andI (decide_eq_true (hS.1 h0).2.1) (andI (decide_eq_true (hS.1 h0).2.2.1) (andI (decide_eq_true (hS.1 h0).2.2.2.1) (andI (decide_eq_true (hS.1 h0).2.2.2.2.1) (andI ((hS.1 h0).2.2.2.2.2.1) (andI (decide_eq_true (hS.1 h0).2.2.2.2.2.2.1) (andI (decide_eq_true (hS.1 h0).2.2.2.2.2.2.2.1) (andI (decide_eq_true (hS.1 h0).2.2.2.2.2.2.2.2.1) (andI ((hS.1 h0).2.2.2.2.2.2.2.2.2) (andI (decide_eq_true (hS.1 h0).2.2.1) (andI (decide_eq_true (hS.1 h0).2.2.2.1) (andI (dT h0) (rfl)))))))))))))) (Nat.le_of_ble_eq_true (by kernel_rfl)) (fun i hi => absurd hi (Nat.not_lt_zero _)) (fun i hi => absurd hi (Nat.not_lt_zero _)) (Nat.le_of_ble_eq_true (by kernel_rfl))
 ·skip
  exact ends_ofB noK_ok (mask_p1_1 k0 k1 k2 k3 at' s t16 l1) (andI ((hS.2 h0).1) (andI (decide_eq_true (hS.2 h0).2) (andI (dF h0) (rfl)))) (by kernel_rfl) (Nat.le_of_ble_eq_true (by kernel_rfl)) (fun i hi => absurd hi (Nat.not_lt_zero _)) (fun i hi => absurd hi (Nat.not_lt_zero _))


noncomputable def rmask_b1 (k0 : Int) (k1 : Int) (k2 : Int) (k3 : Int) (at' : Int) (s : ByteArray) : Cfg := cfgOf (goNil E noK 2000 30 (some [false]) [] [] [0] [1, 2, 3, 7, 8] [⟨true, 7, 0, 5, 1⟩] [0, 1] [1, 2, 3, 7, 8] (startC E 37 ([Value.agg #[Value.int IntKind.u8 k0, Value.int IntKind.u8 k1, Value.int IntKind.u8 k2, Value.int IntKind.u8 k3], Value.int IntKind.i64 at', Value.string s]) ([])))
noncomputable def rmask_h1 (k0 : Int) (k1 : Int) (k2 : Int) (k3 : Int) (at' : Int) (s : ByteArray) (t1 : Int) (t7n : Nat) (t8 : Int) (l1 : List Value) : Cfg := wCells 1 l1 (wTmp 8 (Value.int IntKind.i64 t8) (wTmp 7 (Value.slice (some { block := 1, off := 0 }) t7n 0) (wTmp 1 (Value.int IntKind.i64 t1) (rmask_b1 k0 k1 k2 k3 at' s))))
abbrev rmask_R : Type := (Int × Nat × Int × List Value) ⊕ (ByteArray)
def rmask_V (k0 : Int) (k1 : Int) (k2 : Int) (k3 : Int) (at' : Int) (s : ByteArray) (r : ByteArray) : Value := Value.string r
def rmask_H (k0 : Int) (k1 : Int) (k2 : Int) (k3 : Int) (at' : Int) (s : ByteArray) (r : ByteArray) : Heap := []
noncomputable def rmask_Q (k0 : Int) (k1 : Int) (k2 : Int) (k3 : Int) (at' : Int) (s : ByteArray) (C : Cfg) (r : rmask_R) : Prop :=
 match r with
 | .inl (p) => Gets E 0 C (rmask_h1 k0 k1 k2 k3 at' s (p.1) (p.2.1) (p.2.2.1) (p.2.2.2))
 | .inr (p) => AEnds E 37 0 C (rmask_V k0 k1 k2 k3 at' s p) (rmask_H k0 k1 k2 k3 at' s p)
theorem rmask_go1 {k0 : Int} {k1 : Int} {k2 : Int} {k3 : Int} {at' : Int} {s : ByteArray} {C : Cfg} {t1 : Int} {t7n : Nat} {t8 : Int} {l1 : List Value} (h : rmask_Q k0 k1 k2 k3 at' s C (.inl ((t1, t7n, t8, l1)))) : Gets E 0 C (rmask_h1 k0 k1 k2 k3 at' s t1 t7n t8 l1) := h
theorem rmask_end {k0 : Int} {k1 : Int} {k2 : Int} {k3 : Int} {at' : Int} {s : ByteArray} {C : Cfg} {r : ByteArray} (h : rmask_Q k0 k1 k2 k3 at' s C (.inr (r))) : AEnds E 37 0 C (rmask_V k0 k1 k2 k3 at' s r) (rmask_H k0 k1 k2 k3 at' s r) := h
theorem rmask_p0_0 (k0 : Int) (k1 : Int) (k2 : Int) (k3 : Int) (at' : Int) (s : ByteArray) : goFinB E noK 2000 17 (some [true]) [] [6] [] (startC E 37 ([Value.agg #[Value.int IntKind.u8 k0, Value.int IntKind.u8 k1, Value.int IntKind.u8 k2, Value.int IntKind.u8 k3], Value.int IntKind.i64 at', Value.string s]) ([])) = some (and ((decide (at' < 0)) == true) (true), Value.string s, []) := by kernel_rfl
theorem rmask_p0_1 (k0 : Int) (k1 : Int) (k2 : Int) (k3 : Int) (at' : Int) (s : ByteArray) : goNilB E noK 2000 30 (some [false]) [] [] [0] [1, 2, 3, 7, 8] [⟨true, 7, 0, 5, 1⟩] [0, 1] [1, 2, 3, 7, 8] (startC E 37 ([Value.agg #[Value.int IntKind.u8 k0, Value.int IntKind.u8 k1, Value.int IntKind.u8 k2, Value.int IntKind.u8 k3], Value.int IntKind.i64 at', Value.string s]) ([])) = some (and ((decide (at' < 0)) == false) (true), rmask_h1 k0 k1 k2 k3 at' s (at'.tmod 4) (0) (0) ([])) := by kernel_rfl
noncomputable def rmask_t0 (k0 : Int) (k1 : Int) (k2 : Int) (k3 : Int) (at' : Int) (s : ByteArray) : rmask_R :=
 bif decide (at' < 0) then .inr (s)
 else .inl ((at'.tmod 4, 0, 0, []))
def rmask_S0 (k0 : Int) (k1 : Int) (k2 : Int) (k3 : Int) (at' : Int) (s : ByteArray) : Prop :=
 True
theorem rmask_ok0 (k0 : Int) (k1 : Int) (k2 : Int) (k3 : Int) (at' : Int) (s : ByteArray) (hS : rmask_S0 k0 k1 k2 k3 at' s) : rmask_Q k0 k1 k2 k3 at' s (startC E 37 ([Value.agg #[Value.int IntKind.u8 k0, Value.int IntKind.u8 k1, Value.int IntKind.u8 k2, Value.int IntKind.u8 k3], Value.int IntKind.i64 at', Value.string s]) ([])) (rmask_t0 k0 k1 k2 k3 at' s) := by
 unfold rmask_S0 at hS
 unfold rmask_t0
 refine cond_intro (P := rmask_Q k0 k1 k2 k3 at' s (startC E 37 ([Value.agg #[Value.int IntKind.u8 k0, Value.int IntKind.u8 k1, Value.int IntKind.u8 k2, Value.int IntKind.u8 k3], Value.int IntKind.i64 at', Value.string s]) ([]))) _ (fun h0 => ?_) (fun h0 => ?_)
 ·skip
  exact ends_ofB noK_ok (rmask_p0_0 k0 k1 k2 k3 at' s) (andI (dT h0) (rfl)) (by kernel_rfl) (Nat.le_of_ble_eq_true (by kernel_rfl)) (fun i hi => absurd hi (Nat.not_lt_zero _)) (fun i hi => absurd hi (Nat.not_lt_zero _))
 ·skip
  show Gets E 0 _ (rmask_h1 k0 k1 k2 k3 at' s (at'.tmod 4) (0) (0) ([]))
  exact reach_gb noK_ok (rmask_p0_1 k0 k1 k2 k3 at' s) (andI (dF h0) (rfl)) (Nat.le_of_ble_eq_true (by kernel_rfl)) (fun i hi => absurd hi (Nat.not_lt_zero _)) (fun i hi => absurd hi (Nat.not_lt_zero _)) (Nat.le_of_ble_eq_true (by kernel_rfl))
theorem rmask_p1_0 (k0 : Int) (k1 : Int) (k2 : Int) (k3 : Int) (at' : Int) (s : ByteArray) (t1 : Int) (t7n : Nat) (t8 : Int) (l1 : List Value) : goNilB E noK 2000 36 (some [true, true]) [] [] [0, 3] [1, 2, 3, 7, 8] [] [] [] (rmask_h1 k0 k1 k2 k3 at' s t1 t7n t8 l1) = some (and ((List.take (t7n * 1) (List.drop 0 l1) ++ [Value.int IntKind.u8 (ixor IntKind.u8 (chr s t8.toNat) (toInt ([Value.int IntKind.u8 k0, Value.int IntKind.u8 k1, Value.int IntKind.u8 k2, Value.int IntKind.u8 k3].getD (0 + t1.toNat * 1) undef)))]).all flat) (and ((IntKind.i64.wrap (t1 + 1) == 4) == true) (and (t7n == t7n) (and (decide (0 + t7n * 1 ≤ l1.length)) (and (decide ((t7n + 1) * 1 ≤ 140737488355328)) (and (decide (t7n + 1 ≤ 9223372036854775807)) (and (decide (0 + t1.toNat * 1 < 4)) (and (isInt IntKind.u8 ([Value.int IntKind.u8 k0, Value.int IntKind.u8 k1, Value.int IntKind.u8 k2, Value.int IntKind.u8 k3].getD (0 + t1.toNat * 1) undef)) (and (decide (0 ≤ t1)) (and (decide (t1 < 4)) (and (decide (0 ≤ t8)) (and (decide (t8 < (↑(slen s) : Int))) (and ((decide (t8 < (↑(slen s) : Int))) == true) (true))))))))))))), rmask_h1 k0 k1 k2 k3 at' s (0) (t7n + 1) (IntKind.i64.wrap (t8 + 1)) (List.take (t7n * 1) (List.drop 0 l1) ++ [Value.int IntKind.u8 (ixor IntKind.u8 (chr s t8.toNat) (toInt ([Value.int IntKind.u8 k0, Value.int IntKind.u8 k1, Value.int IntKind.u8 k2, Value.int IntKind.u8 k3].getD (0 + t1.toNat * 1) undef)))])) := by kernel_rfl
theorem rmask_p1_1 (k0 : Int) (k1 : Int) (k2 : Int) (k3 : Int) (at' : Int) (s : ByteArray) (t1 : Int) (t7n : Nat) (t8 : Int) (l1 : List Value) : goNilB E noK 2000 34 (some [true, false]) [] [] [0, 3] [1, 2, 3, 7, 8] [] [] [] (rmask_h1 k0 k1 k2 k3 at' s t1 t7n t8 l1) = some (and ((List.take (t7n * 1) (List.drop 0 l1) ++ [Value.int IntKind.u8 (ixor IntKind.u8 (chr s t8.toNat) (toInt ([Value.int IntKind.u8 k0, Value.int IntKind.u8 k1, Value.int IntKind.u8 k2, Value.int IntKind.u8 k3].getD (0 + t1.toNat * 1) undef)))]).all flat) (and ((IntKind.i64.wrap (t1 + 1) == 4) == false) (and (t7n == t7n) (and (decide (0 + t7n * 1 ≤ l1.length)) (and (decide ((t7n + 1) * 1 ≤ 140737488355328)) (and (decide (t7n + 1 ≤ 9223372036854775807)) (and (decide (0 + t1.toNat * 1 < 4)) (and (isInt IntKind.u8 ([Value.int IntKind.u8 k0, Value.int IntKind.u8 k1, Value.int IntKind.u8 k2, Value.int IntKind.u8 k3].getD (0 + t1.toNat * 1) undef)) (and (decide (0 ≤ t1)) (and (decide (t1 < 4)) (and (decide (0 ≤ t8)) (and (decide (t8 < (↑(slen s) : Int))) (and ((decide (t8 < (↑(slen s) : Int))) == true) (true))))))))))))), rmask_h1 k0 k1 k2 k3 at' s (IntKind.i64.wrap (t1 + 1)) (t7n + 1) (IntKind.i64.wrap (t8 + 1)) (List.take (t7n * 1) (List.drop 0 l1) ++ [Value.int IntKind.u8 (ixor IntKind.u8 (chr s t8.toNat) (toInt ([Value.int IntKind.u8 k0, Value.int IntKind.u8 k1, Value.int IntKind.u8 k2, Value.int IntKind.u8 k3].getD (0 + t1.toNat * 1) undef)))])) := by kernel_rfl
theorem rmask_p1_2 (k0 : Int) (k1 : Int) (k2 : Int) (k3 : Int) (at' : Int) (s : ByteArray) (t1 : Int) (t7n : Nat) (t8 : Int) (l1 : List Value) : goFinB E noK 2000 16 (some [false]) [] [6] [] (rmask_h1 k0 k1 k2 k3 at' s t1 t7n t8 l1) = some (and ((List.take (t7n * 1) (List.drop 0 l1)).all (isInt IntKind.u8)) (and (decide (0 + t7n * 1 ≤ l1.length)) (and ((decide (t8 < (↑(slen s) : Int))) == false) (true))), Value.string (bytesOf (List.take (t7n * 1) (List.drop 0 l1))), []) := by kernel_rfl
noncomputable def rmask_t1 (k0 : Int) (k1 : Int) (k2 : Int) (k3 : Int) (at' : Int) (s : ByteArray) (t1 : Int) (t7n : Nat) (t8 : Int) (l1 : List Value) : rmask_R :=
 bif decide (t8 < (↑(slen s) : Int)) then bif IntKind.i64.wrap (t1 + 1) == 4 then .inl ((0, t7n + 1, IntKind.i64.wrap (t8 + 1), List.take (t7n * 1) (List.drop 0 l1) ++ [Value.int IntKind.u8 (ixor IntKind.u8 (chr s t8.toNat) (toInt ([Value.int IntKind.u8 k0, Value.int IntKind.u8 k1, Value.int IntKind.u8 k2, Value.int IntKind.u8 k3].getD (0 + t1.toNat * 1) undef)))]))
  else .inl ((IntKind.i64.wrap (t1 + 1), t7n + 1, IntKind.i64.wrap (t8 + 1), List.take (t7n * 1) (List.drop 0 l1) ++ [Value.int IntKind.u8 (ixor IntKind.u8 (chr s t8.toNat) (toInt ([Value.int IntKind.u8 k0, Value.int IntKind.u8 k1, Value.int IntKind.u8 k2, Value.int IntKind.u8 k3].getD (0 + t1.toNat * 1) undef)))]))
 else .inr (bytesOf (List.take (t7n * 1) (List.drop 0 l1)))
def rmask_S1 (k0 : Int) (k1 : Int) (k2 : Int) (k3 : Int) (at' : Int) (s : ByteArray) (t1 : Int) (t7n : Nat) (t8 : Int) (l1 : List Value) : Prop :=
 ((decide (t8 < (↑(slen s) : Int))) = true → ((IntKind.i64.wrap (t1 + 1) == 4) = true → (((List.take (t7n * 1) (List.drop 0 l1) ++ [Value.int IntKind.u8 (ixor IntKind.u8 (chr s t8.toNat) (toInt ([Value.int IntKind.u8 k0, Value.int IntKind.u8 k1, Value.int IntKind.u8 k2, Value.int IntKind.u8 k3].getD (0 + t1.toNat * 1) undef)))]).all flat) = true) ∧ ((t7n == t7n) = true) ∧ (0 + t7n * 1 ≤ l1.length) ∧ ((t7n + 1) * 1 ≤ 140737488355328) ∧ (t7n + 1 ≤ 9223372036854775807) ∧ (0 + t1.toNat * 1 < 4) ∧ ((isInt IntKind.u8 ([Value.int IntKind.u8 k0, Value.int IntKind.u8 k1, Value.int IntKind.u8 k2, Value.int IntKind.u8 k3].getD (0 + t1.toNat * 1) undef)) = true) ∧ (0 ≤ t1) ∧ (t1 < 4) ∧ (0 ≤ t8) ∧ (t8 < (↑(slen s) : Int))) ∧
  ((IntKind.i64.wrap (t1 + 1) == 4) = false → (((List.take (t7n * 1) (List.drop 0 l1) ++ [Value.int IntKind.u8 (ixor IntKind.u8 (chr s t8.toNat) (toInt ([Value.int IntKind.u8 k0, Value.int IntKind.u8 k1, Value.int IntKind.u8 k2, Value.int IntKind.u8 k3].getD (0 + t1.toNat * 1) undef)))]).all flat) = true) ∧ ((t7n == t7n) = true) ∧ (0 + t7n * 1 ≤ l1.length) ∧ ((t7n + 1) * 1 ≤ 140737488355328) ∧ (t7n + 1 ≤ 9223372036854775807) ∧ (0 + t1.toNat * 1 < 4) ∧ ((isInt IntKind.u8 ([Value.int IntKind.u8 k0, Value.int IntKind.u8 k1, Value.int IntKind.u8 k2, Value.int IntKind.u8 k3].getD (0 + t1.toNat * 1) undef)) = true) ∧ (0 ≤ t1) ∧ (t1 < 4) ∧ (0 ≤ t8) ∧ (t8 < (↑(slen s) : Int)))) ∧
 ((decide (t8 < (↑(slen s) : Int))) = false → (((List.take (t7n * 1) (List.drop 0 l1)).all (isInt IntKind.u8)) = true) ∧ (0 + t7n * 1 ≤ l1.length))
theorem rmask_ok1 (k0 : Int) (k1 : Int) (k2 : Int) (k3 : Int) (at' : Int) (s : ByteArray) (t1 : Int) (t7n : Nat) (t8 : Int) (l1 : List Value) (hS : rmask_S1 k0 k1 k2 k3 at' s t1 t7n t8 l1) : rmask_Q k0 k1 k2 k3 at' s (rmask_h1 k0 k1 k2 k3 at' s t1 t7n t8 l1) (rmask_t1 k0 k1 k2 k3 at' s t1 t7n t8 l1) := by
 unfold rmask_S1 at hS
 unfold rmask_t1
 refine cond_intro (P := rmask_Q k0 k1 k2 k3 at' s (rmask_h1 k0 k1 k2 k3 at' s t1 t7n t8 l1)) _ (fun h0 => ?_) (fun h0 => ?_)
 ·skip
  refine cond_intro (P := rmask_Q k0 k1 k2 k3 at' s (rmask_h1 k0 k1 k2 k3 at' s t1 t7n t8 l1)) _ (fun h1 => ?_) (fun h1 => ?_)
  ·skip
   show Gets E 0 _ (rmask_h1 k0 k1 k2 k3 at' s (0) (t7n + 1) (IntKind.i64.wrap (t8 + 1)) (List.take (t7n * 1) (List.drop 0 l1) ++ [Value.int IntKind.u8 (ixor IntKind.u8 (chr s t8.toNat) (toInt ([Value.int IntKind.u8 k0, Value.int IntKind.u8 k1, Value.int IntKind.u8 k2, Value.int IntKind.u8 k3].getD (0 + t1.toNat * 1) undef)))]))
   exact reach_gb noK_ok (rmask_p1_0 k0 k1 k2 k3 at' s t1 t7n t8 l1) (andI (((hS.1 h0).1 h1).1) (andI (dT h1) (andI (((hS.1 h0).1 h1).2.1) (andI (decide_eq_true ((hS.1 h0).1 h1).2.2.1) (andI (decide_eq_true ((hS.1 h0).1 h1).2.2.2.1) (andI (decide_eq_true ((hS.1 h0).1 h1).2.2.2.2.1) (andI (decide_eq_true ((hS.1 h0).1 h1).2.2.2.2.2.1) (andI (((hS.1 h0).1 h1).2.2.2.2.2.2.1) (andI (decide_eq_true ((hS.1 h0).1 h1).2.2.2.2.2.2.2.1) (andI (decide_eq_true ((hS.1 h0).1 h1).2.2.2.2.2.2.2.2.1) (andI (decide_eq_true ((hS.1 h0).1 h1).2.2.2.2.2.2.2.2.2.1) (andI (decide_eq_true ((hS.1 h0).1 h1).2.2.2.2.2.2.2.2.2.2) (andI (dT h0) (rfl)))))))))))))) (Nat.le_of_ble_eq_true (by kernel_rfl)) (fun i hi => absurd hi (Nat.not_lt_zero _)) (fun i hi => absurd hi (Nat.not_lt_zero _)) (Nat.le_of_ble_eq_true (by kernel_rfl))
  ·skip
   show Gets E 0 _ (rmask_h1 k0 k1 k2 k3 at' s (IntKind.i64.wrap (t1 + 1)) (t7n + 1) (IntKind.i64.wrap (t8 + 1)) (List.take (t7n * 1) (List.drop 0 l1) ++ [Value.int IntKind.u8 (ixor IntKind.u8 (chr s t8.toNat) (toInt ([Value.int IntKind.u8 k0, Value.int IntKind.u8 k1, Value.int IntKind.u8 k2, Value.int IntKind.u8 k3].getD (0 + t1.toNat * 1) undef)))]))
   exact reach_gb noK_ok (rmask_p1_1 k0 k1 k2 k3 at' s t1 t7n t8 l1) (andI (((hS.1 h0).2 h1).1) (andI (dF h1) (andI (((hS.1 h0).2 h1).2.1) (andI (decide_eq_true ((hS.1 h0).2 h1).2.2.1) (andI (decide_eq_true ((hS.1 h0).2 h1).2.2.2.1) (andI (decide_eq_true ((hS.1 h0).2 h1).2.2.2.2.1) (andI (decide_eq_true ((hS.1 h0).2 h1).2.2.2.2.2.1) (andI (((hS.1 h0).2 h1).2.2.2.2.2.2.1) (andI (decide_eq_true ((hS.1 h0).2 h1).2.2.2.2.2.2.2.1) (andI (decide_eq_true ((hS.1 h0).2 h1).2.2.2.2.2.2.2.2.1) (andI (decide_eq_true ((hS.1 h0).2 h1).2.2.2.2.2.2.2.2.2.1) (andI (decide_eq_true ((hS.1 h0).2 h1).2.2.2.2.2.2.2.2.2.2) (andI (dT h0) (rfl)))))))))))))) (Nat.le_of_ble_eq_true (by kernel_rfl)) (fun i hi => absurd hi (Nat.not_lt_zero _)) (fun i hi => absurd hi (Nat.not_lt_zero _)) (Nat.le_of_ble_eq_true (by kernel_rfl))
 ·skip
  exact ends_ofB noK_ok (rmask_p1_2 k0 k1 k2 k3 at' s t1 t7n t8 l1) (andI ((hS.2 h0).1) (andI (decide_eq_true (hS.2 h0).2) (andI (dF h0) (rfl)))) (by kernel_rfl) (Nat.le_of_ble_eq_true (by kernel_rfl)) (fun i hi => absurd hi (Nat.not_lt_zero _)) (fun i hi => absurd hi (Nat.not_lt_zero _))


end Go.Proofs.Ytfpnjpbdaniomaa

/-
  Masks and numbers, as contracts.
-/
set_option linter.unusedVariables false
set_option linter.unusedSimpArgs false
open Go Go.Am
namespace Go.Proofs.Ytfpnjpbdaniomaa

abbrev V8 (b : UInt8) : Value := .int .u8 b.toNat
noncomputable def vb (l : List UInt8) : List Value := l.map fun b => V8 b
theorem vb_len (l : List UInt8) : (vb l).length = l.length := by simp [vb]
theorem vb_flat (l : List UInt8) : (vb l).all flat = true := by simp [vb, flat]
theorem vb_int (l : List UInt8) : (vb l).all (isInt .u8) = true := by simp [vb, isInt]
theorem vb_take (l : List UInt8) : List.take (l.length * 1) (List.drop 0 (vb l)) = vb l := by
 rw [List.drop_zero, Nat.mul_one, List.take_of_length_le (by rw [vb_len]; exact Nat.le_refl _)]
theorem vb_snoc (l : List UInt8) (b : UInt8) : vb l ++ [V8 b] = vb (l ++ [b]) := by simp [vb]
theorem ofBytes_vb (s : ByteArray) : ofBytes s = vb (toL s) := rfl
theorem bytesOf_vb (l : List UInt8) : bytesOf (vb l) = ofL l := by
 unfold bytesOf vb
 rw [List.map_map]
 congr 1
 conv => rhs; rw [← List.map_id l]
 refine List.map_congr_left fun b _ => ?_
 simp [toInt]
theorem vb_get (l : List UInt8) (i : Nat) (h : i < l.length) : (vb l).getD i undef = V8 l[i] := by
 simp [vb, List.getD_eq_getElem?_getD, h]
theorem isInt_self (k : IntKind) (x : Int) : isInt k (.int k x) = true := by simp [isInt]
theorem toL_ofL (l : List UInt8) : toL (ofL l) = l := by simp [toL, ofL]
theorem ofL_toL (s : ByteArray) : ofL (toL s) = s := by cases s; simp [toL, ofL]
theorem slen_ofL (l : List UInt8) : slen (ofL l) = l.length := by simp [slen, toL_ofL]
theorem wrapU8 (x : Int) : 0 ≤ IntKind.u8.wrap x ∧ IntKind.u8.wrap x < 256 := by
 have h : IntKind.u8.wrap x = x % 256 := by simp [IntKind.wrap, IntKind.bits, IntKind.signed]
 rw [h]; omega
theorem ixor_bd (a b : Int) : 0 ≤ ixor .u8 a b ∧ ixor .u8 a b < 256 := wrapU8 _
noncomputable def xb (b : UInt8) (k : Int) : UInt8 := UInt8.ofNat (ixor .u8 b.toNat k).toNat
theorem xb_val (b : UInt8) (k : Int) : ((xb b k).toNat : Int) = ixor .u8 b.toNat k := by
 obtain ⟨h1, h2⟩ := ixor_bd (b.toNat : Int) k
 unfold xb
 rw [UInt8.toNat_ofNat']
 omega
theorem xb_v (b : UInt8) (k : Int) : .int .u8 (ixor .u8 b.toNat k) = V8 (xb b k) := by rw [← xb_val]
theorem fu8_lt (b : UInt8) : (0 : Int) ≤ (b.toNat : Int) ∧ (b.toNat : Int) < 256 := by
 have := b.toNat_lt
 omega
noncomputable def maskL (k : List Int) : Nat → List UInt8 → List UInt8
 | _, [] => []
 | a, b :: r => xb b (k.getD (a % 4) 0) :: maskL k (a + 1) r
theorem maskL_len (k : List Int) : ∀ (l : List UInt8) (a : Nat), (maskL k a l).length = l.length
 | [], a => rfl
 | b :: r, a => by simp [maskL, maskL_len k r]
noncomputable def keyV (k0 k1 k2 k3 : Int) : List Value := [.int .u8 k0, .int .u8 k1, .int .u8 k2, .int .u8 k3]
theorem key_get (k0 k1 k2 k3 : Int) (i : Nat) (h : i < 4) : (keyV k0 k1 k2 k3).getD i undef = .int .u8 ([k0, k1, k2, k3].getD i 0) := by
 have : i = 0 ∨ i = 1 ∨ i = 2 ∨ i = 3 := by omega
 rcases this with rfl | rfl | rfl | rfl <;> rfl
theorem setN_one (l : List Value) (o : Nat) (v : Value) : setN l o [v] = l.set o v := rfl
theorem set_mid {α : Type} (A : List α) (x v : α) (R : List α) : (A ++ x :: R).set A.length v = A ++ v :: R := by
 simp [List.set_append]

theorem mask_run (k0 k1 k2 k3 at' : Int) (s : ByteArray) (h0 : 0 ≤ at') (h1 : at' < 9223372036854775808) (hs : slen s ≤ 1000000) : ∀ (n i : Nat) (A : List UInt8), i + n = slen s → A.length = i → A ++ maskL [k0, k1, k2, k3] (at'.toNat + i) ((toL s).drop i) = maskL [k0, k1, k2, k3] at'.toNat (toL s) →
  AEnds E 75 0 (mask_h1 k0 k1 k2 k3 at' s i (vb (A ++ (toL s).drop i))) (.string (ofL (maskL [k0, k1, k2, k3] at'.toNat (toL s)))) []
 | 0, i, A, hi, hA, hf => by
  rw [show (toL s).drop i = [] from List.drop_eq_nil_of_le (by unfold slen at hi; omega), List.append_nil]
  rw [show (toL s).drop i = [] from List.drop_eq_nil_of_le (by unfold slen at hi; omega), maskL, List.append_nil] at hf
  have e : List.take (slen s * 1) (List.drop 0 (vb A)) = vb A := by rw [show slen s = A.length by omega, vb_take]
  have h := mask_ok1 k0 k1 k2 k3 at' s i (vb A) (by
   unfold mask_S1
   rw [e, vb_int, vb_len, show decide ((i : Int) < (slen s : Int)) = false by simp; omega]
   simp; omega)
  unfold mask_t1 at h
  rw [e, bytesOf_vb, show decide ((i : Int) < (slen s : Int)) = false by simp; omega] at h
  rw [← hf]
  exact mask_end h
 | n + 1, i, A, hi, hA, hf => by
  have hl : i < (toL s).length := by unfold slen at hi; omega
  rw [List.drop_eq_getElem_cons hl] at hf ⊢
  rw [maskL] at hf
  have ht : (IntKind.i64.wrap (at'.tmod 4 + (i : Int))).tmod 4 = (((at'.toNat + i) % 4 : Nat) : Int) := by
   rw [Int.tmod_eq_emod_of_nonneg h0, wrap64_in (by omega) (by omega), Int.tmod_eq_emod_of_nonneg (by omega)]
   omega
  have hk := key_get k0 k1 k2 k3 ((at'.toNat + i) % 4) (by omega)
  have hv := vb_get (A ++ (toL s)[i] :: (toL s).drop (i + 1)) i (by simp; omega)
  have hg : (A ++ (toL s)[i] :: (toL s).drop (i + 1))[i]'(by simp; omega) = (toL s)[i] := by subst hA; simp
  rw [hg] at hv
  have hlen : (vb (A ++ (toL s)[i] :: (toL s).drop (i + 1))).length = slen s := by rw [vb_len, List.length_append, List.length_cons, List.length_drop]; unfold slen at *; omega
  have hset : (vb (A ++ (toL s)[i] :: (toL s).drop (i + 1))).set i (V8 (xb (toL s)[i] ([k0, k1, k2, k3].getD ((at'.toNat + i) % 4) 0))) = vb ((A ++ [xb (toL s)[i] ([k0, k1, k2, k3].getD ((at'.toNat + i) % 4) 0)]) ++ (toL s).drop (i + 1)) := by
   unfold vb
   rw [List.map_append, List.map_cons]
   have := set_mid (A.map fun b => V8 b) (V8 (toL s)[i]) (V8 (xb (toL s)[i] ([k0, k1, k2, k3].getD ((at'.toNat + i) % 4) 0))) (((toL s).drop (i + 1)).map fun b => V8 b)
   rw [List.length_map, hA] at this
   rw [this]
   simp
  have h := mask_ok1 k0 k1 k2 k3 at' s i (vb (A ++ (toL s)[i] :: (toL s).drop (i + 1))) (by
   unfold mask_S1
   rw [show [.int .u8 k0, .int .u8 k1, .int .u8 k2, .int .u8 k3] = keyV k0 k1 k2 k3 from rfl]
   simp only [ht, Int.toNat_natCast, Nat.zero_add, Nat.mul_one, hk, hv, toInt, xb_v, setN_one, hset, vb_flat, hlen, isInt_self]
   simp; omega)
  unfold mask_t1 at h
  rw [show [.int .u8 k0, .int .u8 k1, .int .u8 k2, .int .u8 k3] = keyV k0 k1 k2 k3 from rfl] at h
  simp only [ht, Int.toNat_natCast, Nat.zero_add, Nat.mul_one, hk, hv, toInt, xb_v, setN_one, hset, show decide ((i : Int) < (slen s : Int)) = true by simp; omega, cond_true] at h
  rw [wrap64_in (x := (i : Int) + 1) (by omega) (by omega), show (i : Int) + 1 = ((i + 1 : Nat) : Int) by omega] at h
  exact (mask_go1 h).ends (mask_run k0 k1 k2 k3 at' s h0 h1 hs n (i + 1) _ (by omega) (by simp; omega) (by rw [← hf]; simp [Nat.add_assoc]))

noncomputable def maskD (k : List Int) (at' : Int) (s : ByteArray) : ByteArray := bif decide (at' < 0) then s else ofL (maskL k at'.toNat (toL s))
def mask_pre (k0 k1 k2 k3 at' : Int) (s : ByteArray) : Prop := slen s ≤ 1000000 ∧ at' < 9223372036854775808
noncomputable def mask_v (k0 k1 k2 k3 at' : Int) (s : ByteArray) : Value := .string (maskD [k0, k1, k2, k3] at' s)
noncomputable def mask_h (k0 k1 k2 k3 at' : Int) (s : ByteArray) : Heap := []
theorem mask_call (k0 k1 k2 k3 at' : Int) (s : ByteArray) (h : mask_pre k0 k1 k2 k3 at' s) :
  CallOk E 75 [.agg #[.int .u8 k0, .int .u8 k1, .int .u8 k2, .int .u8 k3], .int .i64 at', .string s] [] (mask_v k0 k1 k2 k3 at' s) (mask_h k0 k1 k2 k3 at' s) := by
 refine callOk_of_ends ?_ (by kernel_rfl) (Nat.le_of_ble_eq_true (by kernel_rfl))
 have hk := mask_ok0 k0 k1 k2 k3 at' s (by unfold mask_S0; rw [ofBytes_vb, vb_flat]; have := h.1; simp; omega)
 unfold mask_t0 at hk
 unfold mask_v maskD
 cases hc : decide (at' < 0) <;> rw [hc] at hk
 ·have := mask_run k0 k1 k2 k3 at' s (by simpa using hc) h.2 h.1 (slen s) 0 [] (by omega) rfl rfl
  exact (mask_go1 hk).ends this
 ·exact mask_end hk

def mask_ex (a : List Value) (h : Heap) : Int × Int × Int × Int × Int × ByteArray := ((toInt ((aggOf (a.getD 0 undef)).getD 0 undef)), (toInt ((aggOf (a.getD 0 undef)).getD 1 undef)), (toInt ((aggOf (a.getD 0 undef)).getD 2 undef)), (toInt ((aggOf (a.getD 0 undef)).getD 3 undef)), (toInt (a.getD 1 undef)), (toStr (a.getD 2 undef)))
noncomputable def mask_k : Ct := kS mask_ex [.agg [.int .u8, .int .u8, .int .u8, .int .u8], .int .i64, .str] [] (fun (a0, a1, a2, a3, a4, a5) => mask_pre a0 a1 a2 a3 a4 a5) (fun (a0, a1, a2, a3, a4, a5) => mask_v a0 a1 a2 a3 a4 a5) (fun (a0, a1, a2, a3, a4, a5) => mask_h a0 a1 a2 a3 a4 a5)
theorem mask_k_ok : KFor E 75 mask_k := kS_ok (fun x hx => mask_call (x.1) (x.2.1) (x.2.2.1) (x.2.2.2.1) (x.2.2.2.2.1) (x.2.2.2.2.2) hx) (fun _ _ => rfl) (fun _ _ => rfl)


theorem rmask_run (k0 k1 k2 k3 at' : Int) (s : ByteArray) (h0 : 0 ≤ at') (h1 : at' < 9223372036854775808) (hs : slen s ≤ 1000000) : ∀ (n i : Nat) (A : List UInt8), i + n = slen s → A.length = i → A ++ maskL [k0, k1, k2, k3] (at'.toNat + i) ((toL s).drop i) = maskL [k0, k1, k2, k3] at'.toNat (toL s) →
  AEnds E 37 0 (rmask_h1 k0 k1 k2 k3 at' s (((at'.toNat + i) % 4 : Nat) : Int) A.length i (vb A)) (.string (ofL (maskL [k0, k1, k2, k3] at'.toNat (toL s)))) []
 | 0, i, A, hi, hA, hf => by
  rw [show (toL s).drop i = [] from List.drop_eq_nil_of_le (by unfold slen at hi; omega), maskL, List.append_nil] at hf
  have h := rmask_ok1 k0 k1 k2 k3 at' s (((at'.toNat + i) % 4 : Nat) : Int) A.length i (vb A) (by
   unfold rmask_S1
   rw [vb_take, vb_int, vb_len, show decide ((i : Int) < (slen s : Int)) = false by simp; omega]
   simp)
  unfold rmask_t1 at h
  rw [vb_take, bytesOf_vb, show decide ((i : Int) < (slen s : Int)) = false by simp; omega] at h
  rw [← hf]
  exact rmask_end h
 | n + 1, i, A, hi, hA, hf => by
  have hl : i < (toL s).length := by unfold slen at hi; omega
  have hch : chr s i = ((toL s)[i].toNat : Int) := by simp [chr, List.getD_eq_getElem?_getD, hl]
  rw [List.drop_eq_getElem_cons hl] at hf
  rw [maskL] at hf
  have hk := key_get k0 k1 k2 k3 ((at'.toNat + i) % 4) (by omega)
  have h := rmask_ok1 k0 k1 k2 k3 at' s (((at'.toNat + i) % 4 : Nat) : Int) A.length i (vb A) (by
   unfold rmask_S1
   rw [show [.int .u8 k0, .int .u8 k1, .int .u8 k2, .int .u8 k3] = keyV k0 k1 k2 k3 from rfl]
   rw [vb_take]
   simp only [Int.toNat_natCast, Nat.zero_add, Nat.mul_one, hk, toInt, hch, xb_v, vb_snoc, vb_flat, vb_len, isInt_self]
   simp; omega)
  unfold rmask_t1 at h
  rw [show [.int .u8 k0, .int .u8 k1, .int .u8 k2, .int .u8 k3] = keyV k0 k1 k2 k3 from rfl] at h
  rw [vb_take] at h
  simp only [Int.toNat_natCast, Nat.zero_add, Nat.mul_one, hk, toInt, hch, xb_v, vb_snoc, show decide ((i : Int) < (slen s : Int)) = true by simp; omega, cond_true] at h
  rw [wrap64_in (x := (i : Int) + 1) (by omega) (by omega), show (i : Int) + 1 = ((i + 1 : Nat) : Int) by omega, wrap64_in (x := (((at'.toNat + i) % 4 : Nat) : Int) + 1) (by omega) (by omega)] at h
  have nx := rmask_run k0 k1 k2 k3 at' s h0 h1 hs n (i + 1) (A ++ [xb (toL s)[i] ([k0, k1, k2, k3].getD ((at'.toNat + i) % 4) 0)]) (by omega) (by simp; omega) (by rw [← hf]; simp [Nat.add_assoc])
  rw [List.length_append] at nx
  by_cases hc : (at'.toNat + i) % 4 = 3
  ·rw [show (((((at'.toNat + i) % 4 : Nat) : Int) + 1 == 4) : Bool) = true by simp; omega] at h
   simp only [cond_true] at h
   rw [show (at'.toNat + (i + 1)) % 4 = 0 by omega] at nx
   exact (rmask_go1 h).ends nx
  ·rw [show (((((at'.toNat + i) % 4 : Nat) : Int) + 1 == 4) : Bool) = false by simp; omega] at h
   simp only [cond_false] at h
   rw [show (((at'.toNat + (i + 1)) % 4 : Nat) : Int) = (((at'.toNat + i) % 4 : Nat) : Int) + 1 by omega] at nx
   exact (rmask_go1 h).ends nx

def rmask_pre (k0 k1 k2 k3 at' : Int) (s : ByteArray) : Prop := slen s ≤ 1000000 ∧ at' < 9223372036854775808
noncomputable def rmask_v (k0 k1 k2 k3 at' : Int) (s : ByteArray) : Value := .string (maskD [k0, k1, k2, k3] at' s)
noncomputable def rmask_h (k0 k1 k2 k3 at' : Int) (s : ByteArray) : Heap := []
theorem rmask_call (k0 k1 k2 k3 at' : Int) (s : ByteArray) (h : rmask_pre k0 k1 k2 k3 at' s) :
  CallOk E 37 [.agg #[.int .u8 k0, .int .u8 k1, .int .u8 k2, .int .u8 k3], .int .i64 at', .string s] [] (rmask_v k0 k1 k2 k3 at' s) (rmask_h k0 k1 k2 k3 at' s) := by
 refine callOk_of_ends ?_ (by kernel_rfl) (Nat.le_of_ble_eq_true (by kernel_rfl))
 have hk := rmask_ok0 k0 k1 k2 k3 at' s trivial
 unfold rmask_t0 at hk
 unfold rmask_v maskD
 cases hc : decide (at' < 0) <;> rw [hc] at hk
 ·have h0 : 0 ≤ at' := by simpa using hc
  have := rmask_run k0 k1 k2 k3 at' s h0 h.2 h.1 (slen s) 0 [] (by omega) rfl rfl
  rw [show (((at'.toNat + 0) % 4 : Nat) : Int) = at'.tmod 4 by rw [Int.tmod_eq_emod_of_nonneg h0]; omega] at this
  exact (rmask_go1 hk).ends this
 ·exact rmask_end hk

abbrev rmask_ex := mask_ex
noncomputable def rmask_k : Ct := kS rmask_ex [.agg [.int .u8, .int .u8, .int .u8, .int .u8], .int .i64, .str] [] (fun (a0, a1, a2, a3, a4, a5) => rmask_pre a0 a1 a2 a3 a4 a5) (fun (a0, a1, a2, a3, a4, a5) => rmask_v a0 a1 a2 a3 a4 a5) (fun (a0, a1, a2, a3, a4, a5) => rmask_h a0 a1 a2 a3 a4 a5)
theorem rmask_k_ok : KFor E 37 rmask_k := kS_ok (fun x hx => rmask_call (x.1) (x.2.1) (x.2.2.1) (x.2.2.2.1) (x.2.2.2.2.1) (x.2.2.2.2.2) hx) (fun _ _ => rfl) (fun _ _ => rfl)


/-! ### numbers -/
noncomputable def bigN : Int → List UInt8 → Int
 | x, [] => x
 | x, b :: r => bigN (x * 256 + b.toNat) r
theorem wrapU64 {x : Int} (h0 : 0 ≤ x) (h1 : x < 18446744073709551616) : IntKind.u64.wrap x = x := by
 have h : IntKind.u64.wrap x = x % 18446744073709551616 := by simp [IntKind.wrap, IntKind.bits, IntKind.signed]
 rw [h]; omega
theorem shl8 (x : Int) (h0 : 0 ≤ x) (h1 : x < 72057594037927936) : ishl .u64 x 8 = x * 256 := by
 have e : ishl .u64 x 8 = IntKind.u64.wrap (x * 256) := by
  unfold ishl
  rw [show min (8 : Int).toNat IntKind.u64.bits = 8 by decide]
  rw [show (2 : Int) ^ 8 = 256 by decide]
 rw [e, wrapU64 (by omega) (by omega)]
theorem or8 (x b : Int) (h0 : 0 ≤ x) (h1 : x < 72057594037927936) (hb0 : 0 ≤ b) (hb1 : b < 256) : ior .u64 (x * 256) b = x * 256 + b := by
 unfold ior
 rw [BitVec.toNat_or, show IntKind.u64.bits = 64 from rfl, BitVec.toNat_ofInt, BitVec.toNat_ofInt]
 obtain ⟨n, rfl⟩ : ∃ n : Nat, x = n := ⟨x.toNat, by omega⟩
 obtain ⟨m, rfl⟩ : ∃ n : Nat, b = n := ⟨b.toNat, by omega⟩
 have e1 : (((n : Int) * 256) % ((2 ^ 64 : Nat) : Int)).toNat = 2 ^ 8 * n := by
  rw [show ((2 ^ 64 : Nat) : Int) = 18446744073709551616 by decide]; omega
 have e2 : ((m : Int) % ((2 ^ 64 : Nat) : Int)).toNat = m := by
  rw [show ((2 ^ 64 : Nat) : Int) = 18446744073709551616 by decide]; omega
 rw [e1, e2, ← Nat.two_pow_add_eq_or_of_lt (by omega)]
 rw [wrapU64 (by omega) (by omega)]
 omega
theorem big_run (s : ByteArray) (hs : slen s ≤ 8) : ∀ (n i : Nat) (x : Int), i + n = slen s → 0 ≤ x → x < 256 ^ i →
  AEnds E 78 0 (big_h1 s x i) (.int .u64 (bigN x ((toL s).drop i))) []
 | 0, i, x, hi, h0, h1 => by
  have h := big_ok1 s x i (by unfold big_S1; simp [show ¬ ((i : Int) < slen s) by omega])
  unfold big_t1 at h
  rw [show decide ((i : Int) < (slen s : Int)) = false by simp; omega] at h
  rw [show (toL s).drop i = [] from List.drop_eq_nil_of_le (by unfold slen at hi; omega)]
  exact big_end h
 | n + 1, i, x, hi, h0, h1 => by
  have hl : i < (toL s).length := by unfold slen at hi; omega
  have hch : chr s i = ((toL s)[i].toNat : Int) := by simp [chr, List.getD_eq_getElem?_getD, hl]
  have h := big_ok1 s x i (by unfold big_S1; simp [show ((i : Int) < slen s) by omega])
  unfold big_t1 at h
  rw [show decide ((i : Int) < (slen s : Int)) = true by simp; omega, Int.toNat_natCast, hch] at h
  rw [List.drop_eq_getElem_cons hl, bigN]
  clear hch
  obtain ⟨u0, u1⟩ := fu8_lt (toL s)[i]
  generalize (toL s)[i] = b at h u0 u1 ⊢
  have hx : x < 72057594037927936 := by
   have hi7 : i = 0 ∨ i = 1 ∨ i = 2 ∨ i = 3 ∨ i = 4 ∨ i = 5 ∨ i = 6 ∨ i = 7 := by omega
   rcases hi7 with rfl | rfl | rfl | rfl | rfl | rfl | rfl | rfl <;> omega
  simp only [cond_true] at h
  rw [shl8 x h0 hx, wrapU64 u0 (by omega), or8 x _ h0 hx u0 u1, wrap64_in (x := (i : Int) + 1) (by omega) (by omega), show (i : Int) + 1 = ((i + 1 : Nat) : Int) by omega] at h
  exact (big_go1 h).ends (big_run s hs n (i + 1) _ (by omega) (by omega) (by rw [Int.pow_succ]; omega))
def big_pre (s : ByteArray) : Prop := slen s ≤ 8
noncomputable def big_v (s : ByteArray) : Value := .int .u64 (bigN 0 (toL s))
noncomputable def big_h (s : ByteArray) : Heap := []
theorem big_call (s : ByteArray) (h : big_pre s) : CallOk E 78 [.string s] [] (big_v s) (big_h s) :=
 callOk_of_ends ((big_go1 (big_ok0 s trivial)).ends (big_run s h (slen s) 0 0 (by omega) (by omega) (by simp))) (by kernel_rfl) (Nat.le_of_ble_eq_true (by kernel_rfl))

def big_ex (a : List Value) (h : Heap) : ByteArray := (toStr (a.getD 0 undef))
noncomputable def big_k : Ct := kS big_ex [.str] [] (fun x => big_pre x) (fun x => big_v x) (fun x => big_h x)
theorem big_k_ok : KFor E 78 big_k := kS_ok (fun x hx => big_call x hx) (fun _ _ => rfl) (fun _ _ => rfl)


end Go.Proofs.Ytfpnjpbdaniomaa
