/-
  Masks, numbers, as plain functions.
-/
import Derived.Test.YtfmcohbagbafmaaEnv
import Derived.Test.YtfmcohbagbafmaaAmDt
set_option linter.unusedVariables false
set_option linter.unusedSimpArgs false
open Go Go.Am
namespace Go.Proofs.Ytfmcohbagbafmaa

abbrev least_R : Type := Int
def least_V (n : Int) (r : Int) : Value := Value.int IntKind.i64 r
def least_H (n : Int) (r : Int) : Heap := []
noncomputable def least_Q (n : Int) (C : Cfg) (r : least_R) : Prop :=
  let p := r
  AEnds E 26 0 C (least_V n p) (least_H n p)
theorem least_p0_0 (n : Int) : goFinB E noK 2000 17 (some [true]) [] [2] [] (startC E 26 ([Value.int IntKind.u64 n]) ([])) = some (and ((decide (n ≤ 125)) == true) (true), Value.int IntKind.i64 0, []) := by kernel_rfl
theorem least_p0_1 (n : Int) : goFinB E noK 2000 24 (some [false, true]) [] [2] [] (startC E 26 ([Value.int IntKind.u64 n]) ([])) = some (and ((decide (n ≤ 65535)) == true) (and ((decide (n ≤ 125)) == false) (true)), Value.int IntKind.i64 2, []) := by kernel_rfl
theorem least_p0_2 (n : Int) : goFinB E noK 2000 26 (some [false, false]) [] [2] [] (startC E 26 ([Value.int IntKind.u64 n]) ([])) = some (and ((decide (n ≤ 65535)) == false) (and ((decide (n ≤ 125)) == false) (true)), Value.int IntKind.i64 8, []) := by kernel_rfl
def least_t0 (n : Int) : least_R :=
  bif decide (n ≤ 125) then 0
  else bif decide (n ≤ 65535) then 2
    else 8
def least_S0 (n : Int) : Prop :=
  True
theorem least_ok0 (n : Int) (hS : least_S0 n) : least_Q n (startC E 26 ([Value.int IntKind.u64 n]) ([])) (least_t0 n) := by
  unfold least_S0 at hS
  unfold least_t0
  refine cond_intro (P := least_Q n (startC E 26 ([Value.int IntKind.u64 n]) ([]))) _ (fun h0 => ?_) (fun h0 => ?_)
  · skip
    exact ends_ofB noK_ok (least_p0_0 n) (andI (dT h0) (rfl)) (by kernel_rfl) (Nat.le_of_ble_eq_true (by kernel_rfl)) (fun i hi => absurd hi (Nat.not_lt_zero _)) (fun i hi => absurd hi (Nat.not_lt_zero _))
  · skip
    refine cond_intro (P := least_Q n (startC E 26 ([Value.int IntKind.u64 n]) ([]))) _ (fun h1 => ?_) (fun h1 => ?_)
    · skip
      exact ends_ofB noK_ok (least_p0_1 n) (andI (dT h1) (andI (dF h0) (rfl))) (by kernel_rfl) (Nat.le_of_ble_eq_true (by kernel_rfl)) (fun i hi => absurd hi (Nat.not_lt_zero _)) (fun i hi => absurd hi (Nat.not_lt_zero _))
    · skip
      exact ends_ofB noK_ok (least_p0_2 n) (andI (dF h1) (andI (dF h0) (rfl))) (by kernel_rfl) (Nat.le_of_ble_eq_true (by kernel_rfl)) (fun i hi => absurd hi (Nat.not_lt_zero _)) (fun i hi => absurd hi (Nat.not_lt_zero _))
theorem least_call (n : Int) (hS : least_S0 n) : CallOk E 26 ([Value.int IntKind.u64 n]) ([]) (least_V n (least_t0 n)) (least_H n (least_t0 n)) := callOk_of_ends (least_ok0 n hS) (by kernel_rfl) (Nat.le_of_ble_eq_true (by kernel_rfl))
def least_ex (a : List Value) (h : Heap) : Int := (toInt (a.getD 0 undef))
noncomputable def least_k : Ct := kP least_ex (fun x => [Value.int IntKind.u64 x]) (fun x => []) (fun x => least_S0 x) (fun x => least_V x (least_t0 x)) (fun x => least_H x (least_t0 x))
theorem least_k_ok : KFor E 26 least_k := kP_ok (fun x hx => least_call x hx)


abbrev more_R : Type := Int
def more_V (n : Int) (r : Int) : Value := Value.int IntKind.i64 r
def more_H (n : Int) (r : Int) : Heap := []
noncomputable def more_Q (n : Int) (C : Cfg) (r : more_R) : Prop :=
  let p := r
  AEnds E 32 0 C (more_V n p) (more_H n p)
theorem more_p0_0 (n : Int) : goFinB E noK 2000 20 (some [true]) [] [2] [] (startC E 32 ([Value.int IntKind.i64 n]) ([])) = some (and ((n == 126) == true) (true), Value.int IntKind.i64 2, []) := by kernel_rfl
theorem more_p0_1 (n : Int) : goFinB E noK 2000 26 (some [false, true]) [] [2] [] (startC E 32 ([Value.int IntKind.i64 n]) ([])) = some (and ((n == 127) == true) (and ((n == 126) == false) (true)), Value.int IntKind.i64 8, []) := by kernel_rfl
theorem more_p0_2 (n : Int) : goFinB E noK 2000 28 (some [false, false]) [] [2] [] (startC E 32 ([Value.int IntKind.i64 n]) ([])) = some (and ((n == 127) == false) (and ((n == 126) == false) (true)), Value.int IntKind.i64 0, []) := by kernel_rfl
def more_t0 (n : Int) : more_R :=
  bif n == 126 then 2
  else bif n == 127 then 8
    else 0
def more_S0 (n : Int) : Prop :=
  True
theorem more_ok0 (n : Int) (hS : more_S0 n) : more_Q n (startC E 32 ([Value.int IntKind.i64 n]) ([])) (more_t0 n) := by
  unfold more_S0 at hS
  unfold more_t0
  refine cond_intro (P := more_Q n (startC E 32 ([Value.int IntKind.i64 n]) ([]))) _ (fun h0 => ?_) (fun h0 => ?_)
  · skip
    exact ends_ofB noK_ok (more_p0_0 n) (andI (dT h0) (rfl)) (by kernel_rfl) (Nat.le_of_ble_eq_true (by kernel_rfl)) (fun i hi => absurd hi (Nat.not_lt_zero _)) (fun i hi => absurd hi (Nat.not_lt_zero _))
  · skip
    refine cond_intro (P := more_Q n (startC E 32 ([Value.int IntKind.i64 n]) ([]))) _ (fun h1 => ?_) (fun h1 => ?_)
    · skip
      exact ends_ofB noK_ok (more_p0_1 n) (andI (dT h1) (andI (dF h0) (rfl))) (by kernel_rfl) (Nat.le_of_ble_eq_true (by kernel_rfl)) (fun i hi => absurd hi (Nat.not_lt_zero _)) (fun i hi => absurd hi (Nat.not_lt_zero _))
    · skip
      exact ends_ofB noK_ok (more_p0_2 n) (andI (dF h1) (andI (dF h0) (rfl))) (by kernel_rfl) (Nat.le_of_ble_eq_true (by kernel_rfl)) (fun i hi => absurd hi (Nat.not_lt_zero _)) (fun i hi => absurd hi (Nat.not_lt_zero _))
theorem more_call (n : Int) (hS : more_S0 n) : CallOk E 32 ([Value.int IntKind.i64 n]) ([]) (more_V n (more_t0 n)) (more_H n (more_t0 n)) := callOk_of_ends (more_ok0 n hS) (by kernel_rfl) (Nat.le_of_ble_eq_true (by kernel_rfl))
def more_ex (a : List Value) (h : Heap) : Int := (toInt (a.getD 0 undef))
noncomputable def more_k : Ct := kP more_ex (fun x => [Value.int IntKind.i64 x]) (fun x => []) (fun x => more_S0 x) (fun x => more_V x (more_t0 x)) (fun x => more_H x (more_t0 x))
theorem more_k_ok : KFor E 32 more_k := kP_ok (fun x hx => more_call x hx)


noncomputable def big_b1 (s : ByteArray) : Cfg := cfgOf (goNil E noK 2000 13 (some []) [] [] [] [0, 2, 5, 6] [] [] [] (startC E 33 ([Value.string s]) ([])))
noncomputable def big_h1 (s : ByteArray) (t2 : Int) (t6 : Int) : Cfg := wTmp 6 (Value.int IntKind.i64 t6) (wTmp 2 (Value.int IntKind.u64 t2) (big_b1 s))
abbrev big_R : Type := (Int × Int) ⊕ (Int)
def big_V (s : ByteArray) (r : Int) : Value := Value.int IntKind.u64 r
def big_H (s : ByteArray) (r : Int) : Heap := []
noncomputable def big_Q (s : ByteArray) (C : Cfg) (r : big_R) : Prop :=
  match r with
  | .inl (p) => Gets E 0 C (big_h1 s (p.1) (p.2))
  | .inr (p) => AEnds E 33 0 C (big_V s p) (big_H s p)
theorem big_go1 {s : ByteArray} {C : Cfg} {t2 : Int} {t6 : Int} (h : big_Q s C (.inl ((t2, t6)))) : Gets E 0 C (big_h1 s t2 t6) := h
theorem big_end {s : ByteArray} {C : Cfg} {r : Int} (h : big_Q s C (.inr (r))) : AEnds E 33 0 C (big_V s r) (big_H s r) := h
theorem big_p0_0 (s : ByteArray) : goNilB E noK 2000 13 (some []) [] [] [] [0, 2, 5, 6] [] [] [] (startC E 33 ([Value.string s]) ([])) = some (true, big_h1 s (0) (0)) := by kernel_rfl
def big_t0 (s : ByteArray) : big_R :=
  .inl ((0, 0))
def big_S0 (s : ByteArray) : Prop :=
  True
theorem big_ok0 (s : ByteArray) (hS : big_S0 s) : big_Q s (startC E 33 ([Value.string s]) ([])) (big_t0 s) := by
  unfold big_S0 at hS
  unfold big_t0
  show Gets E 0 _ (big_h1 s (0) (0))
  exact reach_gb noK_ok (big_p0_0 s) (rfl) (Nat.le_of_ble_eq_true (by kernel_rfl)) (fun i hi => absurd hi (Nat.not_lt_zero _)) (fun i hi => absurd hi (Nat.not_lt_zero _)) (Nat.le_of_ble_eq_true (by kernel_rfl))
theorem big_p1_0 (s : ByteArray) (t2 : Int) (t6 : Int) : goNilB E noK 2000 30 (some [true]) [] [] [] [0, 2, 5, 6] [] [] [] (big_h1 s t2 t6) = some (and (decide (0 ≤ t6)) (and (decide (t6 < (↑(slen s) : Int))) (and ((decide (t6 < (↑(slen s) : Int))) == true) (true))), big_h1 s (ior IntKind.u64 (ishl IntKind.u64 t2 8) (IntKind.u64.wrap (chr s t6.toNat))) (IntKind.i64.wrap (t6 + 1))) := by kernel_rfl
theorem big_p1_1 (s : ByteArray) (t2 : Int) (t6 : Int) : goFinB E noK 2000 12 (some [false]) [] [2] [] (big_h1 s t2 t6) = some (and ((decide (t6 < (↑(slen s) : Int))) == false) (true), Value.int IntKind.u64 t2, []) := by kernel_rfl
def big_t1 (s : ByteArray) (t2 : Int) (t6 : Int) : big_R :=
  bif decide (t6 < (↑(slen s) : Int)) then .inl ((ior IntKind.u64 (ishl IntKind.u64 t2 8) (IntKind.u64.wrap (chr s t6.toNat)), IntKind.i64.wrap (t6 + 1)))
  else .inr (t2)
def big_S1 (s : ByteArray) (t2 : Int) (t6 : Int) : Prop :=
  ((decide (t6 < (↑(slen s) : Int))) = true → (0 ≤ t6) ∧ (t6 < (↑(slen s) : Int))) ∧
  ((decide (t6 < (↑(slen s) : Int))) = false → True)
theorem big_ok1 (s : ByteArray) (t2 : Int) (t6 : Int) (hS : big_S1 s t2 t6) : big_Q s (big_h1 s t2 t6) (big_t1 s t2 t6) := by
  unfold big_S1 at hS
  unfold big_t1
  refine cond_intro (P := big_Q s (big_h1 s t2 t6)) _ (fun h0 => ?_) (fun h0 => ?_)
  · skip
    show Gets E 0 _ (big_h1 s (ior IntKind.u64 (ishl IntKind.u64 t2 8) (IntKind.u64.wrap (chr s t6.toNat))) (IntKind.i64.wrap (t6 + 1)))
    exact reach_gb noK_ok (big_p1_0 s t2 t6) (andI (decide_eq_true (hS.1 h0).1) (andI (decide_eq_true (hS.1 h0).2) (andI (dT h0) (rfl)))) (Nat.le_of_ble_eq_true (by kernel_rfl)) (fun i hi => absurd hi (Nat.not_lt_zero _)) (fun i hi => absurd hi (Nat.not_lt_zero _)) (Nat.le_of_ble_eq_true (by kernel_rfl))
  · skip
    exact ends_ofB noK_ok (big_p1_1 s t2 t6) (andI (dF h0) (rfl)) (by kernel_rfl) (Nat.le_of_ble_eq_true (by kernel_rfl)) (fun i hi => absurd hi (Nat.not_lt_zero _)) (fun i hi => absurd hi (Nat.not_lt_zero _))


noncomputable def mask_b1 (k0 : Int) (k1 : Int) (k2 : Int) (k3 : Int) (at' : Int) (s : ByteArray) : Cfg := cfgOf (goNil E noK 2000 28 (some [false]) [] [] [0, 1] [1, 3, 7, 15, 16] [] [] [] (startC E 27 ([Value.agg #[Value.int IntKind.u8 k0, Value.int IntKind.u8 k1, Value.int IntKind.u8 k2, Value.int IntKind.u8 k3], Value.int IntKind.i64 at', Value.string s]) ([])))
noncomputable def mask_h1 (k0 : Int) (k1 : Int) (k2 : Int) (k3 : Int) (at' : Int) (s : ByteArray) (t16 : Int) (l1 : List Value) : Cfg := wCells 1 l1 (wTmp 16 (Value.int IntKind.i64 t16) (mask_b1 k0 k1 k2 k3 at' s))
abbrev mask_R : Type := (Int × List Value) ⊕ (ByteArray)
def mask_V (k0 : Int) (k1 : Int) (k2 : Int) (k3 : Int) (at' : Int) (s : ByteArray) (r : ByteArray) : Value := Value.string r
def mask_H (k0 : Int) (k1 : Int) (k2 : Int) (k3 : Int) (at' : Int) (s : ByteArray) (r : ByteArray) : Heap := []
noncomputable def mask_Q (k0 : Int) (k1 : Int) (k2 : Int) (k3 : Int) (at' : Int) (s : ByteArray) (C : Cfg) (r : mask_R) : Prop :=
  match r with
  | .inl (p) => Gets E 0 C (mask_h1 k0 k1 k2 k3 at' s (p.1) (p.2))
  | .inr (p) => AEnds E 27 0 C (mask_V k0 k1 k2 k3 at' s p) (mask_H k0 k1 k2 k3 at' s p)
theorem mask_go1 {k0 : Int} {k1 : Int} {k2 : Int} {k3 : Int} {at' : Int} {s : ByteArray} {C : Cfg} {t16 : Int} {l1 : List Value} (h : mask_Q k0 k1 k2 k3 at' s C (.inl ((t16, l1)))) : Gets E 0 C (mask_h1 k0 k1 k2 k3 at' s t16 l1) := h
theorem mask_end {k0 : Int} {k1 : Int} {k2 : Int} {k3 : Int} {at' : Int} {s : ByteArray} {C : Cfg} {r : ByteArray} (h : mask_Q k0 k1 k2 k3 at' s C (.inr (r))) : AEnds E 27 0 C (mask_V k0 k1 k2 k3 at' s r) (mask_H k0 k1 k2 k3 at' s r) := h
theorem mask_p0_0 (k0 : Int) (k1 : Int) (k2 : Int) (k3 : Int) (at' : Int) (s : ByteArray) : goFinB E noK 2000 17 (some [true]) [] [6] [] (startC E 27 ([Value.agg #[Value.int IntKind.u8 k0, Value.int IntKind.u8 k1, Value.int IntKind.u8 k2, Value.int IntKind.u8 k3], Value.int IntKind.i64 at', Value.string s]) ([])) = some (and ((decide (at' < 0)) == true) (true), Value.string s, []) := by kernel_rfl
theorem mask_p0_1 (k0 : Int) (k1 : Int) (k2 : Int) (k3 : Int) (at' : Int) (s : ByteArray) : goNilB E noK 2000 28 (some [false]) [] [] [0, 1] [1, 3, 7, 15, 16] [] [] [] (startC E 27 ([Value.agg #[Value.int IntKind.u8 k0, Value.int IntKind.u8 k1, Value.int IntKind.u8 k2, Value.int IntKind.u8 k3], Value.int IntKind.i64 at', Value.string s]) ([])) = some (and ((ofBytes s).all flat) (and (decide (slen s ≤ 9223372036854775807)) (and ((decide (at' < 0)) == false) (true))), mask_h1 k0 k1 k2 k3 at' s (0) (ofBytes s)) := by kernel_rfl
def mask_t0 (k0 : Int) (k1 : Int) (k2 : Int) (k3 : Int) (at' : Int) (s : ByteArray) : mask_R :=
  bif decide (at' < 0) then .inr (s)
  else .inl ((0, ofBytes s))
def mask_S0 (k0 : Int) (k1 : Int) (k2 : Int) (k3 : Int) (at' : Int) (s : ByteArray) : Prop :=
  ((decide (at' < 0)) = true → True) ∧
  ((decide (at' < 0)) = false → (((ofBytes s).all flat) = true) ∧ (slen s ≤ 9223372036854775807))
theorem mask_ok0 (k0 : Int) (k1 : Int) (k2 : Int) (k3 : Int) (at' : Int) (s : ByteArray) (hS : mask_S0 k0 k1 k2 k3 at' s) : mask_Q k0 k1 k2 k3 at' s (startC E 27 ([Value.agg #[Value.int IntKind.u8 k0, Value.int IntKind.u8 k1, Value.int IntKind.u8 k2, Value.int IntKind.u8 k3], Value.int IntKind.i64 at', Value.string s]) ([])) (mask_t0 k0 k1 k2 k3 at' s) := by
  unfold mask_S0 at hS
  unfold mask_t0
  refine cond_intro (P := mask_Q k0 k1 k2 k3 at' s (startC E 27 ([Value.agg #[Value.int IntKind.u8 k0, Value.int IntKind.u8 k1, Value.int IntKind.u8 k2, Value.int IntKind.u8 k3], Value.int IntKind.i64 at', Value.string s]) ([]))) _ (fun h0 => ?_) (fun h0 => ?_)
  · skip
    exact ends_ofB noK_ok (mask_p0_0 k0 k1 k2 k3 at' s) (andI (dT h0) (rfl)) (by kernel_rfl) (Nat.le_of_ble_eq_true (by kernel_rfl)) (fun i hi => absurd hi (Nat.not_lt_zero _)) (fun i hi => absurd hi (Nat.not_lt_zero _))
  · skip
    show Gets E 0 _ (mask_h1 k0 k1 k2 k3 at' s (0) (ofBytes s))
    exact reach_gb noK_ok (mask_p0_1 k0 k1 k2 k3 at' s) (andI ((hS.2 h0).1) (andI (decide_eq_true (hS.2 h0).2) (andI (dF h0) (rfl)))) (Nat.le_of_ble_eq_true (by kernel_rfl)) (fun i hi => absurd hi (Nat.not_lt_zero _)) (fun i hi => absurd hi (Nat.not_lt_zero _)) (Nat.le_of_ble_eq_true (by kernel_rfl))
theorem mask_p1_0 (k0 : Int) (k1 : Int) (k2 : Int) (k3 : Int) (at' : Int) (s : ByteArray) (t16 : Int) (l1 : List Value) : goNilB E noK 2000 21 (some [true]) [] [] [0, 1] [1, 3, 7, 15, 16] [] [] [] (mask_h1 k0 k1 k2 k3 at' s t16 l1) = some (and ((setN l1 (0 + t16.toNat * 1) [Value.int IntKind.u8 (ixor IntKind.u8 (toInt (l1.getD (0 + t16.toNat * 1) undef)) (toInt ([Value.int IntKind.u8 k0, Value.int IntKind.u8 k1, Value.int IntKind.u8 k2, Value.int IntKind.u8 k3].getD (0 + ((IntKind.i64.wrap (at'.tmod 4 + t16)).tmod 4).toNat * 1) undef)))]).all flat) (and (decide (0 + t16.toNat * 1 + 1 ≤ l1.length)) (and (decide (0 ≤ t16)) (and (decide (t16 < (↑(slen s) : Int))) (and (decide (0 + ((IntKind.i64.wrap (at'.tmod 4 + t16)).tmod 4).toNat * 1 < 4)) (and (isInt IntKind.u8 ([Value.int IntKind.u8 k0, Value.int IntKind.u8 k1, Value.int IntKind.u8 k2, Value.int IntKind.u8 k3].getD (0 + ((IntKind.i64.wrap (at'.tmod 4 + t16)).tmod 4).toNat * 1) undef)) (and (decide (0 ≤ (IntKind.i64.wrap (at'.tmod 4 + t16)).tmod 4)) (and (decide ((IntKind.i64.wrap (at'.tmod 4 + t16)).tmod 4 < 4)) (and (decide (0 + t16.toNat * 1 < l1.length)) (and (isInt IntKind.u8 (l1.getD (0 + t16.toNat * 1) undef)) (and (decide (0 ≤ t16)) (and (decide (t16 < (↑(slen s) : Int))) (and ((decide (t16 < (↑(slen s) : Int))) == true) (true))))))))))))), mask_h1 k0 k1 k2 k3 at' s (IntKind.i64.wrap (t16 + 1)) (setN l1 (0 + t16.toNat * 1) [Value.int IntKind.u8 (ixor IntKind.u8 (toInt (l1.getD (0 + t16.toNat * 1) undef)) (toInt ([Value.int IntKind.u8 k0, Value.int IntKind.u8 k1, Value.int IntKind.u8 k2, Value.int IntKind.u8 k3].getD (0 + ((IntKind.i64.wrap (at'.tmod 4 + t16)).tmod 4).toNat * 1) undef)))])) := by kernel_rfl
theorem mask_p1_1 (k0 : Int) (k1 : Int) (k2 : Int) (k3 : Int) (at' : Int) (s : ByteArray) (t16 : Int) (l1 : List Value) : goFinB E noK 2000 13 (some [false]) [] [6] [] (mask_h1 k0 k1 k2 k3 at' s t16 l1) = some (and ((List.take (slen s * 1) (List.drop 0 l1)).all (isInt IntKind.u8)) (and (decide (0 + slen s * 1 ≤ l1.length)) (and ((decide (t16 < (↑(slen s) : Int))) == false) (true))), Value.string (bytesOf (List.take (slen s * 1) (List.drop 0 l1))), []) := by kernel_rfl
def mask_t1 (k0 : Int) (k1 : Int) (k2 : Int) (k3 : Int) (at' : Int) (s : ByteArray) (t16 : Int) (l1 : List Value) : mask_R :=
  bif decide (t16 < (↑(slen s) : Int)) then .inl ((IntKind.i64.wrap (t16 + 1), setN l1 (0 + t16.toNat * 1) [Value.int IntKind.u8 (ixor IntKind.u8 (toInt (l1.getD (0 + t16.toNat * 1) undef)) (toInt ([Value.int IntKind.u8 k0, Value.int IntKind.u8 k1, Value.int IntKind.u8 k2, Value.int IntKind.u8 k3].getD (0 + ((IntKind.i64.wrap (at'.tmod 4 + t16)).tmod 4).toNat * 1) undef)))]))
  else .inr (bytesOf (List.take (slen s * 1) (List.drop 0 l1)))
def mask_S1 (k0 : Int) (k1 : Int) (k2 : Int) (k3 : Int) (at' : Int) (s : ByteArray) (t16 : Int) (l1 : List Value) : Prop :=
  ((decide (t16 < (↑(slen s) : Int))) = true → (((setN l1 (0 + t16.toNat * 1) [Value.int IntKind.u8 (ixor IntKind.u8 (toInt (l1.getD (0 + t16.toNat * 1) undef)) (toInt ([Value.int IntKind.u8 k0, Value.int IntKind.u8 k1, Value.int IntKind.u8 k2, Value.int IntKind.u8 k3].getD (0 + ((IntKind.i64.wrap (at'.tmod 4 + t16)).tmod 4).toNat * 1) undef)))]).all flat) = true) ∧ (0 + t16.toNat * 1 + 1 ≤ l1.length) ∧ (0 ≤ t16) ∧ (t16 < (↑(slen s) : Int)) ∧ (0 + ((IntKind.i64.wrap (at'.tmod 4 + t16)).tmod 4).toNat * 1 < 4) ∧ ((isInt IntKind.u8 ([Value.int IntKind.u8 k0, Value.int IntKind.u8 k1, Value.int IntKind.u8 k2, Value.int IntKind.u8 k3].getD (0 + ((IntKind.i64.wrap (at'.tmod 4 + t16)).tmod 4).toNat * 1) undef)) = true) ∧ (0 ≤ (IntKind.i64.wrap (at'.tmod 4 + t16)).tmod 4) ∧ ((IntKind.i64.wrap (at'.tmod 4 + t16)).tmod 4 < 4) ∧ (0 + t16.toNat * 1 < l1.length) ∧ ((isInt IntKind.u8 (l1.getD (0 + t16.toNat * 1) undef)) = true)) ∧
  ((decide (t16 < (↑(slen s) : Int))) = false → (((List.take (slen s * 1) (List.drop 0 l1)).all (isInt IntKind.u8)) = true) ∧ (0 + slen s * 1 ≤ l1.length))
theorem mask_ok1 (k0 : Int) (k1 : Int) (k2 : Int) (k3 : Int) (at' : Int) (s : ByteArray) (t16 : Int) (l1 : List Value) (hS : mask_S1 k0 k1 k2 k3 at' s t16 l1) : mask_Q k0 k1 k2 k3 at' s (mask_h1 k0 k1 k2 k3 at' s t16 l1) (mask_t1 k0 k1 k2 k3 at' s t16 l1) := by
  unfold mask_S1 at hS
  unfold mask_t1
  refine cond_intro (P := mask_Q k0 k1 k2 k3 at' s (mask_h1 k0 k1 k2 k3 at' s t16 l1)) _ (fun h0 => ?_) (fun h0 => ?_)
  · skip
    show Gets E 0 _ (mask_h1 k0 k1 k2 k3 at' s (IntKind.i64.wrap (t16 + 1)) (setN l1 (0 + t16.toNat * 1) [Value.int IntKind.u8 (ixor IntKind.u8 (toInt (l1.getD (0 + t16.toNat * 1) undef)) (toInt ([Value.int IntKind.u8 k0, Value.int IntKind.u8 k1, Value.int IntKind.u8 k2, Value.int IntKind.u8 k3].getD (0 + ((IntKind.i64.wrap (at'.tmod 4 + t16)).tmod 4).toNat * 1) undef)))]))
    exact reach_gb noK_ok (mask_p1_0 k0 k1 k2 k3 at' s t16 l1) (andI ((hS.1 h0).1) (andI (decide_eq_true (hS.1 h0).2.1) (andI (decide_eq_true (hS.1 h0).2.2.1) (andI (decide_eq_true (hS.1 h0).2.2.2.1) (andI (decide_eq_true (hS.1 h0).2.2.2.2.1) (andI ((hS.1 h0).2.2.2.2.2.1) (andI (decide_eq_true (hS.1 h0).2.2.2.2.2.2.1) (andI (decide_eq_true (hS.1 h0).2.2.2.2.2.2.2.1) (andI (decide_eq_true (hS.1 h0).2.2.2.2.2.2.2.2.1) (andI ((hS.1 h0).2.2.2.2.2.2.2.2.2) (andI (decide_eq_true (hS.1 h0).2.2.1) (andI (decide_eq_true (hS.1 h0).2.2.2.1) (andI (dT h0) (rfl)))))))))))))) (Nat.le_of_ble_eq_true (by kernel_rfl)) (fun i hi => absurd hi (Nat.not_lt_zero _)) (fun i hi => absurd hi (Nat.not_lt_zero _)) (Nat.le_of_ble_eq_true (by kernel_rfl))
  · skip
    exact ends_ofB noK_ok (mask_p1_1 k0 k1 k2 k3 at' s t16 l1) (andI ((hS.2 h0).1) (andI (decide_eq_true (hS.2 h0).2) (andI (dF h0) (rfl)))) (by kernel_rfl) (Nat.le_of_ble_eq_true (by kernel_rfl)) (fun i hi => absurd hi (Nat.not_lt_zero _)) (fun i hi => absurd hi (Nat.not_lt_zero _))


noncomputable def rmask_b1 (k0 : Int) (k1 : Int) (k2 : Int) (k3 : Int) (at' : Int) (s : ByteArray) : Cfg := cfgOf (goNil E noK 2000 30 (some [false]) [] [] [0] [1, 2, 3, 7, 8] [⟨true, 7, 0, 5, 1⟩] [0, 1] [1, 2, 3, 7, 8] (startC E 25 ([Value.agg #[Value.int IntKind.u8 k0, Value.int IntKind.u8 k1, Value.int IntKind.u8 k2, Value.int IntKind.u8 k3], Value.int IntKind.i64 at', Value.string s]) ([])))
noncomputable def rmask_h1 (k0 : Int) (k1 : Int) (k2 : Int) (k3 : Int) (at' : Int) (s : ByteArray) (t1 : Int) (t7n : Nat) (t8 : Int) (l1 : List Value) : Cfg := wCells 1 l1 (wTmp 8 (Value.int IntKind.i64 t8) (wTmp 7 (Value.slice (some { block := 1, off := 0 }) t7n 0) (wTmp 1 (Value.int IntKind.i64 t1) (rmask_b1 k0 k1 k2 k3 at' s))))
abbrev rmask_R : Type := (Int × Nat × Int × List Value) ⊕ (ByteArray)
def rmask_V (k0 : Int) (k1 : Int) (k2 : Int) (k3 : Int) (at' : Int) (s : ByteArray) (r : ByteArray) : Value := Value.string r
def rmask_H (k0 : Int) (k1 : Int) (k2 : Int) (k3 : Int) (at' : Int) (s : ByteArray) (r : ByteArray) : Heap := []
noncomputable def rmask_Q (k0 : Int) (k1 : Int) (k2 : Int) (k3 : Int) (at' : Int) (s : ByteArray) (C : Cfg) (r : rmask_R) : Prop :=
  match r with
  | .inl (p) => Gets E 0 C (rmask_h1 k0 k1 k2 k3 at' s (p.1) (p.2.1) (p.2.2.1) (p.2.2.2))
  | .inr (p) => AEnds E 25 0 C (rmask_V k0 k1 k2 k3 at' s p) (rmask_H k0 k1 k2 k3 at' s p)
theorem rmask_go1 {k0 : Int} {k1 : Int} {k2 : Int} {k3 : Int} {at' : Int} {s : ByteArray} {C : Cfg} {t1 : Int} {t7n : Nat} {t8 : Int} {l1 : List Value} (h : rmask_Q k0 k1 k2 k3 at' s C (.inl ((t1, t7n, t8, l1)))) : Gets E 0 C (rmask_h1 k0 k1 k2 k3 at' s t1 t7n t8 l1) := h
theorem rmask_end {k0 : Int} {k1 : Int} {k2 : Int} {k3 : Int} {at' : Int} {s : ByteArray} {C : Cfg} {r : ByteArray} (h : rmask_Q k0 k1 k2 k3 at' s C (.inr (r))) : AEnds E 25 0 C (rmask_V k0 k1 k2 k3 at' s r) (rmask_H k0 k1 k2 k3 at' s r) := h
theorem rmask_p0_0 (k0 : Int) (k1 : Int) (k2 : Int) (k3 : Int) (at' : Int) (s : ByteArray) : goFinB E noK 2000 17 (some [true]) [] [6] [] (startC E 25 ([Value.agg #[Value.int IntKind.u8 k0, Value.int IntKind.u8 k1, Value.int IntKind.u8 k2, Value.int IntKind.u8 k3], Value.int IntKind.i64 at', Value.string s]) ([])) = some (and ((decide (at' < 0)) == true) (true), Value.string s, []) := by kernel_rfl
theorem rmask_p0_1 (k0 : Int) (k1 : Int) (k2 : Int) (k3 : Int) (at' : Int) (s : ByteArray) : goNilB E noK 2000 30 (some [false]) [] [] [0] [1, 2, 3, 7, 8] [⟨true, 7, 0, 5, 1⟩] [0, 1] [1, 2, 3, 7, 8] (startC E 25 ([Value.agg #[Value.int IntKind.u8 k0, Value.int IntKind.u8 k1, Value.int IntKind.u8 k2, Value.int IntKind.u8 k3], Value.int IntKind.i64 at', Value.string s]) ([])) = some (and ((decide (at' < 0)) == false) (true), rmask_h1 k0 k1 k2 k3 at' s (at'.tmod 4) (0) (0) ([])) := by kernel_rfl
def rmask_t0 (k0 : Int) (k1 : Int) (k2 : Int) (k3 : Int) (at' : Int) (s : ByteArray) : rmask_R :=
  bif decide (at' < 0) then .inr (s)
  else .inl ((at'.tmod 4, 0, 0, []))
def rmask_S0 (k0 : Int) (k1 : Int) (k2 : Int) (k3 : Int) (at' : Int) (s : ByteArray) : Prop :=
  True
theorem rmask_ok0 (k0 : Int) (k1 : Int) (k2 : Int) (k3 : Int) (at' : Int) (s : ByteArray) (hS : rmask_S0 k0 k1 k2 k3 at' s) : rmask_Q k0 k1 k2 k3 at' s (startC E 25 ([Value.agg #[Value.int IntKind.u8 k0, Value.int IntKind.u8 k1, Value.int IntKind.u8 k2, Value.int IntKind.u8 k3], Value.int IntKind.i64 at', Value.string s]) ([])) (rmask_t0 k0 k1 k2 k3 at' s) := by
  unfold rmask_S0 at hS
  unfold rmask_t0
  refine cond_intro (P := rmask_Q k0 k1 k2 k3 at' s (startC E 25 ([Value.agg #[Value.int IntKind.u8 k0, Value.int IntKind.u8 k1, Value.int IntKind.u8 k2, Value.int IntKind.u8 k3], Value.int IntKind.i64 at', Value.string s]) ([]))) _ (fun h0 => ?_) (fun h0 => ?_)
  · skip
    exact ends_ofB noK_ok (rmask_p0_0 k0 k1 k2 k3 at' s) (andI (dT h0) (rfl)) (by kernel_rfl) (Nat.le_of_ble_eq_true (by kernel_rfl)) (fun i hi => absurd hi (Nat.not_lt_zero _)) (fun i hi => absurd hi (Nat.not_lt_zero _))
  · skip
    show Gets E 0 _ (rmask_h1 k0 k1 k2 k3 at' s (at'.tmod 4) (0) (0) ([]))
    exact reach_gb noK_ok (rmask_p0_1 k0 k1 k2 k3 at' s) (andI (dF h0) (rfl)) (Nat.le_of_ble_eq_true (by kernel_rfl)) (fun i hi => absurd hi (Nat.not_lt_zero _)) (fun i hi => absurd hi (Nat.not_lt_zero _)) (Nat.le_of_ble_eq_true (by kernel_rfl))
theorem rmask_p1_0 (k0 : Int) (k1 : Int) (k2 : Int) (k3 : Int) (at' : Int) (s : ByteArray) (t1 : Int) (t7n : Nat) (t8 : Int) (l1 : List Value) : goNilB E noK 2000 36 (some [true, true]) [] [] [0, 3] [1, 2, 3, 7, 8] [] [] [] (rmask_h1 k0 k1 k2 k3 at' s t1 t7n t8 l1) = some (and ((List.take (t7n * 1) (List.drop 0 l1) ++ [Value.int IntKind.u8 (ixor IntKind.u8 (chr s t8.toNat) (toInt ([Value.int IntKind.u8 k0, Value.int IntKind.u8 k1, Value.int IntKind.u8 k2, Value.int IntKind.u8 k3].getD (0 + t1.toNat * 1) undef)))]).all flat) (and ((IntKind.i64.wrap (t1 + 1) == 4) == true) (and (t7n == t7n) (and (decide (0 + t7n * 1 ≤ l1.length)) (and (decide ((t7n + 1) * 1 ≤ 140737488355328)) (and (decide (t7n + 1 ≤ 9223372036854775807)) (and (decide (0 + t1.toNat * 1 < 4)) (and (isInt IntKind.u8 ([Value.int IntKind.u8 k0, Value.int IntKind.u8 k1, Value.int IntKind.u8 k2, Value.int IntKind.u8 k3].getD (0 + t1.toNat * 1) undef)) (and (decide (0 ≤ t1)) (and (decide (t1 < 4)) (and (decide (0 ≤ t8)) (and (decide (t8 < (↑(slen s) : Int))) (and ((decide (t8 < (↑(slen s) : Int))) == true) (true))))))))))))), rmask_h1 k0 k1 k2 k3 at' s (0) (t7n + 1) (IntKind.i64.wrap (t8 + 1)) (List.take (t7n * 1) (List.drop 0 l1) ++ [Value.int IntKind.u8 (ixor IntKind.u8 (chr s t8.toNat) (toInt ([Value.int IntKind.u8 k0, Value.int IntKind.u8 k1, Value.int IntKind.u8 k2, Value.int IntKind.u8 k3].getD (0 + t1.toNat * 1) undef)))])) := by kernel_rfl
theorem rmask_p1_1 (k0 : Int) (k1 : Int) (k2 : Int) (k3 : Int) (at' : Int) (s : ByteArray) (t1 : Int) (t7n : Nat) (t8 : Int) (l1 : List Value) : goFinB E noK 2000 16 (some [false]) [] [6] [] (rmask_h1 k0 k1 k2 k3 at' s t1 t7n t8 l1) = some (and ((List.take (t7n * 1) (List.drop 0 l1)).all (isInt IntKind.u8)) (and (decide (0 + t7n * 1 ≤ l1.length)) (and ((decide (t8 < (↑(slen s) : Int))) == false) (true))), Value.string (bytesOf (List.take (t7n * 1) (List.drop 0 l1))), []) := by kernel_rfl
theorem rmask_p1_2 (k0 : Int) (k1 : Int) (k2 : Int) (k3 : Int) (at' : Int) (s : ByteArray) (t1 : Int) (t7n : Nat) (t8 : Int) (l1 : List Value) : goNilB E noK 2000 34 (some [true, false]) [] [] [0, 3] [1, 2, 3, 7, 8] [] [] [] (rmask_h1 k0 k1 k2 k3 at' s t1 t7n t8 l1) = some (and ((List.take (t7n * 1) (List.drop 0 l1) ++ [Value.int IntKind.u8 (ixor IntKind.u8 (chr s t8.toNat) (toInt ([Value.int IntKind.u8 k0, Value.int IntKind.u8 k1, Value.int IntKind.u8 k2, Value.int IntKind.u8 k3].getD (0 + t1.toNat * 1) undef)))]).all flat) (and ((IntKind.i64.wrap (t1 + 1) == 4) == false) (and (t7n == t7n) (and (decide (0 + t7n * 1 ≤ l1.length)) (and (decide ((t7n + 1) * 1 ≤ 140737488355328)) (and (decide (t7n + 1 ≤ 9223372036854775807)) (and (decide (0 + t1.toNat * 1 < 4)) (and (isInt IntKind.u8 ([Value.int IntKind.u8 k0, Value.int IntKind.u8 k1, Value.int IntKind.u8 k2, Value.int IntKind.u8 k3].getD (0 + t1.toNat * 1) undef)) (and (decide (0 ≤ t1)) (and (decide (t1 < 4)) (and (decide (0 ≤ t8)) (and (decide (t8 < (↑(slen s) : Int))) (and ((decide (t8 < (↑(slen s) : Int))) == true) (true))))))))))))), rmask_h1 k0 k1 k2 k3 at' s (IntKind.i64.wrap (t1 + 1)) (t7n + 1) (IntKind.i64.wrap (t8 + 1)) (List.take (t7n * 1) (List.drop 0 l1) ++ [Value.int IntKind.u8 (ixor IntKind.u8 (chr s t8.toNat) (toInt ([Value.int IntKind.u8 k0, Value.int IntKind.u8 k1, Value.int IntKind.u8 k2, Value.int IntKind.u8 k3].getD (0 + t1.toNat * 1) undef)))])) := by kernel_rfl
def rmask_t1 (k0 : Int) (k1 : Int) (k2 : Int) (k3 : Int) (at' : Int) (s : ByteArray) (t1 : Int) (t7n : Nat) (t8 : Int) (l1 : List Value) : rmask_R :=
  bif decide (t8 < (↑(slen s) : Int)) then bif IntKind.i64.wrap (t1 + 1) == 4 then .inl ((0, t7n + 1, IntKind.i64.wrap (t8 + 1), List.take (t7n * 1) (List.drop 0 l1) ++ [Value.int IntKind.u8 (ixor IntKind.u8 (chr s t8.toNat) (toInt ([Value.int IntKind.u8 k0, Value.int IntKind.u8 k1, Value.int IntKind.u8 k2, Value.int IntKind.u8 k3].getD (0 + t1.toNat * 1) undef)))]))
    else .inl ((IntKind.i64.wrap (t1 + 1), t7n + 1, IntKind.i64.wrap (t8 + 1), List.take (t7n * 1) (List.drop 0 l1) ++ [Value.int IntKind.u8 (ixor IntKind.u8 (chr s t8.toNat) (toInt ([Value.int IntKind.u8 k0, Value.int IntKind.u8 k1, Value.int IntKind.u8 k2, Value.int IntKind.u8 k3].getD (0 + t1.toNat * 1) undef)))]))
  else .inr (bytesOf (List.take (t7n * 1) (List.drop 0 l1)))
def rmask_S1 (k0 : Int) (k1 : Int) (k2 : Int) (k3 : Int) (at' : Int) (s : ByteArray) (t1 : Int) (t7n : Nat) (t8 : Int) (l1 : List Value) : Prop :=
  ((decide (t8 < (↑(slen s) : Int))) = true → ((IntKind.i64.wrap (t1 + 1) == 4) = true → (((List.take (t7n * 1) (List.drop 0 l1) ++ [Value.int IntKind.u8 (ixor IntKind.u8 (chr s t8.toNat) (toInt ([Value.int IntKind.u8 k0, Value.int IntKind.u8 k1, Value.int IntKind.u8 k2, Value.int IntKind.u8 k3].getD (0 + t1.toNat * 1) undef)))]).all flat) = true) ∧ ((t7n == t7n) = true) ∧ (0 + t7n * 1 ≤ l1.length) ∧ ((t7n + 1) * 1 ≤ 140737488355328) ∧ (t7n + 1 ≤ 9223372036854775807) ∧ (0 + t1.toNat * 1 < 4) ∧ ((isInt IntKind.u8 ([Value.int IntKind.u8 k0, Value.int IntKind.u8 k1, Value.int IntKind.u8 k2, Value.int IntKind.u8 k3].getD (0 + t1.toNat * 1) undef)) = true) ∧ (0 ≤ t1) ∧ (t1 < 4) ∧ (0 ≤ t8) ∧ (t8 < (↑(slen s) : Int))) ∧
    ((IntKind.i64.wrap (t1 + 1) == 4) = false → (((List.take (t7n * 1) (List.drop 0 l1) ++ [Value.int IntKind.u8 (ixor IntKind.u8 (chr s t8.toNat) (toInt ([Value.int IntKind.u8 k0, Value.int IntKind.u8 k1, Value.int IntKind.u8 k2, Value.int IntKind.u8 k3].getD (0 + t1.toNat * 1) undef)))]).all flat) = true) ∧ ((t7n == t7n) = true) ∧ (0 + t7n * 1 ≤ l1.length) ∧ ((t7n + 1) * 1 ≤ 140737488355328) ∧ (t7n + 1 ≤ 9223372036854775807) ∧ (0 + t1.toNat * 1 < 4) ∧ ((isInt IntKind.u8 ([Value.int IntKind.u8 k0, Value.int IntKind.u8 k1, Value.int IntKind.u8 k2, Value.int IntKind.u8 k3].getD (0 + t1.toNat * 1) undef)) = true) ∧ (0 ≤ t1) ∧ (t1 < 4) ∧ (0 ≤ t8) ∧ (t8 < (↑(slen s) : Int)))) ∧
  ((decide (t8 < (↑(slen s) : Int))) = false → (((List.take (t7n * 1) (List.drop 0 l1)).all (isInt IntKind.u8)) = true) ∧ (0 + t7n * 1 ≤ l1.length))
theorem rmask_ok1 (k0 : Int) (k1 : Int) (k2 : Int) (k3 : Int) (at' : Int) (s : ByteArray) (t1 : Int) (t7n : Nat) (t8 : Int) (l1 : List Value) (hS : rmask_S1 k0 k1 k2 k3 at' s t1 t7n t8 l1) : rmask_Q k0 k1 k2 k3 at' s (rmask_h1 k0 k1 k2 k3 at' s t1 t7n t8 l1) (rmask_t1 k0 k1 k2 k3 at' s t1 t7n t8 l1) := by
  unfold rmask_S1 at hS
  unfold rmask_t1
  refine cond_intro (P := rmask_Q k0 k1 k2 k3 at' s (rmask_h1 k0 k1 k2 k3 at' s t1 t7n t8 l1)) _ (fun h0 => ?_) (fun h0 => ?_)
  · skip
    refine cond_intro (P := rmask_Q k0 k1 k2 k3 at' s (rmask_h1 k0 k1 k2 k3 at' s t1 t7n t8 l1)) _ (fun h1 => ?_) (fun h1 => ?_)
    · skip
      show Gets E 0 _ (rmask_h1 k0 k1 k2 k3 at' s (0) (t7n + 1) (IntKind.i64.wrap (t8 + 1)) (List.take (t7n * 1) (List.drop 0 l1) ++ [Value.int IntKind.u8 (ixor IntKind.u8 (chr s t8.toNat) (toInt ([Value.int IntKind.u8 k0, Value.int IntKind.u8 k1, Value.int IntKind.u8 k2, Value.int IntKind.u8 k3].getD (0 + t1.toNat * 1) undef)))]))
      exact reach_gb noK_ok (rmask_p1_0 k0 k1 k2 k3 at' s t1 t7n t8 l1) (andI (((hS.1 h0).1 h1).1) (andI (dT h1) (andI (((hS.1 h0).1 h1).2.1) (andI (decide_eq_true ((hS.1 h0).1 h1).2.2.1) (andI (decide_eq_true ((hS.1 h0).1 h1).2.2.2.1) (andI (decide_eq_true ((hS.1 h0).1 h1).2.2.2.2.1) (andI (decide_eq_true ((hS.1 h0).1 h1).2.2.2.2.2.1) (andI (((hS.1 h0).1 h1).2.2.2.2.2.2.1) (andI (decide_eq_true ((hS.1 h0).1 h1).2.2.2.2.2.2.2.1) (andI (decide_eq_true ((hS.1 h0).1 h1).2.2.2.2.2.2.2.2.1) (andI (decide_eq_true ((hS.1 h0).1 h1).2.2.2.2.2.2.2.2.2.1) (andI (decide_eq_true ((hS.1 h0).1 h1).2.2.2.2.2.2.2.2.2.2) (andI (dT h0) (rfl)))))))))))))) (Nat.le_of_ble_eq_true (by kernel_rfl)) (fun i hi => absurd hi (Nat.not_lt_zero _)) (fun i hi => absurd hi (Nat.not_lt_zero _)) (Nat.le_of_ble_eq_true (by kernel_rfl))
    · skip
      show Gets E 0 _ (rmask_h1 k0 k1 k2 k3 at' s (IntKind.i64.wrap (t1 + 1)) (t7n + 1) (IntKind.i64.wrap (t8 + 1)) (List.take (t7n * 1) (List.drop 0 l1) ++ [Value.int IntKind.u8 (ixor IntKind.u8 (chr s t8.toNat) (toInt ([Value.int IntKind.u8 k0, Value.int IntKind.u8 k1, Value.int IntKind.u8 k2, Value.int IntKind.u8 k3].getD (0 + t1.toNat * 1) undef)))]))
      exact reach_gb noK_ok (rmask_p1_2 k0 k1 k2 k3 at' s t1 t7n t8 l1) (andI (((hS.1 h0).2 h1).1) (andI (dF h1) (andI (((hS.1 h0).2 h1).2.1) (andI (decide_eq_true ((hS.1 h0).2 h1).2.2.1) (andI (decide_eq_true ((hS.1 h0).2 h1).2.2.2.1) (andI (decide_eq_true ((hS.1 h0).2 h1).2.2.2.2.1) (andI (decide_eq_true ((hS.1 h0).2 h1).2.2.2.2.2.1) (andI (((hS.1 h0).2 h1).2.2.2.2.2.2.1) (andI (decide_eq_true ((hS.1 h0).2 h1).2.2.2.2.2.2.2.1) (andI (decide_eq_true ((hS.1 h0).2 h1).2.2.2.2.2.2.2.2.1) (andI (decide_eq_true ((hS.1 h0).2 h1).2.2.2.2.2.2.2.2.2.1) (andI (decide_eq_true ((hS.1 h0).2 h1).2.2.2.2.2.2.2.2.2.2) (andI (dT h0) (rfl)))))))))))))) (Nat.le_of_ble_eq_true (by kernel_rfl)) (fun i hi => absurd hi (Nat.not_lt_zero _)) (fun i hi => absurd hi (Nat.not_lt_zero _)) (Nat.le_of_ble_eq_true (by kernel_rfl))
  · skip
    exact ends_ofB noK_ok (rmask_p1_1 k0 k1 k2 k3 at' s t1 t7n t8 l1) (andI ((hS.2 h0).1) (andI (decide_eq_true (hS.2 h0).2) (andI (dF h0) (rfl)))) (by kernel_rfl) (Nat.le_of_ble_eq_true (by kernel_rfl)) (fun i hi => absurd hi (Nat.not_lt_zero _)) (fun i hi => absurd hi (Nat.not_lt_zero _))


end Go.Proofs.Ytfmcohbagbafmaa
