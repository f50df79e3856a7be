/-
  Masks, numbers, as plain functions.
-/
import Derived.Test.YtfpnjpbdaniomaaAmSlim
import Derived.Test.YtfpnjpbdaniomaaEnv
set_option linter.unusedVariables false
set_option linter.unusedSimpArgs false
open Go Go.Am
namespace Go.Proofs.Ytfpnjpbdaniomaa

noncomputable def big_b1 (s : ByteArray) : Cfg := cfgOf (goNil E noK 2000 13 (some []) [] [] [] [0, 2, 5, 6] [] [] [] (startC E 78 ([.string s]) ([])))
noncomputable def big_h1 (s : ByteArray) (t2 t6 : Int) : Cfg := wTmp 6 (.int .i64 t6) (wTmp 2 (.int .u64 t2) (big_b1 s))
abbrev big_R : Type := (Int × Int) ⊕ (Int)
def big_V (s : ByteArray) (r : Int) : Value := .int .u64 r
def big_H (s : ByteArray) (r : Int) : Heap := []
noncomputable def big_Q (s : ByteArray) (C : Cfg) (r : big_R) : Prop :=
 match r with
 | .inl (p) => Gets E 0 C (big_h1 s (p.1) (p.2))
 | .inr (p) => AEnds E 78 0 C (big_V s p) (big_H s p)
theorem big_go1 {s : ByteArray} {C : Cfg} {t2 : Int} {t6 : Int} (h : big_Q s C (.inl ((t2, t6)))) : Gets E 0 C (big_h1 s t2 t6) := h
theorem big_end {s : ByteArray} {C : Cfg} {r : Int} (h : big_Q s C (.inr (r))) : AEnds E 78 0 C (big_V s r) (big_H s r) := h
noncomputable def big_t0 (s : ByteArray) : big_R :=
 .inl ((0, 0))
def big_S0 (s : ByteArray) : Prop :=
 True
theorem big_ok0 (s : ByteArray) (hS : big_S0 s) : big_Q s (startC E 78 ([.string s]) ([])) (big_t0 s) := by
 unfold big_S0 at hS
 unfold big_t0
 show Gets E 0 _ (big_h1 s (0) (0))
 exact reach_q noK_ok 2000 13 (some []) [] [] [] [0, 2, 5, 6] [] [] [] (rfl)
noncomputable def big_t1 (s : ByteArray) (t2 t6 : Int) : big_R :=
 bif decide (t6 < ((slen s) : Int)) then .inl ((ior IntKind.u64 (ishl IntKind.u64 t2 8) (IntKind.u64.wrap (chr s t6.toNat)), IntKind.i64.wrap (t6 + 1)))
 else .inr (t2)
def big_S1 (s : ByteArray) (t2 t6 : Int) : Prop :=
 ((decide (t6 < ((slen s) : Int))) = true → (0 ≤ t6) ∧ (t6 < ((slen s) : Int))) ∧
 ((decide (t6 < ((slen s) : Int))) = false → True)
theorem big_ok1 (s : ByteArray) (t2 t6 : Int) (hS : big_S1 s t2 t6) : big_Q s (big_h1 s t2 t6) (big_t1 s t2 t6) := by
 unfold big_S1 at hS
 unfold big_t1
 refine cond_intro (P := big_Q s (big_h1 s t2 t6)) _ (fun h0 => ?_) (fun h0 => ?_)
 ·skip
  show Gets E 0 _ (big_h1 s (ior IntKind.u64 (ishl IntKind.u64 t2 8) (IntKind.u64.wrap (chr s t6.toNat))) (IntKind.i64.wrap (t6 + 1)))
  exact reach_q noK_ok 2000 30 (bs 1 1) [] [] [] [0, 2, 5, 6] [] [] [] (andI (decide_eq_true (hS.1 h0).1) (andI (decide_eq_true (hS.1 h0).2) (andI (dT h0) rfl)))
 ·skip
  exact ends_q noK_ok 2000 12 (bs 1 0) [] [2] [] (andI (dF h0) rfl)


noncomputable def mask_b1 (k0 k1 : Int) (k2 k3 at' : Int) (s : ByteArray) : Cfg := cfgOf (goNil E noK 2000 28 (bs 1 0) [] [] [0, 1] [1, 3, 7, 15, 16] [] [] [] (startC E 75 ([.agg #[.int .u8 k0, .int .u8 k1, .int .u8 k2, .int .u8 k3], .int .i64 at', .string s]) ([])))
noncomputable def mask_h1 (k0 k1 : Int) (k2 k3 at' : Int) (s : ByteArray) (t16 : Int) (l1 : List Value) : Cfg := wCells 1 l1 (wTmp 16 (.int .i64 t16) (mask_b1 k0 k1 k2 k3 at' s))
abbrev mask_R : Type := (Int × List Value) ⊕ (ByteArray)
def mask_V (k0 k1 : Int) (k2 k3 at' : Int) (s r : ByteArray) : Value := .string r
def mask_H (k0 k1 : Int) (k2 k3 at' : Int) (s r : ByteArray) : Heap := []
noncomputable def mask_Q (k0 k1 : Int) (k2 k3 at' : Int) (s : ByteArray) (C : Cfg) (r : mask_R) : Prop :=
 match r with
 | .inl (p) => Gets E 0 C (mask_h1 k0 k1 k2 k3 at' s (p.1) (p.2))
 | .inr (p) => AEnds E 75 0 C (mask_V k0 k1 k2 k3 at' s p) (mask_H k0 k1 k2 k3 at' s p)
theorem mask_go1 {k0 : Int} {k1 : Int} {k2 : Int} {k3 : Int} {at' : Int} {s : ByteArray} {C : Cfg} {t16 : Int} {l1 : List Value} (h : mask_Q k0 k1 k2 k3 at' s C (.inl ((t16, l1)))) : Gets E 0 C (mask_h1 k0 k1 k2 k3 at' s t16 l1) := h
theorem mask_end {k0 : Int} {k1 : Int} {k2 : Int} {k3 : Int} {at' : Int} {s : ByteArray} {C : Cfg} {r : ByteArray} (h : mask_Q k0 k1 k2 k3 at' s C (.inr (r))) : AEnds E 75 0 C (mask_V k0 k1 k2 k3 at' s r) (mask_H k0 k1 k2 k3 at' s r) := h
noncomputable def mask_t0 (k0 k1 : Int) (k2 k3 at' : Int) (s : ByteArray) : mask_R :=
 bif decide (at' < 0) then .inr (s)
 else .inl ((0, ofBytes s))
def mask_S0 (k0 k1 : Int) (k2 k3 at' : Int) (s : ByteArray) : Prop :=
 ((decide (at' < 0)) = true → True) ∧
 ((decide (at' < 0)) = false → (((ofBytes s).all flat) = true) ∧ (slen s ≤ 9223372036854775807))
theorem mask_ok0 (k0 k1 : Int) (k2 k3 at' : Int) (s : ByteArray) (hS : mask_S0 k0 k1 k2 k3 at' s) : mask_Q k0 k1 k2 k3 at' s (startC E 75 ([.agg #[.int .u8 k0, .int .u8 k1, .int .u8 k2, .int .u8 k3], .int .i64 at', .string s]) ([])) (mask_t0 k0 k1 k2 k3 at' s) := by
 unfold mask_S0 at hS
 unfold mask_t0
 refine cond_intro (P := mask_Q k0 k1 k2 k3 at' s (startC E 75 ([.agg #[.int .u8 k0, .int .u8 k1, .int .u8 k2, .int .u8 k3], .int .i64 at', .string s]) ([]))) _ (fun h0 => ?_) (fun h0 => ?_)
 ·skip
  exact ends_q noK_ok 2000 17 (bs 1 1) [] [6] [] (andI (dT h0) rfl)
 ·skip
  show Gets E 0 _ (mask_h1 k0 k1 k2 k3 at' s (0) (ofBytes s))
  exact reach_q noK_ok 2000 28 (bs 1 0) [] [] [0, 1] [1, 3, 7, 15, 16] [] [] [] (andI ((hS.2 h0).1) (andI (decide_eq_true (hS.2 h0).2) (andI (dF h0) rfl)))
noncomputable def mask_t1 (k0 k1 : Int) (k2 k3 at' : Int) (s : ByteArray) (t16 : Int) (l1 : List Value) : mask_R :=
 bif decide (t16 < ((slen s) : Int)) then .inl ((IntKind.i64.wrap (t16 + 1), setN l1 (0 + t16.toNat * 1) [.int .u8 (ixor IntKind.u8 (toInt (l1.getD (0 + t16.toNat * 1) undef)) (toInt ([.int .u8 k0, .int .u8 k1, .int .u8 k2, .int .u8 k3].getD (0 + ((IntKind.i64.wrap (at'.tmod 4 + t16)).tmod 4).toNat * 1) undef)))]))
 else .inr (bytesOf (List.take (slen s * 1) (List.drop 0 l1)))
def mask_S1 (k0 k1 : Int) (k2 k3 at' : Int) (s : ByteArray) (t16 : Int) (l1 : List Value) : Prop :=
 ((decide (t16 < ((slen s) : Int))) = true → (((setN l1 (0 + t16.toNat * 1) [.int .u8 (ixor IntKind.u8 (toInt (l1.getD (0 + t16.toNat * 1) undef)) (toInt ([.int .u8 k0, .int .u8 k1, .int .u8 k2, .int .u8 k3].getD (0 + ((IntKind.i64.wrap (at'.tmod 4 + t16)).tmod 4).toNat * 1) undef)))]).all flat) = true) ∧ (0 + t16.toNat * 1 + 1 ≤ l1.length) ∧ (0 ≤ t16) ∧ (t16 < ((slen s) : Int)) ∧ (0 + ((IntKind.i64.wrap (at'.tmod 4 + t16)).tmod 4).toNat * 1 < 4) ∧ ((isInt .u8 ([.int .u8 k0, .int .u8 k1, .int .u8 k2, .int .u8 k3].getD (0 + ((IntKind.i64.wrap (at'.tmod 4 + t16)).tmod 4).toNat * 1) undef)) = true) ∧ (0 ≤ (IntKind.i64.wrap (at'.tmod 4 + t16)).tmod 4) ∧ ((IntKind.i64.wrap (at'.tmod 4 + t16)).tmod 4 < 4) ∧ (0 + t16.toNat * 1 < l1.length) ∧ ((isInt .u8 (l1.getD (0 + t16.toNat * 1) undef)) = true)) ∧
 ((decide (t16 < ((slen s) : Int))) = false → (((List.take (slen s * 1) (List.drop 0 l1)).all (isInt .u8)) = true) ∧ (0 + slen s * 1 ≤ l1.length))
theorem mask_ok1 (k0 k1 : Int) (k2 k3 at' : Int) (s : ByteArray) (t16 : Int) (l1 : List Value) (hS : mask_S1 k0 k1 k2 k3 at' s t16 l1) : mask_Q k0 k1 k2 k3 at' s (mask_h1 k0 k1 k2 k3 at' s t16 l1) (mask_t1 k0 k1 k2 k3 at' s t16 l1) := by
 unfold mask_S1 at hS
 unfold mask_t1
 refine cond_intro (P := mask_Q k0 k1 k2 k3 at' s (mask_h1 k0 k1 k2 k3 at' s t16 l1)) _ (fun h0 => ?_) (fun h0 => ?_)
 ·skip
  show Gets E 0 _ (mask_h1 k0 k1 k2 k3 at' s (IntKind.i64.wrap (t16 + 1)) (setN l1 (0 + t16.toNat * 1) [.int .u8 (ixor IntKind.u8 (toInt (l1.getD (0 + t16.toNat * 1) undef)) (toInt ([.int .u8 k0, .int .u8 k1, .int .u8 k2, .int .u8 k3].getD (0 + ((IntKind.i64.wrap (at'.tmod 4 + t16)).tmod 4).toNat * 1) undef)))]))
  exact reach_q noK_ok 2000 21 (bs 1 1) [] [] [0, 1] [1, 3, 7, 15, 16] [] [] [] (and8 ((hS.1 h0).1) (decide_eq_true (hS.1 h0).2.1) (decide_eq_true (hS.1 h0).2.2.1) (decide_eq_true (hS.1 h0).2.2.2.1) (decide_eq_true (hS.1 h0).2.2.2.2.1) ((hS.1 h0).2.2.2.2.2.1) (decide_eq_true (hS.1 h0).2.2.2.2.2.2.1) (decide_eq_true (hS.1 h0).2.2.2.2.2.2.2.1) (andI (decide_eq_true (hS.1 h0).2.2.2.2.2.2.2.2.1) (and4 ((hS.1 h0).2.2.2.2.2.2.2.2.2) (decide_eq_true (hS.1 h0).2.2.1) (decide_eq_true (hS.1 h0).2.2.2.1) (dT h0) rfl)))
 ·skip
  exact ends_q noK_ok 2000 13 (bs 1 0) [] [6] [] (andI ((hS.2 h0).1) (andI (decide_eq_true (hS.2 h0).2) (andI (dF h0) rfl)))


noncomputable def rmask_b1 (k0 k1 : Int) (k2 k3 at' : Int) (s : ByteArray) : Cfg := cfgOf (goNil E noK 2000 30 (bs 1 0) [] [] [0] [1, 2, 3, 7, 8] [⟨true, 7, 0, 5, 1⟩] [0, 1] [1, 2, 3, 7, 8] (startC E 37 ([.agg #[.int .u8 k0, .int .u8 k1, .int .u8 k2, .int .u8 k3], .int .i64 at', .string s]) ([])))
noncomputable def rmask_h1 (k0 k1 : Int) (k2 k3 at' : Int) (s : ByteArray) (t1 : Int) (t7n : Nat) (t8 : Int) (l1 : List Value) : Cfg := wCells 1 l1 (wTmp 8 (.int .i64 t8) (wTmp 7 (.slice (some ⟨1, 0, none⟩) t7n 0) (wTmp 1 (.int .i64 t1) (rmask_b1 k0 k1 k2 k3 at' s))))
abbrev rmask_R : Type := (Int × Nat × Int × List Value) ⊕ (ByteArray)
def rmask_V (k0 k1 : Int) (k2 k3 at' : Int) (s r : ByteArray) : Value := .string r
def rmask_H (k0 k1 : Int) (k2 k3 at' : Int) (s r : ByteArray) : Heap := []
noncomputable def rmask_Q (k0 k1 : Int) (k2 k3 at' : Int) (s : ByteArray) (C : Cfg) (r : rmask_R) : Prop :=
 match r with
 | .inl (p) => Gets E 0 C (rmask_h1 k0 k1 k2 k3 at' s (p.1) (p.2.1) (p.2.2.1) (p.2.2.2))
 | .inr (p) => AEnds E 37 0 C (rmask_V k0 k1 k2 k3 at' s p) (rmask_H k0 k1 k2 k3 at' s p)
theorem rmask_go1 {k0 : Int} {k1 : Int} {k2 : Int} {k3 : Int} {at' : Int} {s : ByteArray} {C : Cfg} {t1 : Int} {t7n : Nat} {t8 : Int} {l1 : List Value} (h : rmask_Q k0 k1 k2 k3 at' s C (.inl ((t1, t7n, t8, l1)))) : Gets E 0 C (rmask_h1 k0 k1 k2 k3 at' s t1 t7n t8 l1) := h
theorem rmask_end {k0 : Int} {k1 : Int} {k2 : Int} {k3 : Int} {at' : Int} {s : ByteArray} {C : Cfg} {r : ByteArray} (h : rmask_Q k0 k1 k2 k3 at' s C (.inr (r))) : AEnds E 37 0 C (rmask_V k0 k1 k2 k3 at' s r) (rmask_H k0 k1 k2 k3 at' s r) := h
noncomputable def rmask_t0 (k0 k1 : Int) (k2 k3 at' : Int) (s : ByteArray) : rmask_R :=
 bif decide (at' < 0) then .inr (s)
 else .inl ((at'.tmod 4, 0, 0, []))
def rmask_S0 (k0 k1 : Int) (k2 k3 at' : Int) (s : ByteArray) : Prop :=
 True
theorem rmask_ok0 (k0 k1 : Int) (k2 k3 at' : Int) (s : ByteArray) (hS : rmask_S0 k0 k1 k2 k3 at' s) : rmask_Q k0 k1 k2 k3 at' s (startC E 37 ([.agg #[.int .u8 k0, .int .u8 k1, .int .u8 k2, .int .u8 k3], .int .i64 at', .string s]) ([])) (rmask_t0 k0 k1 k2 k3 at' s) := by
 unfold rmask_S0 at hS
 unfold rmask_t0
 refine cond_intro (P := rmask_Q k0 k1 k2 k3 at' s (startC E 37 ([.agg #[.int .u8 k0, .int .u8 k1, .int .u8 k2, .int .u8 k3], .int .i64 at', .string s]) ([]))) _ (fun h0 => ?_) (fun h0 => ?_)
 ·skip
  exact ends_q noK_ok 2000 17 (bs 1 1) [] [6] [] (andI (dT h0) rfl)
 ·skip
  show Gets E 0 _ (rmask_h1 k0 k1 k2 k3 at' s (at'.tmod 4) (0) (0) ([]))
  exact reach_q noK_ok 2000 30 (bs 1 0) [] [] [0] [1, 2, 3, 7, 8] [⟨true, 7, 0, 5, 1⟩] [0, 1] [1, 2, 3, 7, 8] (andI (dF h0) rfl)
noncomputable def rmask_t1 (k0 k1 : Int) (k2 k3 at' : Int) (s : ByteArray) (t1 : Int) (t7n : Nat) (t8 : Int) (l1 : List Value) : rmask_R :=
 bif decide (t8 < ((slen s) : Int)) then bif IntKind.i64.wrap (t1 + 1) == 4 then .inl ((0, t7n + 1, IntKind.i64.wrap (t8 + 1), List.take (t7n * 1) (List.drop 0 l1) ++ [Value.int .u8 (ixor IntKind.u8 (chr s t8.toNat) (toInt ([.int .u8 k0, .int .u8 k1, .int .u8 k2, .int .u8 k3].getD (0 + t1.toNat * 1) undef)))]))
  else .inl ((IntKind.i64.wrap (t1 + 1), t7n + 1, IntKind.i64.wrap (t8 + 1), List.take (t7n * 1) (List.drop 0 l1) ++ [Value.int .u8 (ixor IntKind.u8 (chr s t8.toNat) (toInt ([.int .u8 k0, .int .u8 k1, .int .u8 k2, .int .u8 k3].getD (0 + t1.toNat * 1) undef)))]))
 else .inr (bytesOf (List.take (t7n * 1) (List.drop 0 l1)))
def rmask_S1 (k0 k1 : Int) (k2 k3 at' : Int) (s : ByteArray) (t1 : Int) (t7n : Nat) (t8 : Int) (l1 : List Value) : Prop :=
 ((decide (t8 < ((slen s) : Int))) = true → ((IntKind.i64.wrap (t1 + 1) == 4) = true → (((List.take (t7n * 1) (List.drop 0 l1) ++ [Value.int .u8 (ixor IntKind.u8 (chr s t8.toNat) (toInt ([.int .u8 k0, .int .u8 k1, .int .u8 k2, .int .u8 k3].getD (0 + t1.toNat * 1) undef)))]).all flat) = true) ∧ ((t7n == t7n) = true) ∧ (0 + t7n * 1 ≤ l1.length) ∧ ((t7n + 1) * 1 ≤ 140737488355328) ∧ (t7n + 1 ≤ 9223372036854775807) ∧ (0 + t1.toNat * 1 < 4) ∧ ((isInt .u8 ([.int .u8 k0, .int .u8 k1, .int .u8 k2, .int .u8 k3].getD (0 + t1.toNat * 1) undef)) = true) ∧ (0 ≤ t1) ∧ (t1 < 4) ∧ (0 ≤ t8) ∧ (t8 < ((slen s) : Int))) ∧
  ((IntKind.i64.wrap (t1 + 1) == 4) = false → (((List.take (t7n * 1) (List.drop 0 l1) ++ [Value.int .u8 (ixor IntKind.u8 (chr s t8.toNat) (toInt ([.int .u8 k0, .int .u8 k1, .int .u8 k2, .int .u8 k3].getD (0 + t1.toNat * 1) undef)))]).all flat) = true) ∧ ((t7n == t7n) = true) ∧ (0 + t7n * 1 ≤ l1.length) ∧ ((t7n + 1) * 1 ≤ 140737488355328) ∧ (t7n + 1 ≤ 9223372036854775807) ∧ (0 + t1.toNat * 1 < 4) ∧ ((isInt .u8 ([.int .u8 k0, .int .u8 k1, .int .u8 k2, .int .u8 k3].getD (0 + t1.toNat * 1) undef)) = true) ∧ (0 ≤ t1) ∧ (t1 < 4) ∧ (0 ≤ t8) ∧ (t8 < ((slen s) : Int)))) ∧
 ((decide (t8 < ((slen s) : Int))) = false → (((List.take (t7n * 1) (List.drop 0 l1)).all (isInt .u8)) = true) ∧ (0 + t7n * 1 ≤ l1.length))
theorem rmask_ok1 (k0 k1 : Int) (k2 k3 at' : Int) (s : ByteArray) (t1 : Int) (t7n : Nat) (t8 : Int) (l1 : List Value) (hS : rmask_S1 k0 k1 k2 k3 at' s t1 t7n t8 l1) : rmask_Q k0 k1 k2 k3 at' s (rmask_h1 k0 k1 k2 k3 at' s t1 t7n t8 l1) (rmask_t1 k0 k1 k2 k3 at' s t1 t7n t8 l1) := by
 unfold rmask_S1 at hS
 unfold rmask_t1
 refine cond_intro (P := rmask_Q k0 k1 k2 k3 at' s (rmask_h1 k0 k1 k2 k3 at' s t1 t7n t8 l1)) _ (fun h0 => ?_) (fun h0 => ?_)
 ·skip
  refine cond_intro (P := rmask_Q k0 k1 k2 k3 at' s (rmask_h1 k0 k1 k2 k3 at' s t1 t7n t8 l1)) _ (fun h1 => ?_) (fun h1 => ?_)
  ·skip
   show Gets E 0 _ (rmask_h1 k0 k1 k2 k3 at' s (0) (t7n + 1) (IntKind.i64.wrap (t8 + 1)) (List.take (t7n * 1) (List.drop 0 l1) ++ [Value.int .u8 (ixor IntKind.u8 (chr s t8.toNat) (toInt ([.int .u8 k0, .int .u8 k1, .int .u8 k2, .int .u8 k3].getD (0 + t1.toNat * 1) undef)))]))
   have z0 := (hS.1 h0).1 h1; exact reach_q noK_ok 2000 36 (bs 2 3) [] [] [0, 3] [1, 2, 3, 7, 8] [] [] [] (and8 (z0.1) (dT h1) (z0.2.1) (decide_eq_true z0.2.2.1) (decide_eq_true z0.2.2.2.1) (decide_eq_true z0.2.2.2.2.1) (decide_eq_true z0.2.2.2.2.2.1) (z0.2.2.2.2.2.2.1) (andI (decide_eq_true z0.2.2.2.2.2.2.2.1) (and4 (decide_eq_true z0.2.2.2.2.2.2.2.2.1) (decide_eq_true z0.2.2.2.2.2.2.2.2.2.1) (decide_eq_true z0.2.2.2.2.2.2.2.2.2.2) (dT h0) rfl)))
  ·skip
   show Gets E 0 _ (rmask_h1 k0 k1 k2 k3 at' s (IntKind.i64.wrap (t1 + 1)) (t7n + 1) (IntKind.i64.wrap (t8 + 1)) (List.take (t7n * 1) (List.drop 0 l1) ++ [Value.int .u8 (ixor IntKind.u8 (chr s t8.toNat) (toInt ([.int .u8 k0, .int .u8 k1, .int .u8 k2, .int .u8 k3].getD (0 + t1.toNat * 1) undef)))]))
   have z0 := (hS.1 h0).2 h1; exact reach_q noK_ok 2000 34 (bs 2 1) [] [] [0, 3] [1, 2, 3, 7, 8] [] [] [] (and8 (z0.1) (dF h1) (z0.2.1) (decide_eq_true z0.2.2.1) (decide_eq_true z0.2.2.2.1) (decide_eq_true z0.2.2.2.2.1) (decide_eq_true z0.2.2.2.2.2.1) (z0.2.2.2.2.2.2.1) (andI (decide_eq_true z0.2.2.2.2.2.2.2.1) (and4 (decide_eq_true z0.2.2.2.2.2.2.2.2.1) (decide_eq_true z0.2.2.2.2.2.2.2.2.2.1) (decide_eq_true z0.2.2.2.2.2.2.2.2.2.2) (dT h0) rfl)))
 ·skip
  exact ends_q noK_ok 2000 16 (bs 1 0) [] [6] [] (andI ((hS.2 h0).1) (andI (decide_eq_true (hS.2 h0).2) (andI (dF h0) rfl)))


end Go.Proofs.Ytfpnjpbdaniomaa

/-
  Masks and numbers, as contracts.
-/
set_option linter.unusedVariables false
set_option linter.unusedSimpArgs false
open Go Go.Am
namespace Go.Proofs.Ytfpnjpbdaniomaa

abbrev V8 (b : UInt8) : Value := .int .u8 b.toNat
noncomputable def vb (l : List UInt8) : List Value := l.map fun b => V8 b
theorem vb_len (l : List UInt8) : (vb l).length = l.length := by simp [vb]
theorem vb_flat (l : List UInt8) : (vb l).all flat = true := by simp [vb, flat]
theorem vb_int (l : List UInt8) : (vb l).all (isInt .u8) = true := by simp [vb, isInt]
theorem vb_take (l : List UInt8) : List.take (l.length * 1) (List.drop 0 (vb l)) = vb l := by
 rw [List.drop_zero, Nat.mul_one, List.take_of_length_le (by rw [vb_len]; exact Nat.le_refl _)]
theorem vb_snoc (l : List UInt8) (b : UInt8) : vb l ++ [V8 b] = vb (l ++ [b]) := by simp [vb]
theorem ofBytes_vb (s : ByteArray) : ofBytes s = vb (toL s) := rfl
theorem bytesOf_vb (l : List UInt8) : bytesOf (vb l) = ofL l := by
 unfold bytesOf vb
 rw [List.map_map]
 congr 1
 conv => rhs; rw [← List.map_id l]
 refine List.map_congr_left fun b _ => ?_
 simp [toInt]
theorem vb_get (l : List UInt8) (i : Nat) (h : i < l.length) : (vb l).getD i undef = V8 l[i] := by
 simp [vb, List.getD_eq_getElem?_getD, h]
theorem isInt_self (k : IntKind) (x : Int) : isInt k (.int k x) = true := by simp [isInt]
theorem toL_ofL (l : List UInt8) : toL (ofL l) = l := by simp [toL, ofL]
theorem ofL_toL (s : ByteArray) : ofL (toL s) = s := by cases s; simp [toL, ofL]
theorem slen_ofL (l : List UInt8) : slen (ofL l) = l.length := by simp [slen, toL_ofL]
theorem wrapU8 (x : Int) : 0 ≤ IntKind.u8.wrap x ∧ IntKind.u8.wrap x < 256 := by
 have h : IntKind.u8.wrap x = x % 256 := by simp [IntKind.wrap, IntKind.bits, IntKind.signed]
 rw [h]; omega
theorem ixor_bd (a b : Int) : 0 ≤ ixor .u8 a b ∧ ixor .u8 a b < 256 := wrapU8 _
noncomputable def xb (b : UInt8) (k : Int) : UInt8 := UInt8.ofNat (ixor .u8 b.toNat k).toNat
theorem xb_val (b : UInt8) (k : Int) : ((xb b k).toNat : Int) = ixor .u8 b.toNat k := by
 obtain ⟨h1, h2⟩ := ixor_bd (b.toNat : Int) k
 unfold xb
 rw [UInt8.toNat_ofNat']
 omega
theorem xb_v (b : UInt8) (k : Int) : .int .u8 (ixor .u8 b.toNat k) = V8 (xb b k) := by rw [← xb_val]
theorem fu8_lt (b : UInt8) : (0 : Int) ≤ (b.toNat : Int) ∧ (b.toNat : Int) < 256 := by
 have := b.toNat_lt
 omega
noncomputable def maskL (k : List Int) : Nat → List UInt8 → List UInt8
 | _, [] => []
 | a, b :: r => xb b (k.getD (a % 4) 0) :: maskL k (a + 1) r
theorem maskL_len (k : List Int) : ∀ (l : List UInt8) (a : Nat), (maskL k a l).length = l.length
 | [], a => rfl
 | b :: r, a => by simp [maskL, maskL_len k r]
noncomputable def keyV (k0 k1 k2 k3 : Int) : List Value := [.int .u8 k0, .int .u8 k1, .int .u8 k2, .int .u8 k3]
theorem key_get (k0 k1 k2 k3 : Int) (i : Nat) (h : i < 4) : (keyV k0 k1 k2 k3).getD i undef = .int .u8 ([k0, k1, k2, k3].getD i 0) := by
 have : i = 0 ∨ i = 1 ∨ i = 2 ∨ i = 3 := by omega
 rcases this with rfl | rfl | rfl | rfl <;> rfl
theorem setN_one (l : List Value) (o : Nat) (v : Value) : setN l o [v] = l.set o v := rfl
theorem set_mid {α : Type} (A : List α) (x v : α) (R : List α) : (A ++ x :: R).set A.length v = A ++ v :: R := by
 simp [List.set_append]

theorem mask_run (k0 k1 k2 k3 at' : Int) (s : ByteArray) (h0 : 0 ≤ at') (h1 : at' < 9223372036854775808) (hs : slen s ≤ 1000000) : ∀ (n i : Nat) (A : List UInt8), i + n = slen s → A.length = i → A ++ maskL [k0, k1, k2, k3] (at'.toNat + i) ((toL s).drop i) = maskL [k0, k1, k2, k3] at'.toNat (toL s) →
  AEnds E 75 0 (mask_h1 k0 k1 k2 k3 at' s i (vb (A ++ (toL s).drop i))) (.string (ofL (maskL [k0, k1, k2, k3] at'.toNat (toL s)))) []
 | 0, i, A, hi, hA, hf => by
  rw [show (toL s).drop i = [] from List.drop_eq_nil_of_le (by unfold slen at hi; omega), List.append_nil]
  rw [show (toL s).drop i = [] from List.drop_eq_nil_of_le (by unfold slen at hi; omega), maskL, List.append_nil] at hf
  have e : List.take (slen s * 1) (List.drop 0 (vb A)) = vb A := by rw [show slen s = A.length by omega, vb_take]
  have h := mask_ok1 k0 k1 k2 k3 at' s i (vb A) (by
   unfold mask_S1
   rw [e, vb_int, vb_len, show decide ((i : Int) < (slen s : Int)) = false by simp; omega]
   simp; omega)
  unfold mask_t1 at h
  rw [e, bytesOf_vb, show decide ((i : Int) < (slen s : Int)) = false by simp; omega] at h
  rw [← hf]
  exact mask_end h
 | n + 1, i, A, hi, hA, hf => by
  have hl : i < (toL s).length := by unfold slen at hi; omega
  rw [List.drop_eq_getElem_cons hl] at hf ⊢
  rw [maskL] at hf
  have ht : (IntKind.i64.wrap (at'.tmod 4 + (i : Int))).tmod 4 = (((at'.toNat + i) % 4 : Nat) : Int) := by
   rw [Int.tmod_eq_emod_of_nonneg h0, wrap64_in (by omega) (by omega), Int.tmod_eq_emod_of_nonneg (by omega)]
   omega
  have hk := key_get k0 k1 k2 k3 ((at'.toNat + i) % 4) (by omega)
  have hv := vb_get (A ++ (toL s)[i] :: (toL s).drop (i + 1)) i (by simp; omega)
  have hg : (A ++ (toL s)[i] :: (toL s).drop (i + 1))[i]'(by simp; omega) = (toL s)[i] := by subst hA; simp
  rw [hg] at hv
  have hlen : (vb (A ++ (toL s)[i] :: (toL s).drop (i + 1))).length = slen s := by rw [vb_len, List.length_append, List.length_cons, List.length_drop]; unfold slen at *; omega
  have hset : (vb (A ++ (toL s)[i] :: (toL s).drop (i + 1))).set i (V8 (xb (toL s)[i] ([k0, k1, k2, k3].getD ((at'.toNat + i) % 4) 0))) = vb ((A ++ [xb (toL s)[i] ([k0, k1, k2, k3].getD ((at'.toNat + i) % 4) 0)]) ++ (toL s).drop (i + 1)) := by
   unfold vb
   rw [List.map_append, List.map_cons]
   have := set_mid (A.map fun b => V8 b) (V8 (toL s)[i]) (V8 (xb (toL s)[i] ([k0, k1, k2, k3].getD ((at'.toNat + i) % 4) 0))) (((toL s).drop (i + 1)).map fun b => V8 b)
   rw [List.length_map, hA] at this
   rw [this]
   simp
  have h := mask_ok1 k0 k1 k2 k3 at' s i (vb (A ++ (toL s)[i] :: (toL s).drop (i + 1))) (by
   unfold mask_S1
   rw [show [.int .u8 k0, .int .u8 k1, .int .u8 k2, .int .u8 k3] = keyV k0 k1 k2 k3 from rfl]
   simp only [ht, Int.toNat_natCast, Nat.zero_add, Nat.mul_one, hk, hv, toInt, xb_v, setN_one, hset, vb_flat, hlen, isInt_self]
   simp; omega)
  unfold mask_t1 at h
  rw [show [.int .u8 k0, .int .u8 k1, .int .u8 k2, .int .u8 k3] = keyV k0 k1 k2 k3 from rfl] at h
  simp only [ht, Int.toNat_natCast, Nat.zero_add, Nat.mul_one, hk, hv, toInt, xb_v, setN_one, hset, show decide ((i : Int) < (slen s : Int)) = true by simp; omega, cond_true] at h
  rw [wrap64_in (x := (i : Int) + 1) (by omega) (by omega), show (i : Int) + 1 = ((i + 1 : Nat) : Int) by omega] at h
  exact (mask_go1 h).ends (mask_run k0 k1 k2 k3 at' s h0 h1 hs n (i + 1) _ (by omega) (by simp; omega) (by rw [← hf]; simp [Nat.add_assoc]))

noncomputable def maskD (k : List Int) (at' : Int) (s : ByteArray) : ByteArray := bif decide (at' < 0) then s else ofL (maskL k at'.toNat (toL s))
def mask_pre (k0 k1 k2 k3 at' : Int) (s : ByteArray) : Prop := slen s ≤ 1000000 ∧ at' < 9223372036854775808
noncomputable def mask_v (k0 k1 k2 k3 at' : Int) (s : ByteArray) : Value := .string (maskD [k0, k1, k2, k3] at' s)
noncomputable def mask_h (k0 k1 k2 k3 at' : Int) (s : ByteArray) : Heap := []
theorem mask_call (k0 k1 k2 k3 at' : Int) (s : ByteArray) (h : mask_pre k0 k1 k2 k3 at' s) :
  CallOk E 75 [.agg #[.int .u8 k0, .int .u8 k1, .int .u8 k2, .int .u8 k3], .int .i64 at', .string s] [] (mask_v k0 k1 k2 k3 at' s) (mask_h k0 k1 k2 k3 at' s) := by
 refine callOk_of_ends ?_ (by kernel_rfl) (Nat.le_of_ble_eq_true (by kernel_rfl))
 have hk := mask_ok0 k0 k1 k2 k3 at' s (by unfold mask_S0; rw [ofBytes_vb, vb_flat]; have := h.1; simp; omega)
 unfold mask_t0 at hk
 unfold mask_v maskD
 cases hc : decide (at' < 0) <;> rw [hc] at hk
 ·have := mask_run k0 k1 k2 k3 at' s (by simpa using hc) h.2 h.1 (slen s) 0 [] (by omega) rfl rfl
  exact (mask_go1 hk).ends this
 ·exact mask_end hk

def mask_ex (a : List Value) (h : Heap) : Int × Int × Int × Int × Int × ByteArray := ((toInt ((aggOf (a.getD 0 undef)).getD 0 undef)), (toInt ((aggOf (a.getD 0 undef)).getD 1 undef)), (toInt ((aggOf (a.getD 0 undef)).getD 2 undef)), (toInt ((aggOf (a.getD 0 undef)).getD 3 undef)), (toInt (a.getD 1 undef)), (toStr (a.getD 2 undef)))
noncomputable def mask_k : Ct := kS mask_ex [.agg [.int .u8, .int .u8, .int .u8, .int .u8], .int .i64, .str] [] (fun (a0, a1, a2, a3, a4, a5) => mask_pre a0 a1 a2 a3 a4 a5) (fun (a0, a1, a2, a3, a4, a5) => mask_v a0 a1 a2 a3 a4 a5) (fun (a0, a1, a2, a3, a4, a5) => mask_h a0 a1 a2 a3 a4 a5)
theorem mask_k_ok : KFor E 75 mask_k := kS_ok (fun x hx => mask_call (x.1) (x.2.1) (x.2.2.1) (x.2.2.2.1) (x.2.2.2.2.1) (x.2.2.2.2.2) hx) (fun _ _ => rfl) (fun _ _ => rfl)


theorem rmask_run (k0 k1 k2 k3 at' : Int) (s : ByteArray) (h0 : 0 ≤ at') (h1 : at' < 9223372036854775808) (hs : slen s ≤ 1000000) : ∀ (n i : Nat) (A : List UInt8), i + n = slen s → A.length = i → A ++ maskL [k0, k1, k2, k3] (at'.toNat + i) ((toL s).drop i) = maskL [k0, k1, k2, k3] at'.toNat (toL s) →
  AEnds E 37 0 (rmask_h1 k0 k1 k2 k3 at' s (((at'.toNat + i) % 4 : Nat) : Int) A.length i (vb A)) (.string (ofL (maskL [k0, k1, k2, k3] at'.toNat (toL s)))) []
 | 0, i, A, hi, hA, hf => by
  rw [show (toL s).drop i = [] from List.drop_eq_nil_of_le (by unfold slen at hi; omega), maskL, List.append_nil] at hf
  have h := rmask_ok1 k0 k1 k2 k3 at' s (((at'.toNat + i) % 4 : Nat) : Int) A.length i (vb A) (by
   unfold rmask_S1
   rw [vb_take, vb_int, vb_len, show decide ((i : Int) < (slen s : Int)) = false by simp; omega]
   simp)
  unfold rmask_t1 at h
  rw [vb_take, bytesOf_vb, show decide ((i : Int) < (slen s : Int)) = false by simp; omega] at h
  rw [← hf]
  exact rmask_end h
 | n + 1, i, A, hi, hA, hf => by
  have hl : i < (toL s).length := by unfold slen at hi; omega
  have hch : chr s i = ((toL s)[i].toNat : Int) := by simp [chr, List.getD_eq_getElem?_getD, hl]
  rw [List.drop_eq_getElem_cons hl] at hf
  rw [maskL] at hf
  have hk := key_get k0 k1 k2 k3 ((at'.toNat + i) % 4) (by omega)
  have h := rmask_ok1 k0 k1 k2 k3 at' s (((at'.toNat + i) % 4 : Nat) : Int) A.length i (vb A) (by
   unfold rmask_S1
   rw [show [.int .u8 k0, .int .u8 k1, .int .u8 k2, .int .u8 k3] = keyV k0 k1 k2 k3 from rfl]
   rw [vb_take]
   simp only [Int.toNat_natCast, Nat.zero_add, Nat.mul_one, hk, toInt, hch, xb_v, vb_snoc, vb_flat, vb_len, isInt_self]
   simp; omega)
  unfold rmask_t1 at h
  rw [show [.int .u8 k0, .int .u8 k1, .int .u8 k2, .int .u8 k3] = keyV k0 k1 k2 k3 from rfl] at h
  rw [vb_take] at h
  simp only [Int.toNat_natCast, Nat.zero_add, Nat.mul_one, hk, toInt, hch, xb_v, vb_snoc, show decide ((i : Int) < (slen s : Int)) = true by simp; omega, cond_true] at h
  rw [wrap64_in (x := (i : Int) + 1) (by omega) (by omega), show (i : Int) + 1 = ((i + 1 : Nat) : Int) by omega, wrap64_in (x := (((at'.toNat + i) % 4 : Nat) : Int) + 1) (by omega) (by omega)] at h
  have nx := rmask_run k0 k1 k2 k3 at' s h0 h1 hs n (i + 1) (A ++ [xb (toL s)[i] ([k0, k1, k2, k3].getD ((at'.toNat + i) % 4) 0)]) (by omega) (by simp; omega) (by rw [← hf]; simp [Nat.add_assoc])
  rw [List.length_append] at nx
  by_cases hc : (at'.toNat + i) % 4 = 3
  ·rw [show (((((at'.toNat + i) % 4 : Nat) : Int) + 1 == 4) : Bool) = true by simp; omega] at h
   simp only [cond_true] at h
   rw [show (at'.toNat + (i + 1)) % 4 = 0 by omega] at nx
   exact (rmask_go1 h).ends nx
  ·rw [show (((((at'.toNat + i) % 4 : Nat) : Int) + 1 == 4) : Bool) = false by simp; omega] at h
   simp only [cond_false] at h
   rw [show (((at'.toNat + (i + 1)) % 4 : Nat) : Int) = (((at'.toNat + i) % 4 : Nat) : Int) + 1 by omega] at nx
   exact (rmask_go1 h).ends nx

def rmask_pre (k0 k1 k2 k3 at' : Int) (s : ByteArray) : Prop := slen s ≤ 1000000 ∧ at' < 9223372036854775808
noncomputable def rmask_v (k0 k1 k2 k3 at' : Int) (s : ByteArray) : Value := .string (maskD [k0, k1, k2, k3] at' s)
noncomputable def rmask_h (k0 k1 k2 k3 at' : Int) (s : ByteArray) : Heap := []
theorem rmask_call (k0 k1 k2 k3 at' : Int) (s : ByteArray) (h : rmask_pre k0 k1 k2 k3 at' s) :
  CallOk E 37 [.agg #[.int .u8 k0, .int .u8 k1, .int .u8 k2, .int .u8 k3], .int .i64 at', .string s] [] (rmask_v k0 k1 k2 k3 at' s) (rmask_h k0 k1 k2 k3 at' s) := by
 refine callOk_of_ends ?_ (by kernel_rfl) (Nat.le_of_ble_eq_true (by kernel_rfl))
 have hk := rmask_ok0 k0 k1 k2 k3 at' s trivial
 unfold rmask_t0 at hk
 unfold rmask_v maskD
 cases hc : decide (at' < 0) <;> rw [hc] at hk
 ·have h0 : 0 ≤ at' := by simpa using hc
  have := rmask_run k0 k1 k2 k3 at' s h0 h.2 h.1 (slen s) 0 [] (by omega) rfl rfl
  rw [show (((at'.toNat + 0) % 4 : Nat) : Int) = at'.tmod 4 by rw [Int.tmod_eq_emod_of_nonneg h0]; omega] at this
  exact (rmask_go1 hk).ends this
 ·exact rmask_end hk

abbrev rmask_ex := mask_ex
noncomputable def rmask_k : Ct := kS rmask_ex [.agg [.int .u8, .int .u8, .int .u8, .int .u8], .int .i64, .str] [] (fun (a0, a1, a2, a3, a4, a5) => rmask_pre a0 a1 a2 a3 a4 a5) (fun (a0, a1, a2, a3, a4, a5) => rmask_v a0 a1 a2 a3 a4 a5) (fun (a0, a1, a2, a3, a4, a5) => rmask_h a0 a1 a2 a3 a4 a5)
theorem rmask_k_ok : KFor E 37 rmask_k := kS_ok (fun x hx => rmask_call (x.1) (x.2.1) (x.2.2.1) (x.2.2.2.1) (x.2.2.2.2.1) (x.2.2.2.2.2) hx) (fun _ _ => rfl) (fun _ _ => rfl)


/-! ### numbers -/
noncomputable def bigN : Int → List UInt8 → Int
 | x, [] => x
 | x, b :: r => bigN (x * 256 + b.toNat) r
theorem wrapU64 {x : Int} (h0 : 0 ≤ x) (h1 : x < 18446744073709551616) : IntKind.u64.wrap x = x := by
 have h : IntKind.u64.wrap x = x % 18446744073709551616 := by simp [IntKind.wrap, IntKind.bits, IntKind.signed]
 rw [h]; omega
theorem shl8 (x : Int) (h0 : 0 ≤ x) (h1 : x < 72057594037927936) : ishl .u64 x 8 = x * 256 := by
 have e : ishl .u64 x 8 = IntKind.u64.wrap (x * 256) := by
  unfold ishl
  rw [show min (8 : Int).toNat IntKind.u64.bits = 8 by decide]
  rw [show (2 : Int) ^ 8 = 256 by decide]
 rw [e, wrapU64 (by omega) (by omega)]
theorem or8 (x b : Int) (h0 : 0 ≤ x) (h1 : x < 72057594037927936) (hb0 : 0 ≤ b) (hb1 : b < 256) : ior .u64 (x * 256) b = x * 256 + b := by
 unfold ior
 rw [BitVec.toNat_or, show IntKind.u64.bits = 64 from rfl, BitVec.toNat_ofInt, BitVec.toNat_ofInt]
 obtain ⟨n, rfl⟩ : ∃ n : Nat, x = n := ⟨x.toNat, by omega⟩
 obtain ⟨m, rfl⟩ : ∃ n : Nat, b = n := ⟨b.toNat, by omega⟩
 have e1 : (((n : Int) * 256) % ((2 ^ 64 : Nat) : Int)).toNat = 2 ^ 8 * n := by
  rw [show ((2 ^ 64 : Nat) : Int) = 18446744073709551616 by decide]; omega
 have e2 : ((m : Int) % ((2 ^ 64 : Nat) : Int)).toNat = m := by
  rw [show ((2 ^ 64 : Nat) : Int) = 18446744073709551616 by decide]; omega
 rw [e1, e2, ← Nat.two_pow_add_eq_or_of_lt (by omega)]
 rw [wrapU64 (by omega) (by omega)]
 omega
theorem big_run (s : ByteArray) (hs : slen s ≤ 8) : ∀ (n i : Nat) (x : Int), i + n = slen s → 0 ≤ x → x < 256 ^ i →
  AEnds E 78 0 (big_h1 s x i) (.int .u64 (bigN x ((toL s).drop i))) []
 | 0, i, x, hi, h0, h1 => by
  have h := big_ok1 s x i (by unfold big_S1; simp [show ¬ ((i : Int) < slen s) by omega])
  unfold big_t1 at h
  rw [show decide ((i : Int) < (slen s : Int)) = false by simp; omega] at h
  rw [show (toL s).drop i = [] from List.drop_eq_nil_of_le (by unfold slen at hi; omega)]
  exact big_end h
 | n + 1, i, x, hi, h0, h1 => by
  have hl : i < (toL s).length := by unfold slen at hi; omega
  have hch : chr s i = ((toL s)[i].toNat : Int) := by simp [chr, List.getD_eq_getElem?_getD, hl]
  have h := big_ok1 s x i (by unfold big_S1; simp [show ((i : Int) < slen s) by omega])
  unfold big_t1 at h
  rw [show decide ((i : Int) < (slen s : Int)) = true by simp; omega, Int.toNat_natCast, hch] at h
  rw [List.drop_eq_getElem_cons hl, bigN]
  clear hch
  obtain ⟨u0, u1⟩ := fu8_lt (toL s)[i]
  generalize (toL s)[i] = b at h u0 u1 ⊢
  have hx : x < 72057594037927936 := by
   have hi7 : i = 0 ∨ i = 1 ∨ i = 2 ∨ i = 3 ∨ i = 4 ∨ i = 5 ∨ i = 6 ∨ i = 7 := by omega
   rcases hi7 with rfl | rfl | rfl | rfl | rfl | rfl | rfl | rfl <;> omega
  simp only [cond_true] at h
  rw [shl8 x h0 hx, wrapU64 u0 (by omega), or8 x _ h0 hx u0 u1, wrap64_in (x := (i : Int) + 1) (by omega) (by omega), show (i : Int) + 1 = ((i + 1 : Nat) : Int) by omega] at h
  exact (big_go1 h).ends (big_run s hs n (i + 1) _ (by omega) (by omega) (by rw [Int.pow_succ]; omega))
def big_pre (s : ByteArray) : Prop := slen s ≤ 8
noncomputable def big_v (s : ByteArray) : Value := .int .u64 (bigN 0 (toL s))
noncomputable def big_h (s : ByteArray) : Heap := []
theorem big_call (s : ByteArray) (h : big_pre s) : CallOk E 78 [.string s] [] (big_v s) (big_h s) :=
 callOk_of_ends ((big_go1 (big_ok0 s trivial)).ends (big_run s h (slen s) 0 0 (by omega) (by omega) (by simp))) (by kernel_rfl) (Nat.le_of_ble_eq_true (by kernel_rfl))

def big_ex (a : List Value) (h : Heap) : ByteArray := (toStr (a.getD 0 undef))
noncomputable def big_k : Ct := kS big_ex [.str] [] (fun x => big_pre x) (fun x => big_v x) (fun x => big_h x)
theorem big_k_ok : KFor E 78 big_k := kS_ok (fun x hx => big_call x hx) (fun _ _ => rfl) (fun _ _ => rfl)


end Go.Proofs.Ytfpnjpbdaniomaa

/-
  Heads and frames as plain functions: the program's and the document's.
-/
set_option linter.unusedVariables false
set_option linter.unusedSimpArgs false
open Go Go.Am
namespace Go.Proofs.Ytfpnjpbdaniomaa

noncomputable def KC : Ctr := ctrOf E [(78, anyA, big_k)]
theorem KC_ok : KOk E KC := ctr_cons big_k_ok ctr_nil

abbrev head_R : Type := Bool × Int × Int × Bool × Int × Int × Int × Int × Int × Bool × Int × Bool
def head_V (s : ByteArray) (r : Bool × Int × Int × Bool × Int × Int × Int × Int × Int × Bool × Int × Bool) : Value := .tuple #[.agg #[.bool r.1, .int .i64 r.2.1, .int .i64 r.2.2.1, .bool r.2.2.2.1, .int .u8 r.2.2.2.2.1, .int .u8 r.2.2.2.2.2.1, .int .u8 r.2.2.2.2.2.2.1, .int .u8 r.2.2.2.2.2.2.2.1, .int .u64 r.2.2.2.2.2.2.2.2.1, .bool r.2.2.2.2.2.2.2.2.2.1], .int .i64 r.2.2.2.2.2.2.2.2.2.2.1, .bool r.2.2.2.2.2.2.2.2.2.2.2]
def head_H (s : ByteArray) (r : Bool × Int × Int × Bool × Int × Int × Int × Int × Int × Bool × Int × Bool) : Heap := []
noncomputable def head_Q (s : ByteArray) (C : Cfg) (r : head_R) : Prop :=
 let p := r
 AEnds E 73 0 C (head_V s p) (head_H s p)
noncomputable def head_t0 (s : ByteArray) : head_R :=
 bif decide (((slen s) : Int) < 2) then (false, 0, 0, false, 0, 0, 0, 0, 0, false, 0, false)
 else bif IntKind.i64.wrap (iandn IntKind.u8 (chr s 1) 128) == 126 then bif decide (128 ≤ chr s 1) then bif decide (((slen s) : Int) < 8) then (false, 0, 0, false, 0, 0, 0, 0, 0, false, 0, false)
    else bif decide (bigN 0 (toL (sub s 2 4)) ≤ 125) then (decide (128 ≤ chr s 0), iand IntKind.i64 (IntKind.i64.wrap (ishr IntKind.u8 (chr s 0) 4)) 7, IntKind.i64.wrap (iand IntKind.u8 (chr s 0) 15), decide (128 ≤ chr s 1), bif decide (0 < min (slen (sub s 4 8)) 4) then toInt ((List.take (min (slen (sub s 4 8)) 4) (ofBytes (sub s 4 8))).getD 0 undef) else 0, bif decide (1 < min (slen (sub s 4 8)) 4) then toInt ((List.take (min (slen (sub s 4 8)) 4) (ofBytes (sub s 4 8))).getD 1 undef) else 0, bif decide (2 < min (slen (sub s 4 8)) 4) then toInt ((List.take (min (slen (sub s 4 8)) 4) (ofBytes (sub s 4 8))).getD 2 undef) else 0, bif decide (3 < min (slen (sub s 4 8)) 4) then toInt ((List.take (min (slen (sub s 4 8)) 4) (ofBytes (sub s 4 8))).getD 3 undef) else 0, bigN 0 (toL (sub s 2 4)), false, 8, true)
     else bif decide (bigN 0 (toL (sub s 2 4)) ≤ 65535) then (decide (128 ≤ chr s 0), iand IntKind.i64 (IntKind.i64.wrap (ishr IntKind.u8 (chr s 0) 4)) 7, IntKind.i64.wrap (iand IntKind.u8 (chr s 0) 15), decide (128 ≤ chr s 1), bif decide (0 < min (slen (sub s 4 8)) 4) then toInt ((List.take (min (slen (sub s 4 8)) 4) (ofBytes (sub s 4 8))).getD 0 undef) else 0, bif decide (1 < min (slen (sub s 4 8)) 4) then toInt ((List.take (min (slen (sub s 4 8)) 4) (ofBytes (sub s 4 8))).getD 1 undef) else 0, bif decide (2 < min (slen (sub s 4 8)) 4) then toInt ((List.take (min (slen (sub s 4 8)) 4) (ofBytes (sub s 4 8))).getD 2 undef) else 0, bif decide (3 < min (slen (sub s 4 8)) 4) then toInt ((List.take (min (slen (sub s 4 8)) 4) (ofBytes (sub s 4 8))).getD 3 undef) else 0, bigN 0 (toL (sub s 2 4)), true, 8, true)
      else (decide (128 ≤ chr s 0), iand IntKind.i64 (IntKind.i64.wrap (ishr IntKind.u8 (chr s 0) 4)) 7, IntKind.i64.wrap (iand IntKind.u8 (chr s 0) 15), decide (128 ≤ chr s 1), bif decide (0 < min (slen (sub s 4 8)) 4) then toInt ((List.take (min (slen (sub s 4 8)) 4) (ofBytes (sub s 4 8))).getD 0 undef) else 0, bif decide (1 < min (slen (sub s 4 8)) 4) then toInt ((List.take (min (slen (sub s 4 8)) 4) (ofBytes (sub s 4 8))).getD 1 undef) else 0, bif decide (2 < min (slen (sub s 4 8)) 4) then toInt ((List.take (min (slen (sub s 4 8)) 4) (ofBytes (sub s 4 8))).getD 2 undef) else 0, bif decide (3 < min (slen (sub s 4 8)) 4) then toInt ((List.take (min (slen (sub s 4 8)) 4) (ofBytes (sub s 4 8))).getD 3 undef) else 0, bigN 0 (toL (sub s 2 4)), false, 8, true)
   else bif decide (((slen s) : Int) < 4) then (false, 0, 0, false, 0, 0, 0, 0, 0, false, 0, false)
    else bif decide (bigN 0 (toL (sub s 2 4)) ≤ 125) then (decide (128 ≤ chr s 0), iand IntKind.i64 (IntKind.i64.wrap (ishr IntKind.u8 (chr s 0) 4)) 7, IntKind.i64.wrap (iand IntKind.u8 (chr s 0) 15), decide (128 ≤ chr s 1), bif decide (0 < min (slen (sub s 4 4)) 4) then 0 else 0, bif decide (1 < min (slen (sub s 4 4)) 4) then 0 else 0, bif decide (2 < min (slen (sub s 4 4)) 4) then 0 else 0, bif decide (3 < min (slen (sub s 4 4)) 4) then 0 else 0, bigN 0 (toL (sub s 2 4)), false, 4, true)
     else bif decide (bigN 0 (toL (sub s 2 4)) ≤ 65535) then (decide (128 ≤ chr s 0), iand IntKind.i64 (IntKind.i64.wrap (ishr IntKind.u8 (chr s 0) 4)) 7, IntKind.i64.wrap (iand IntKind.u8 (chr s 0) 15), decide (128 ≤ chr s 1), bif decide (0 < min (slen (sub s 4 4)) 4) then 0 else 0, bif decide (1 < min (slen (sub s 4 4)) 4) then 0 else 0, bif decide (2 < min (slen (sub s 4 4)) 4) then 0 else 0, bif decide (3 < min (slen (sub s 4 4)) 4) then 0 else 0, bigN 0 (toL (sub s 2 4)), true, 4, true)
      else (decide (128 ≤ chr s 0), iand IntKind.i64 (IntKind.i64.wrap (ishr IntKind.u8 (chr s 0) 4)) 7, IntKind.i64.wrap (iand IntKind.u8 (chr s 0) 15), decide (128 ≤ chr s 1), bif decide (0 < min (slen (sub s 4 4)) 4) then 0 else 0, bif decide (1 < min (slen (sub s 4 4)) 4) then 0 else 0, bif decide (2 < min (slen (sub s 4 4)) 4) then 0 else 0, bif decide (3 < min (slen (sub s 4 4)) 4) then 0 else 0, bigN 0 (toL (sub s 2 4)), false, 4, true)
  else bif IntKind.i64.wrap (iandn IntKind.u8 (chr s 1) 128) == 127 then bif decide (128 ≤ chr s 1) then bif decide (((slen s) : Int) < 14) then (false, 0, 0, false, 0, 0, 0, 0, 0, false, 0, false)
     else bif decide (bigN 0 (toL (sub s 2 10)) ≤ 125) then (decide (128 ≤ chr s 0), iand IntKind.i64 (IntKind.i64.wrap (ishr IntKind.u8 (chr s 0) 4)) 7, IntKind.i64.wrap (iand IntKind.u8 (chr s 0) 15), decide (128 ≤ chr s 1), bif decide (0 < min (slen (sub s 10 14)) 4) then toInt ((List.take (min (slen (sub s 10 14)) 4) (ofBytes (sub s 10 14))).getD 0 undef) else 0, bif decide (1 < min (slen (sub s 10 14)) 4) then toInt ((List.take (min (slen (sub s 10 14)) 4) (ofBytes (sub s 10 14))).getD 1 undef) else 0, bif decide (2 < min (slen (sub s 10 14)) 4) then toInt ((List.take (min (slen (sub s 10 14)) 4) (ofBytes (sub s 10 14))).getD 2 undef) else 0, bif decide (3 < min (slen (sub s 10 14)) 4) then toInt ((List.take (min (slen (sub s 10 14)) 4) (ofBytes (sub s 10 14))).getD 3 undef) else 0, bigN 0 (toL (sub s 2 10)), false, 14, true)
      else bif decide (bigN 0 (toL (sub s 2 10)) ≤ 65535) then (decide (128 ≤ chr s 0), iand IntKind.i64 (IntKind.i64.wrap (ishr IntKind.u8 (chr s 0) 4)) 7, IntKind.i64.wrap (iand IntKind.u8 (chr s 0) 15), decide (128 ≤ chr s 1), bif decide (0 < min (slen (sub s 10 14)) 4) then toInt ((List.take (min (slen (sub s 10 14)) 4) (ofBytes (sub s 10 14))).getD 0 undef) else 0, bif decide (1 < min (slen (sub s 10 14)) 4) then toInt ((List.take (min (slen (sub s 10 14)) 4) (ofBytes (sub s 10 14))).getD 1 undef) else 0, bif decide (2 < min (slen (sub s 10 14)) 4) then toInt ((List.take (min (slen (sub s 10 14)) 4) (ofBytes (sub s 10 14))).getD 2 undef) else 0, bif decide (3 < min (slen (sub s 10 14)) 4) then toInt ((List.take (min (slen (sub s 10 14)) 4) (ofBytes (sub s 10 14))).getD 3 undef) else 0, bigN 0 (toL (sub s 2 10)), false, 14, true)
       else (decide (128 ≤ chr s 0), iand IntKind.i64 (IntKind.i64.wrap (ishr IntKind.u8 (chr s 0) 4)) 7, IntKind.i64.wrap (iand IntKind.u8 (chr s 0) 15), decide (128 ≤ chr s 1), bif decide (0 < min (slen (sub s 10 14)) 4) then toInt ((List.take (min (slen (sub s 10 14)) 4) (ofBytes (sub s 10 14))).getD 0 undef) else 0, bif decide (1 < min (slen (sub s 10 14)) 4) then toInt ((List.take (min (slen (sub s 10 14)) 4) (ofBytes (sub s 10 14))).getD 1 undef) else 0, bif decide (2 < min (slen (sub s 10 14)) 4) then toInt ((List.take (min (slen (sub s 10 14)) 4) (ofBytes (sub s 10 14))).getD 2 undef) else 0, bif decide (3 < min (slen (sub s 10 14)) 4) then toInt ((List.take (min (slen (sub s 10 14)) 4) (ofBytes (sub s 10 14))).getD 3 undef) else 0, bigN 0 (toL (sub s 2 10)), true, 14, true)
    else bif decide (((slen s) : Int) < 10) then (false, 0, 0, false, 0, 0, 0, 0, 0, false, 0, false)
     else bif decide (bigN 0 (toL (sub s 2 10)) ≤ 125) then (decide (128 ≤ chr s 0), iand IntKind.i64 (IntKind.i64.wrap (ishr IntKind.u8 (chr s 0) 4)) 7, IntKind.i64.wrap (iand IntKind.u8 (chr s 0) 15), decide (128 ≤ chr s 1), bif decide (0 < min (slen (sub s 10 10)) 4) then 0 else 0, bif decide (1 < min (slen (sub s 10 10)) 4) then 0 else 0, bif decide (2 < min (slen (sub s 10 10)) 4) then 0 else 0, bif decide (3 < min (slen (sub s 10 10)) 4) then 0 else 0, bigN 0 (toL (sub s 2 10)), false, 10, true)
      else bif decide (bigN 0 (toL (sub s 2 10)) ≤ 65535) then (decide (128 ≤ chr s 0), iand IntKind.i64 (IntKind.i64.wrap (ishr IntKind.u8 (chr s 0) 4)) 7, IntKind.i64.wrap (iand IntKind.u8 (chr s 0) 15), decide (128 ≤ chr s 1), bif decide (0 < min (slen (sub s 10 10)) 4) then 0 else 0, bif decide (1 < min (slen (sub s 10 10)) 4) then 0 else 0, bif decide (2 < min (slen (sub s 10 10)) 4) then 0 else 0, bif decide (3 < min (slen (sub s 10 10)) 4) then 0 else 0, bigN 0 (toL (sub s 2 10)), false, 10, true)
       else (decide (128 ≤ chr s 0), iand IntKind.i64 (IntKind.i64.wrap (ishr IntKind.u8 (chr s 0) 4)) 7, IntKind.i64.wrap (iand IntKind.u8 (chr s 0) 15), decide (128 ≤ chr s 1), bif decide (0 < min (slen (sub s 10 10)) 4) then 0 else 0, bif decide (1 < min (slen (sub s 10 10)) 4) then 0 else 0, bif decide (2 < min (slen (sub s 10 10)) 4) then 0 else 0, bif decide (3 < min (slen (sub s 10 10)) 4) then 0 else 0, bigN 0 (toL (sub s 2 10)), true, 10, true)
   else bif decide (128 ≤ chr s 1) then bif decide (((slen s) : Int) < 6) then (false, 0, 0, false, 0, 0, 0, 0, 0, false, 0, false)
     else bif decide (IntKind.u64.wrap (IntKind.i64.wrap (iandn IntKind.u8 (chr s 1) 128)) ≤ 125) then (decide (128 ≤ chr s 0), iand IntKind.i64 (IntKind.i64.wrap (ishr IntKind.u8 (chr s 0) 4)) 7, IntKind.i64.wrap (iand IntKind.u8 (chr s 0) 15), decide (128 ≤ chr s 1), bif decide (0 < min (slen (sub s 2 6)) 4) then toInt ((List.take (min (slen (sub s 2 6)) 4) (ofBytes (sub s 2 6))).getD 0 undef) else 0, bif decide (1 < min (slen (sub s 2 6)) 4) then toInt ((List.take (min (slen (sub s 2 6)) 4) (ofBytes (sub s 2 6))).getD 1 undef) else 0, bif decide (2 < min (slen (sub s 2 6)) 4) then toInt ((List.take (min (slen (sub s 2 6)) 4) (ofBytes (sub s 2 6))).getD 2 undef) else 0, bif decide (3 < min (slen (sub s 2 6)) 4) then toInt ((List.take (min (slen (sub s 2 6)) 4) (ofBytes (sub s 2 6))).getD 3 undef) else 0, IntKind.u64.wrap (IntKind.i64.wrap (iandn IntKind.u8 (chr s 1) 128)), true, 6, true)
      else bif decide (IntKind.u64.wrap (IntKind.i64.wrap (iandn IntKind.u8 (chr s 1) 128)) ≤ 65535) then (decide (128 ≤ chr s 0), iand IntKind.i64 (IntKind.i64.wrap (ishr IntKind.u8 (chr s 0) 4)) 7, IntKind.i64.wrap (iand IntKind.u8 (chr s 0) 15), decide (128 ≤ chr s 1), bif decide (0 < min (slen (sub s 2 6)) 4) then toInt ((List.take (min (slen (sub s 2 6)) 4) (ofBytes (sub s 2 6))).getD 0 undef) else 0, bif decide (1 < min (slen (sub s 2 6)) 4) then toInt ((List.take (min (slen (sub s 2 6)) 4) (ofBytes (sub s 2 6))).getD 1 undef) else 0, bif decide (2 < min (slen (sub s 2 6)) 4) then toInt ((List.take (min (slen (sub s 2 6)) 4) (ofBytes (sub s 2 6))).getD 2 undef) else 0, bif decide (3 < min (slen (sub s 2 6)) 4) then toInt ((List.take (min (slen (sub s 2 6)) 4) (ofBytes (sub s 2 6))).getD 3 undef) else 0, IntKind.u64.wrap (IntKind.i64.wrap (iandn IntKind.u8 (chr s 1) 128)), false, 6, true)
       else (decide (128 ≤ chr s 0), iand IntKind.i64 (IntKind.i64.wrap (ishr IntKind.u8 (chr s 0) 4)) 7, IntKind.i64.wrap (iand IntKind.u8 (chr s 0) 15), decide (128 ≤ chr s 1), bif decide (0 < min (slen (sub s 2 6)) 4) then toInt ((List.take (min (slen (sub s 2 6)) 4) (ofBytes (sub s 2 6))).getD 0 undef) else 0, bif decide (1 < min (slen (sub s 2 6)) 4) then toInt ((List.take (min (slen (sub s 2 6)) 4) (ofBytes (sub s 2 6))).getD 1 undef) else 0, bif decide (2 < min (slen (sub s 2 6)) 4) then toInt ((List.take (min (slen (sub s 2 6)) 4) (ofBytes (sub s 2 6))).getD 2 undef) else 0, bif decide (3 < min (slen (sub s 2 6)) 4) then toInt ((List.take (min (slen (sub s 2 6)) 4) (ofBytes (sub s 2 6))).getD 3 undef) else 0, IntKind.u64.wrap (IntKind.i64.wrap (iandn IntKind.u8 (chr s 1) 128)), false, 6, true)
    else bif decide (IntKind.u64.wrap (IntKind.i64.wrap (iandn IntKind.u8 (chr s 1) 128)) ≤ 125) then (decide (128 ≤ chr s 0), iand IntKind.i64 (IntKind.i64.wrap (ishr IntKind.u8 (chr s 0) 4)) 7, IntKind.i64.wrap (iand IntKind.u8 (chr s 0) 15), decide (128 ≤ chr s 1), bif decide (0 < min (slen (sub s 2 2)) 4) then 0 else 0, bif decide (1 < min (slen (sub s 2 2)) 4) then 0 else 0, bif decide (2 < min (slen (sub s 2 2)) 4) then 0 else 0, bif decide (3 < min (slen (sub s 2 2)) 4) then 0 else 0, IntKind.u64.wrap (IntKind.i64.wrap (iandn IntKind.u8 (chr s 1) 128)), true, 2, true)
     else bif decide (IntKind.u64.wrap (IntKind.i64.wrap (iandn IntKind.u8 (chr s 1) 128)) ≤ 65535) then (decide (128 ≤ chr s 0), iand IntKind.i64 (IntKind.i64.wrap (ishr IntKind.u8 (chr s 0) 4)) 7, IntKind.i64.wrap (iand IntKind.u8 (chr s 0) 15), decide (128 ≤ chr s 1), bif decide (0 < min (slen (sub s 2 2)) 4) then 0 else 0, bif decide (1 < min (slen (sub s 2 2)) 4) then 0 else 0, bif decide (2 < min (slen (sub s 2 2)) 4) then 0 else 0, bif decide (3 < min (slen (sub s 2 2)) 4) then 0 else 0, IntKind.u64.wrap (IntKind.i64.wrap (iandn IntKind.u8 (chr s 1) 128)), false, 2, true)
      else (decide (128 ≤ chr s 0), iand IntKind.i64 (IntKind.i64.wrap (ishr IntKind.u8 (chr s 0) 4)) 7, IntKind.i64.wrap (iand IntKind.u8 (chr s 0) 15), decide (128 ≤ chr s 1), bif decide (0 < min (slen (sub s 2 2)) 4) then 0 else 0, bif decide (1 < min (slen (sub s 2 2)) 4) then 0 else 0, bif decide (2 < min (slen (sub s 2 2)) 4) then 0 else 0, bif decide (3 < min (slen (sub s 2 2)) 4) then 0 else 0, IntKind.u64.wrap (IntKind.i64.wrap (iandn IntKind.u8 (chr s 1) 128)), false, 2, true)
def head_S0 (s : ByteArray) : Prop :=
 ((decide (((slen s) : Int) < 2)) = true → True) ∧
 ((decide (((slen s) : Int) < 2)) = false → ((IntKind.i64.wrap (iandn IntKind.u8 (chr s 1) 128) == 126) = true → ((decide (128 ≤ chr s 1)) = true → ((decide (((slen s) : Int) < 8)) = true → (1 < ((slen s) : Int)) ∧ (0 < ((slen s) : Int))) ∧
    ((decide (((slen s) : Int) < 8)) = false → ((decide (bigN 0 (toL (sub s 2 4)) ≤ 125)) = true → (((List.take (min (slen (sub s 4 8)) 4) (ofBytes (sub s 4 8))).all one) = true) ∧ ((bif decide (0 < min (slen (sub s 4 8)) 4) then isInt .u8 ((List.take (min (slen (sub s 4 8)) 4) (ofBytes (sub s 4 8))).getD 0 undef) else true) = true) ∧ ((bif decide (1 < min (slen (sub s 4 8)) 4) then isInt .u8 ((List.take (min (slen (sub s 4 8)) 4) (ofBytes (sub s 4 8))).getD 1 undef) else true) = true) ∧ ((bif decide (2 < min (slen (sub s 4 8)) 4) then isInt .u8 ((List.take (min (slen (sub s 4 8)) 4) (ofBytes (sub s 4 8))).getD 2 undef) else true) = true) ∧ ((bif decide (3 < min (slen (sub s 4 8)) 4) then isInt .u8 ((List.take (min (slen (sub s 4 8)) 4) (ofBytes (sub s 4 8))).getD 3 undef) else true) = true) ∧ (min (slen (sub s 4 8)) 4 ≤ slen (sub s 4 8)) ∧ (8 ≤ ((slen s) : Int)) ∧ (big_pre (sub s 2 4)) ∧ (4 ≤ ((slen s) : Int)) ∧ (1 < ((slen s) : Int)) ∧ (0 < ((slen s) : Int))) ∧
     ((decide (bigN 0 (toL (sub s 2 4)) ≤ 125)) = false → ((decide (bigN 0 (toL (sub s 2 4)) ≤ 65535)) = true → (((List.take (min (slen (sub s 4 8)) 4) (ofBytes (sub s 4 8))).all one) = true) ∧ ((bif decide (0 < min (slen (sub s 4 8)) 4) then isInt .u8 ((List.take (min (slen (sub s 4 8)) 4) (ofBytes (sub s 4 8))).getD 0 undef) else true) = true) ∧ ((bif decide (1 < min (slen (sub s 4 8)) 4) then isInt .u8 ((List.take (min (slen (sub s 4 8)) 4) (ofBytes (sub s 4 8))).getD 1 undef) else true) = true) ∧ ((bif decide (2 < min (slen (sub s 4 8)) 4) then isInt .u8 ((List.take (min (slen (sub s 4 8)) 4) (ofBytes (sub s 4 8))).getD 2 undef) else true) = true) ∧ ((bif decide (3 < min (slen (sub s 4 8)) 4) then isInt .u8 ((List.take (min (slen (sub s 4 8)) 4) (ofBytes (sub s 4 8))).getD 3 undef) else true) = true) ∧ (min (slen (sub s 4 8)) 4 ≤ slen (sub s 4 8)) ∧ (8 ≤ ((slen s) : Int)) ∧ (big_pre (sub s 2 4)) ∧ (4 ≤ ((slen s) : Int)) ∧ (1 < ((slen s) : Int)) ∧ (0 < ((slen s) : Int))) ∧
      ((decide (bigN 0 (toL (sub s 2 4)) ≤ 65535)) = false → (((List.take (min (slen (sub s 4 8)) 4) (ofBytes (sub s 4 8))).all one) = true) ∧ ((bif decide (0 < min (slen (sub s 4 8)) 4) then isInt .u8 ((List.take (min (slen (sub s 4 8)) 4) (ofBytes (sub s 4 8))).getD 0 undef) else true) = true) ∧ ((bif decide (1 < min (slen (sub s 4 8)) 4) then isInt .u8 ((List.take (min (slen (sub s 4 8)) 4) (ofBytes (sub s 4 8))).getD 1 undef) else true) = true) ∧ ((bif decide (2 < min (slen (sub s 4 8)) 4) then isInt .u8 ((List.take (min (slen (sub s 4 8)) 4) (ofBytes (sub s 4 8))).getD 2 undef) else true) = true) ∧ ((bif decide (3 < min (slen (sub s 4 8)) 4) then isInt .u8 ((List.take (min (slen (sub s 4 8)) 4) (ofBytes (sub s 4 8))).getD 3 undef) else true) = true) ∧ (min (slen (sub s 4 8)) 4 ≤ slen (sub s 4 8)) ∧ (8 ≤ ((slen s) : Int)) ∧ (big_pre (sub s 2 4)) ∧ (4 ≤ ((slen s) : Int)) ∧ (1 < ((slen s) : Int)) ∧ (0 < ((slen s) : Int)))))) ∧
   ((decide (128 ≤ chr s 1)) = false → ((decide (((slen s) : Int) < 4)) = true → (1 < ((slen s) : Int)) ∧ (0 < ((slen s) : Int))) ∧
    ((decide (((slen s) : Int) < 4)) = false → ((decide (bigN 0 (toL (sub s 2 4)) ≤ 125)) = true → (4 ≤ ((slen s) : Int)) ∧ (big_pre (sub s 2 4)) ∧ (1 < ((slen s) : Int)) ∧ (0 < ((slen s) : Int))) ∧
     ((decide (bigN 0 (toL (sub s 2 4)) ≤ 125)) = false → ((decide (bigN 0 (toL (sub s 2 4)) ≤ 65535)) = true → (4 ≤ ((slen s) : Int)) ∧ (big_pre (sub s 2 4)) ∧ (1 < ((slen s) : Int)) ∧ (0 < ((slen s) : Int))) ∧
      ((decide (bigN 0 (toL (sub s 2 4)) ≤ 65535)) = false → (4 ≤ ((slen s) : Int)) ∧ (big_pre (sub s 2 4)) ∧ (1 < ((slen s) : Int)) ∧ (0 < ((slen s) : Int))))))) ∧
  ((IntKind.i64.wrap (iandn IntKind.u8 (chr s 1) 128) == 126) = false → ((IntKind.i64.wrap (iandn IntKind.u8 (chr s 1) 128) == 127) = true → ((decide (128 ≤ chr s 1)) = true → ((decide (((slen s) : Int) < 14)) = true → (1 < ((slen s) : Int)) ∧ (0 < ((slen s) : Int))) ∧
     ((decide (((slen s) : Int) < 14)) = false → ((decide (bigN 0 (toL (sub s 2 10)) ≤ 125)) = true → (((List.take (min (slen (sub s 10 14)) 4) (ofBytes (sub s 10 14))).all one) = true) ∧ ((bif decide (0 < min (slen (sub s 10 14)) 4) then isInt .u8 ((List.take (min (slen (sub s 10 14)) 4) (ofBytes (sub s 10 14))).getD 0 undef) else true) = true) ∧ ((bif decide (1 < min (slen (sub s 10 14)) 4) then isInt .u8 ((List.take (min (slen (sub s 10 14)) 4) (ofBytes (sub s 10 14))).getD 1 undef) else true) = true) ∧ ((bif decide (2 < min (slen (sub s 10 14)) 4) then isInt .u8 ((List.take (min (slen (sub s 10 14)) 4) (ofBytes (sub s 10 14))).getD 2 undef) else true) = true) ∧ ((bif decide (3 < min (slen (sub s 10 14)) 4) then isInt .u8 ((List.take (min (slen (sub s 10 14)) 4) (ofBytes (sub s 10 14))).getD 3 undef) else true) = true) ∧ (min (slen (sub s 10 14)) 4 ≤ slen (sub s 10 14)) ∧ (14 ≤ ((slen s) : Int)) ∧ (big_pre (sub s 2 10)) ∧ (10 ≤ ((slen s) : Int)) ∧ (1 < ((slen s) : Int)) ∧ (0 < ((slen s) : Int))) ∧
      ((decide (bigN 0 (toL (sub s 2 10)) ≤ 125)) = false → ((decide (bigN 0 (toL (sub s 2 10)) ≤ 65535)) = true → (((List.take (min (slen (sub s 10 14)) 4) (ofBytes (sub s 10 14))).all one) = true) ∧ ((bif decide (0 < min (slen (sub s 10 14)) 4) then isInt .u8 ((List.take (min (slen (sub s 10 14)) 4) (ofBytes (sub s 10 14))).getD 0 undef) else true) = true) ∧ ((bif decide (1 < min (slen (sub s 10 14)) 4) then isInt .u8 ((List.take (min (slen (sub s 10 14)) 4) (ofBytes (sub s 10 14))).getD 1 undef) else true) = true) ∧ ((bif decide (2 < min (slen (sub s 10 14)) 4) then isInt .u8 ((List.take (min (slen (sub s 10 14)) 4) (ofBytes (sub s 10 14))).getD 2 undef) else true) = true) ∧ ((bif decide (3 < min (slen (sub s 10 14)) 4) then isInt .u8 ((List.take (min (slen (sub s 10 14)) 4) (ofBytes (sub s 10 14))).getD 3 undef) else true) = true) ∧ (min (slen (sub s 10 14)) 4 ≤ slen (sub s 10 14)) ∧ (14 ≤ ((slen s) : Int)) ∧ (big_pre (sub s 2 10)) ∧ (10 ≤ ((slen s) : Int)) ∧ (1 < ((slen s) : Int)) ∧ (0 < ((slen s) : Int))) ∧
       ((decide (bigN 0 (toL (sub s 2 10)) ≤ 65535)) = false → (((List.take (min (slen (sub s 10 14)) 4) (ofBytes (sub s 10 14))).all one) = true) ∧ ((bif decide (0 < min (slen (sub s 10 14)) 4) then isInt .u8 ((List.take (min (slen (sub s 10 14)) 4) (ofBytes (sub s 10 14))).getD 0 undef) else true) = true) ∧ ((bif decide (1 < min (slen (sub s 10 14)) 4) then isInt .u8 ((List.take (min (slen (sub s 10 14)) 4) (ofBytes (sub s 10 14))).getD 1 undef) else true) = true) ∧ ((bif decide (2 < min (slen (sub s 10 14)) 4) then isInt .u8 ((List.take (min (slen (sub s 10 14)) 4) (ofBytes (sub s 10 14))).getD 2 undef) else true) = true) ∧ ((bif decide (3 < min (slen (sub s 10 14)) 4) then isInt .u8 ((List.take (min (slen (sub s 10 14)) 4) (ofBytes (sub s 10 14))).getD 3 undef) else true) = true) ∧ (min (slen (sub s 10 14)) 4 ≤ slen (sub s 10 14)) ∧ (14 ≤ ((slen s) : Int)) ∧ (big_pre (sub s 2 10)) ∧ (10 ≤ ((slen s) : Int)) ∧ (1 < ((slen s) : Int)) ∧ (0 < ((slen s) : Int)))))) ∧
    ((decide (128 ≤ chr s 1)) = false → ((decide (((slen s) : Int) < 10)) = true → (1 < ((slen s) : Int)) ∧ (0 < ((slen s) : Int))) ∧
     ((decide (((slen s) : Int) < 10)) = false → ((decide (bigN 0 (toL (sub s 2 10)) ≤ 125)) = true → (10 ≤ ((slen s) : Int)) ∧ (big_pre (sub s 2 10)) ∧ (1 < ((slen s) : Int)) ∧ (0 < ((slen s) : Int))) ∧
      ((decide (bigN 0 (toL (sub s 2 10)) ≤ 125)) = false → ((decide (bigN 0 (toL (sub s 2 10)) ≤ 65535)) = true → (10 ≤ ((slen s) : Int)) ∧ (big_pre (sub s 2 10)) ∧ (1 < ((slen s) : Int)) ∧ (0 < ((slen s) : Int))) ∧
       ((decide (bigN 0 (toL (sub s 2 10)) ≤ 65535)) = false → (10 ≤ ((slen s) : Int)) ∧ (big_pre (sub s 2 10)) ∧ (1 < ((slen s) : Int)) ∧ (0 < ((slen s) : Int))))))) ∧
   ((IntKind.i64.wrap (iandn IntKind.u8 (chr s 1) 128) == 127) = false → ((decide (128 ≤ chr s 1)) = true → ((decide (((slen s) : Int) < 6)) = true → (1 < ((slen s) : Int)) ∧ (0 < ((slen s) : Int))) ∧
     ((decide (((slen s) : Int) < 6)) = false → ((decide (IntKind.u64.wrap (IntKind.i64.wrap (iandn IntKind.u8 (chr s 1) 128)) ≤ 125)) = true → (((List.take (min (slen (sub s 2 6)) 4) (ofBytes (sub s 2 6))).all one) = true) ∧ ((bif decide (0 < min (slen (sub s 2 6)) 4) then isInt .u8 ((List.take (min (slen (sub s 2 6)) 4) (ofBytes (sub s 2 6))).getD 0 undef) else true) = true) ∧ ((bif decide (1 < min (slen (sub s 2 6)) 4) then isInt .u8 ((List.take (min (slen (sub s 2 6)) 4) (ofBytes (sub s 2 6))).getD 1 undef) else true) = true) ∧ ((bif decide (2 < min (slen (sub s 2 6)) 4) then isInt .u8 ((List.take (min (slen (sub s 2 6)) 4) (ofBytes (sub s 2 6))).getD 2 undef) else true) = true) ∧ ((bif decide (3 < min (slen (sub s 2 6)) 4) then isInt .u8 ((List.take (min (slen (sub s 2 6)) 4) (ofBytes (sub s 2 6))).getD 3 undef) else true) = true) ∧ (min (slen (sub s 2 6)) 4 ≤ slen (sub s 2 6)) ∧ (6 ≤ ((slen s) : Int)) ∧ (1 < ((slen s) : Int)) ∧ (0 < ((slen s) : Int))) ∧
      ((decide (IntKind.u64.wrap (IntKind.i64.wrap (iandn IntKind.u8 (chr s 1) 128)) ≤ 125)) = false → ((decide (IntKind.u64.wrap (IntKind.i64.wrap (iandn IntKind.u8 (chr s 1) 128)) ≤ 65535)) = true → (((List.take (min (slen (sub s 2 6)) 4) (ofBytes (sub s 2 6))).all one) = true) ∧ ((bif decide (0 < min (slen (sub s 2 6)) 4) then isInt .u8 ((List.take (min (slen (sub s 2 6)) 4) (ofBytes (sub s 2 6))).getD 0 undef) else true) = true) ∧ ((bif decide (1 < min (slen (sub s 2 6)) 4) then isInt .u8 ((List.take (min (slen (sub s 2 6)) 4) (ofBytes (sub s 2 6))).getD 1 undef) else true) = true) ∧ ((bif decide (2 < min (slen (sub s 2 6)) 4) then isInt .u8 ((List.take (min (slen (sub s 2 6)) 4) (ofBytes (sub s 2 6))).getD 2 undef) else true) = true) ∧ ((bif decide (3 < min (slen (sub s 2 6)) 4) then isInt .u8 ((List.take (min (slen (sub s 2 6)) 4) (ofBytes (sub s 2 6))).getD 3 undef) else true) = true) ∧ (min (slen (sub s 2 6)) 4 ≤ slen (sub s 2 6)) ∧ (6 ≤ ((slen s) : Int)) ∧ (1 < ((slen s) : Int)) ∧ (0 < ((slen s) : Int))) ∧
       ((decide (IntKind.u64.wrap (IntKind.i64.wrap (iandn IntKind.u8 (chr s 1) 128)) ≤ 65535)) = false → (((List.take (min (slen (sub s 2 6)) 4) (ofBytes (sub s 2 6))).all one) = true) ∧ ((bif decide (0 < min (slen (sub s 2 6)) 4) then isInt .u8 ((List.take (min (slen (sub s 2 6)) 4) (ofBytes (sub s 2 6))).getD 0 undef) else true) = true) ∧ ((bif decide (1 < min (slen (sub s 2 6)) 4) then isInt .u8 ((List.take (min (slen (sub s 2 6)) 4) (ofBytes (sub s 2 6))).getD 1 undef) else true) = true) ∧ ((bif decide (2 < min (slen (sub s 2 6)) 4) then isInt .u8 ((List.take (min (slen (sub s 2 6)) 4) (ofBytes (sub s 2 6))).getD 2 undef) else true) = true) ∧ ((bif decide (3 < min (slen (sub s 2 6)) 4) then isInt .u8 ((List.take (min (slen (sub s 2 6)) 4) (ofBytes (sub s 2 6))).getD 3 undef) else true) = true) ∧ (min (slen (sub s 2 6)) 4 ≤ slen (sub s 2 6)) ∧ (6 ≤ ((slen s) : Int)) ∧ (1 < ((slen s) : Int)) ∧ (0 < ((slen s) : Int)))))) ∧
    ((decide (128 ≤ chr s 1)) = false → ((decide (IntKind.u64.wrap (IntKind.i64.wrap (iandn IntKind.u8 (chr s 1) 128)) ≤ 125)) = true → (2 ≤ ((slen s) : Int)) ∧ (1 < ((slen s) : Int)) ∧ (0 < ((slen s) : Int))) ∧
     ((decide (IntKind.u64.wrap (IntKind.i64.wrap (iandn IntKind.u8 (chr s 1) 128)) ≤ 125)) = false → ((decide (IntKind.u64.wrap (IntKind.i64.wrap (iandn IntKind.u8 (chr s 1) 128)) ≤ 65535)) = true → (2 ≤ ((slen s) : Int)) ∧ (1 < ((slen s) : Int)) ∧ (0 < ((slen s) : Int))) ∧
      ((decide (IntKind.u64.wrap (IntKind.i64.wrap (iandn IntKind.u8 (chr s 1) 128)) ≤ 65535)) = false → (2 ≤ ((slen s) : Int)) ∧ (1 < ((slen s) : Int)) ∧ (0 < ((slen s) : Int))))))))
theorem head_ok0 (s : ByteArray) (hS : head_S0 s) : head_Q s (startC E 73 ([.string s]) ([])) (head_t0 s) := by
 unfold head_S0 at hS
 unfold head_t0
 refine cond_intro (P := head_Q s (startC E 73 ([.string s]) ([]))) _ (fun h0 => ?_) (fun h0 => ?_)
 ·skip
  exact ends_q KC_ok 2000 21 (bs 1 1) [0] [2, 3, 4] [] (andI (dT h0) rfl)
 ·skip
  refine cond_intro (P := head_Q s (startC E 73 ([.string s]) ([]))) _ (fun h1 => ?_) (fun h1 => ?_)
  ·skip
   refine cond_intro (P := head_Q s (startC E 73 ([.string s]) ([]))) _ (fun h2 => ?_) (fun h2 => ?_)
   ·skip
    refine cond_intro (P := head_Q s (startC E 73 ([.string s]) ([]))) _ (fun h3 => ?_) (fun h3 => ?_)
    ·skip
     have z0 := (((hS.2 h0).1 h1).1 h2).1 h3; exact ends_q KC_ok 2000 86 (bs 4 14) [0] [2, 3, 4] [] (and8 (dT h3) (dT h2) (dT h1) (decide_eq_true z0.1) (decide_eq_true z0.1) (decide_eq_true z0.2) (decide_eq_true z0.2) (decide_eq_true z0.2) (andI (dF h0) rfl))
    ·skip
     refine cond_intro (P := head_Q s (startC E 73 ([.string s]) ([]))) _ (fun h5 => ?_) (fun h5 => ?_)
     ·skip
      have z0 := ((((hS.2 h0).1 h1).1 h2).2 h3).1 h5; exact ends_q KC_ok 2000 141 (bs 6 54) [0] [2, 3, 4] [] (and8 (z0.1) (z0.2.1) (z0.2.2.1) (z0.2.2.2.1) (z0.2.2.2.2.1) (decide_eq_true z0.2.2.2.2.2.1) (decide_eq_true z0.2.2.2.2.2.2.1) (dT h5) (and8 (pdec_iff.2 z0.2.2.2.2.2.2.2.1) (decide_eq_true z0.2.2.2.2.2.2.2.2.1) (dF h3) (dT h2) (dT h1) (decide_eq_true z0.2.2.2.2.2.2.2.2.2.1) (decide_eq_true z0.2.2.2.2.2.2.2.2.2.1) (decide_eq_true z0.2.2.2.2.2.2.2.2.2.2) (andI (decide_eq_true z0.2.2.2.2.2.2.2.2.2.2) (andI (decide_eq_true z0.2.2.2.2.2.2.2.2.2.2) (andI (dF h0) rfl)))))
     ·skip
      refine cond_intro (P := head_Q s (startC E 73 ([.string s]) ([]))) _ (fun h6 => ?_) (fun h6 => ?_)
      ·skip
       have z0 := (((((hS.2 h0).1 h1).1 h2).2 h3).2 h5).1 h6; exact ends_q KC_ok 2000 148 (bs 7 86) [0] [2, 3, 4] [] (and8 (z0.1) (z0.2.1) (z0.2.2.1) (z0.2.2.2.1) (z0.2.2.2.2.1) (decide_eq_true z0.2.2.2.2.2.1) (decide_eq_true z0.2.2.2.2.2.2.1) (dT h6) (and8 (dF h5) (pdec_iff.2 z0.2.2.2.2.2.2.2.1) (decide_eq_true z0.2.2.2.2.2.2.2.2.1) (dF h3) (dT h2) (dT h1) (decide_eq_true z0.2.2.2.2.2.2.2.2.2.1) (decide_eq_true z0.2.2.2.2.2.2.2.2.2.1) (and4 (decide_eq_true z0.2.2.2.2.2.2.2.2.2.2) (decide_eq_true z0.2.2.2.2.2.2.2.2.2.2) (decide_eq_true z0.2.2.2.2.2.2.2.2.2.2) (dF h0) rfl)))
      ·skip
       have z0 := (((((hS.2 h0).1 h1).1 h2).2 h3).2 h5).2 h6; exact ends_q KC_ok 2000 150 (bs 7 22) [0] [2, 3, 4] [] (and8 (z0.1) (z0.2.1) (z0.2.2.1) (z0.2.2.2.1) (z0.2.2.2.2.1) (decide_eq_true z0.2.2.2.2.2.1) (decide_eq_true z0.2.2.2.2.2.2.1) (dF h6) (and8 (dF h5) (pdec_iff.2 z0.2.2.2.2.2.2.2.1) (decide_eq_true z0.2.2.2.2.2.2.2.2.1) (dF h3) (dT h2) (dT h1) (decide_eq_true z0.2.2.2.2.2.2.2.2.2.1) (decide_eq_true z0.2.2.2.2.2.2.2.2.2.1) (and4 (decide_eq_true z0.2.2.2.2.2.2.2.2.2.2) (decide_eq_true z0.2.2.2.2.2.2.2.2.2.2) (decide_eq_true z0.2.2.2.2.2.2.2.2.2.2) (dF h0) rfl)))
   ·skip
    refine cond_intro (P := head_Q s (startC E 73 ([.string s]) ([]))) _ (fun h3 => ?_) (fun h3 => ?_)
    ·skip
     have z0 := (((hS.2 h0).1 h1).2 h2).1 h3; exact ends_q KC_ok 2000 82 (bs 4 10) [0] [2, 3, 4] [] (and8 (dT h3) (dF h2) (dT h1) (decide_eq_true z0.1) (decide_eq_true z0.1) (decide_eq_true z0.2) (decide_eq_true z0.2) (decide_eq_true z0.2) (andI (dF h0) rfl))
    ·skip
     refine cond_intro (P := head_Q s (startC E 73 ([.string s]) ([]))) _ (fun h5 => ?_) (fun h5 => ?_)
     ·skip
      have z0 := ((((hS.2 h0).1 h1).2 h2).2 h3).1 h5; exact ends_q KC_ok 2000 137 (bs 6 50) [0] [2, 3, 4] [] (and8 (decide_eq_true z0.1) (dT h5) (pdec_iff.2 z0.2.1) (decide_eq_true z0.1) (dF h3) (dF h2) (dT h1) (decide_eq_true z0.2.2.1) (andI (decide_eq_true z0.2.2.1) (and4 (decide_eq_true z0.2.2.2) (decide_eq_true z0.2.2.2) (decide_eq_true z0.2.2.2) (dF h0) rfl)))
     ·skip
      refine cond_intro (P := head_Q s (startC E 73 ([.string s]) ([]))) _ (fun h6 => ?_) (fun h6 => ?_)
      ·skip
       have z0 := (((((hS.2 h0).1 h1).2 h2).2 h3).2 h5).1 h6; exact ends_q KC_ok 2000 144 (bs 7 82) [0] [2, 3, 4] [] (and8 (decide_eq_true z0.1) (dT h6) (dF h5) (pdec_iff.2 z0.2.1) (decide_eq_true z0.1) (dF h3) (dF h2) (dT h1) (andI (decide_eq_true z0.2.2.1) (andI (decide_eq_true z0.2.2.1) (and4 (decide_eq_true z0.2.2.2) (decide_eq_true z0.2.2.2) (decide_eq_true z0.2.2.2) (dF h0) rfl))))
      ·skip
       have z0 := (((((hS.2 h0).1 h1).2 h2).2 h3).2 h5).2 h6; exact ends_q KC_ok 2000 146 (bs 7 18) [0] [2, 3, 4] [] (and8 (decide_eq_true z0.1) (dF h6) (dF h5) (pdec_iff.2 z0.2.1) (decide_eq_true z0.1) (dF h3) (dF h2) (dT h1) (andI (decide_eq_true z0.2.2.1) (andI (decide_eq_true z0.2.2.1) (and4 (decide_eq_true z0.2.2.2) (decide_eq_true z0.2.2.2) (decide_eq_true z0.2.2.2) (dF h0) rfl))))
  ·skip
   refine cond_intro (P := head_Q s (startC E 73 ([.string s]) ([]))) _ (fun h2 => ?_) (fun h2 => ?_)
   ·skip
    refine cond_intro (P := head_Q s (startC E 73 ([.string s]) ([]))) _ (fun h3 => ?_) (fun h3 => ?_)
    ·skip
     refine cond_intro (P := head_Q s (startC E 73 ([.string s]) ([]))) _ (fun h4 => ?_) (fun h4 => ?_)
     ·skip
      have z0 := ((((hS.2 h0).2 h1).1 h2).1 h3).1 h4; exact ends_q KC_ok 2000 92 (bs 5 28) [0] [2, 3, 4] [] (and8 (dT h4) (dT h3) (dT h2) (dF h1) (decide_eq_true z0.1) (decide_eq_true z0.1) (decide_eq_true z0.2) (decide_eq_true z0.2) (andI (decide_eq_true z0.2) (andI (dF h0) rfl)))
     ·skip
      refine cond_intro (P := head_Q s (startC E 73 ([.string s]) ([]))) _ (fun h6 => ?_) (fun h6 => ?_)
      ·skip
       have z0 := (((((hS.2 h0).2 h1).1 h2).1 h3).2 h4).1 h6; exact ends_q KC_ok 2000 147 (bs 7 108) [0] [2, 3, 4] [] (and8 (z0.1) (z0.2.1) (z0.2.2.1) (z0.2.2.2.1) (z0.2.2.2.2.1) (decide_eq_true z0.2.2.2.2.2.1) (decide_eq_true z0.2.2.2.2.2.2.1) (dT h6) (and8 (pdec_iff.2 z0.2.2.2.2.2.2.2.1) (decide_eq_true z0.2.2.2.2.2.2.2.2.1) (dF h4) (dT h3) (dT h2) (dF h1) (decide_eq_true z0.2.2.2.2.2.2.2.2.2.1) (decide_eq_true z0.2.2.2.2.2.2.2.2.2.1) (and4 (decide_eq_true z0.2.2.2.2.2.2.2.2.2.2) (decide_eq_true z0.2.2.2.2.2.2.2.2.2.2) (decide_eq_true z0.2.2.2.2.2.2.2.2.2.2) (dF h0) rfl)))
      ·skip
       refine cond_intro (P := head_Q s (startC E 73 ([.string s]) ([]))) _ (fun h7 => ?_) (fun h7 => ?_)
       ·skip
        have z0 := ((((((hS.2 h0).2 h1).1 h2).1 h3).2 h4).2 h6).1 h7; exact ends_q KC_ok 2000 154 (bs 8 172) [0] [2, 3, 4] [] (and8 (z0.1) (z0.2.1) (z0.2.2.1) (z0.2.2.2.1) (z0.2.2.2.2.1) (decide_eq_true z0.2.2.2.2.2.1) (decide_eq_true z0.2.2.2.2.2.2.1) (dT h7) (and8 (dF h6) (pdec_iff.2 z0.2.2.2.2.2.2.2.1) (decide_eq_true z0.2.2.2.2.2.2.2.2.1) (dF h4) (dT h3) (dT h2) (dF h1) (decide_eq_true z0.2.2.2.2.2.2.2.2.2.1) (andI (decide_eq_true z0.2.2.2.2.2.2.2.2.2.1) (and4 (decide_eq_true z0.2.2.2.2.2.2.2.2.2.2) (decide_eq_true z0.2.2.2.2.2.2.2.2.2.2) (decide_eq_true z0.2.2.2.2.2.2.2.2.2.2) (dF h0) rfl))))
       ·skip
        have z0 := ((((((hS.2 h0).2 h1).1 h2).1 h3).2 h4).2 h6).2 h7; exact ends_q KC_ok 2000 156 (bs 8 44) [0] [2, 3, 4] [] (and8 (z0.1) (z0.2.1) (z0.2.2.1) (z0.2.2.2.1) (z0.2.2.2.2.1) (decide_eq_true z0.2.2.2.2.2.1) (decide_eq_true z0.2.2.2.2.2.2.1) (dF h7) (and8 (dF h6) (pdec_iff.2 z0.2.2.2.2.2.2.2.1) (decide_eq_true z0.2.2.2.2.2.2.2.2.1) (dF h4) (dT h3) (dT h2) (dF h1) (decide_eq_true z0.2.2.2.2.2.2.2.2.2.1) (andI (decide_eq_true z0.2.2.2.2.2.2.2.2.2.1) (and4 (decide_eq_true z0.2.2.2.2.2.2.2.2.2.2) (decide_eq_true z0.2.2.2.2.2.2.2.2.2.2) (decide_eq_true z0.2.2.2.2.2.2.2.2.2.2) (dF h0) rfl))))
    ·skip
     refine cond_intro (P := head_Q s (startC E 73 ([.string s]) ([]))) _ (fun h4 => ?_) (fun h4 => ?_)
     ·skip
      have z0 := ((((hS.2 h0).2 h1).1 h2).2 h3).1 h4; exact ends_q KC_ok 2000 88 (bs 5 20) [0] [2, 3, 4] [] (and8 (dT h4) (dF h3) (dT h2) (dF h1) (decide_eq_true z0.1) (decide_eq_true z0.1) (decide_eq_true z0.2) (decide_eq_true z0.2) (andI (decide_eq_true z0.2) (andI (dF h0) rfl)))
     ·skip
      refine cond_intro (P := head_Q s (startC E 73 ([.string s]) ([]))) _ (fun h6 => ?_) (fun h6 => ?_)
      ·skip
       have z0 := (((((hS.2 h0).2 h1).1 h2).2 h3).2 h4).1 h6; exact ends_q KC_ok 2000 143 (bs 7 100) [0] [2, 3, 4] [] (and8 (decide_eq_true z0.1) (dT h6) (pdec_iff.2 z0.2.1) (decide_eq_true z0.1) (dF h4) (dF h3) (dT h2) (dF h1) (andI (decide_eq_true z0.2.2.1) (andI (decide_eq_true z0.2.2.1) (and4 (decide_eq_true z0.2.2.2) (decide_eq_true z0.2.2.2) (decide_eq_true z0.2.2.2) (dF h0) rfl))))
      ·skip
       refine cond_intro (P := head_Q s (startC E 73 ([.string s]) ([]))) _ (fun h7 => ?_) (fun h7 => ?_)
       ·skip
        have z0 := ((((((hS.2 h0).2 h1).1 h2).2 h3).2 h4).2 h6).1 h7; exact ends_q KC_ok 2000 150 (bs 8 164) [0] [2, 3, 4] [] (and8 (decide_eq_true z0.1) (dT h7) (dF h6) (pdec_iff.2 z0.2.1) (decide_eq_true z0.1) (dF h4) (dF h3) (dT h2) (andI (dF h1) (andI (decide_eq_true z0.2.2.1) (andI (decide_eq_true z0.2.2.1) (and4 (decide_eq_true z0.2.2.2) (decide_eq_true z0.2.2.2) (decide_eq_true z0.2.2.2) (dF h0) rfl)))))
       ·skip
        have z0 := ((((((hS.2 h0).2 h1).1 h2).2 h3).2 h4).2 h6).2 h7; exact ends_q KC_ok 2000 152 (bs 8 36) [0] [2, 3, 4] [] (and8 (decide_eq_true z0.1) (dF h7) (dF h6) (pdec_iff.2 z0.2.1) (decide_eq_true z0.1) (dF h4) (dF h3) (dT h2) (andI (dF h1) (andI (decide_eq_true z0.2.2.1) (andI (decide_eq_true z0.2.2.1) (and4 (decide_eq_true z0.2.2.2) (decide_eq_true z0.2.2.2) (decide_eq_true z0.2.2.2) (dF h0) rfl)))))
   ·skip
    refine cond_intro (P := head_Q s (startC E 73 ([.string s]) ([]))) _ (fun h3 => ?_) (fun h3 => ?_)
    ·skip
     refine cond_intro (P := head_Q s (startC E 73 ([.string s]) ([]))) _ (fun h4 => ?_) (fun h4 => ?_)
     ·skip
      have z0 := ((((hS.2 h0).2 h1).2 h2).1 h3).1 h4; exact ends_q KC_ok 2000 94 (bs 5 24) [0] [2, 3, 4] [] (and8 (dT h4) (dT h3) (dF h2) (dF h1) (decide_eq_true z0.1) (decide_eq_true z0.1) (decide_eq_true z0.2) (decide_eq_true z0.2) (andI (decide_eq_true z0.2) (andI (dF h0) rfl)))
     ·skip
      refine cond_intro (P := head_Q s (startC E 73 ([.string s]) ([]))) _ (fun h6 => ?_) (fun h6 => ?_)
      ·skip
       have z0 := (((((hS.2 h0).2 h1).2 h2).1 h3).2 h4).1 h6; exact ends_q KC_ok 2000 142 (bs 7 72) [0] [2, 3, 4] [] (and8 (z0.1) (z0.2.1) (z0.2.2.1) (z0.2.2.2.1) (z0.2.2.2.2.1) (decide_eq_true z0.2.2.2.2.2.1) (decide_eq_true z0.2.2.2.2.2.2.1) (dT h6) (and8 (dF h4) (dT h3) (dF h2) (dF h1) (decide_eq_true z0.2.2.2.2.2.2.2.1) (decide_eq_true z0.2.2.2.2.2.2.2.1) (decide_eq_true z0.2.2.2.2.2.2.2.2) (decide_eq_true z0.2.2.2.2.2.2.2.2) (andI (decide_eq_true z0.2.2.2.2.2.2.2.2) (andI (dF h0) rfl))))
      ·skip
       refine cond_intro (P := head_Q s (startC E 73 ([.string s]) ([]))) _ (fun h7 => ?_) (fun h7 => ?_)
       ·skip
        have z0 := ((((((hS.2 h0).2 h1).2 h2).1 h3).2 h4).2 h6).1 h7; exact ends_q KC_ok 2000 149 (bs 8 136) [0] [2, 3, 4] [] (and8 (z0.1) (z0.2.1) (z0.2.2.1) (z0.2.2.2.1) (z0.2.2.2.2.1) (decide_eq_true z0.2.2.2.2.2.1) (decide_eq_true z0.2.2.2.2.2.2.1) (dT h7) (and8 (dF h6) (dF h4) (dT h3) (dF h2) (dF h1) (decide_eq_true z0.2.2.2.2.2.2.2.1) (decide_eq_true z0.2.2.2.2.2.2.2.1) (decide_eq_true z0.2.2.2.2.2.2.2.2) (andI (decide_eq_true z0.2.2.2.2.2.2.2.2) (andI (decide_eq_true z0.2.2.2.2.2.2.2.2) (andI (dF h0) rfl)))))
       ·skip
        have z0 := ((((((hS.2 h0).2 h1).2 h2).1 h3).2 h4).2 h6).2 h7; exact ends_q KC_ok 2000 151 (bs 8 8) [0] [2, 3, 4] [] (and8 (z0.1) (z0.2.1) (z0.2.2.1) (z0.2.2.2.1) (z0.2.2.2.2.1) (decide_eq_true z0.2.2.2.2.2.1) (decide_eq_true z0.2.2.2.2.2.2.1) (dF h7) (and8 (dF h6) (dF h4) (dT h3) (dF h2) (dF h1) (decide_eq_true z0.2.2.2.2.2.2.2.1) (decide_eq_true z0.2.2.2.2.2.2.2.1) (decide_eq_true z0.2.2.2.2.2.2.2.2) (andI (decide_eq_true z0.2.2.2.2.2.2.2.2) (andI (decide_eq_true z0.2.2.2.2.2.2.2.2) (andI (dF h0) rfl)))))
    ·skip
     refine cond_intro (P := head_Q s (startC E 73 ([.string s]) ([]))) _ (fun h6 => ?_) (fun h6 => ?_)
     ·skip
      have z0 := ((((hS.2 h0).2 h1).2 h2).2 h3).1 h6; exact ends_q KC_ok 2000 138 (bs 7 64) [0] [2, 3, 4] [] (and8 (decide_eq_true z0.1) (dT h6) (dF h0) (dF h3) (dF h2) (dF h1) (decide_eq_true z0.2.1) (decide_eq_true z0.2.1) (and4 (decide_eq_true z0.2.2) (decide_eq_true z0.2.2) (decide_eq_true z0.2.2) (dF h0) rfl))
     ·skip
      refine cond_intro (P := head_Q s (startC E 73 ([.string s]) ([]))) _ (fun h7 => ?_) (fun h7 => ?_)
      ·skip
       have z0 := (((((hS.2 h0).2 h1).2 h2).2 h3).2 h6).1 h7; exact ends_q KC_ok 2000 145 (bs 8 128) [0] [2, 3, 4] [] (and8 (decide_eq_true z0.1) (dT h7) (dF h6) (dF h0) (dF h3) (dF h2) (dF h1) (decide_eq_true z0.2.1) (andI (decide_eq_true z0.2.1) (and4 (decide_eq_true z0.2.2) (decide_eq_true z0.2.2) (decide_eq_true z0.2.2) (dF h0) rfl)))
      ·skip
       have z0 := (((((hS.2 h0).2 h1).2 h2).2 h3).2 h6).2 h7; exact ends_q KC_ok 2000 147 (bs 8 0) [0] [2, 3, 4] [] (and8 (decide_eq_true z0.1) (dF h7) (dF h6) (dF h0) (dF h3) (dF h2) (dF h1) (decide_eq_true z0.2.1) (andI (decide_eq_true z0.2.1) (and4 (decide_eq_true z0.2.2) (decide_eq_true z0.2.2) (decide_eq_true z0.2.2) (dF h0) rfl)))
theorem head_call (s : ByteArray) (hS : head_S0 s) : CallOk E 73 ([.string s]) ([]) (head_V s (head_t0 s)) (head_H s (head_t0 s)) := callOk_of_ends (head_ok0 s hS) (by kernel_rfl) (Nat.le_of_ble_eq_true (by kernel_rfl))
abbrev rhead_R : Type := Bool × Bool × Bool × Int × Int × Int × Int × Int × Int × Int × Int × Bool
def rhead_V (s : ByteArray) (r : Bool × Bool × Bool × Int × Int × Int × Int × Int × Int × Int × Int × Bool) : Value := .tuple #[.agg #[.bool r.1, .bool r.2.1, .bool r.2.2.1, .int .i64 r.2.2.2.1, .int .i64 r.2.2.2.2.1, .int .u8 r.2.2.2.2.2.1, .int .u8 r.2.2.2.2.2.2.1, .int .u8 r.2.2.2.2.2.2.2.1, .int .u8 r.2.2.2.2.2.2.2.2.1, .int .u64 r.2.2.2.2.2.2.2.2.2.1], .int .i64 r.2.2.2.2.2.2.2.2.2.2.1, .bool r.2.2.2.2.2.2.2.2.2.2.2]
def rhead_H (s : ByteArray) (r : Bool × Bool × Bool × Int × Int × Int × Int × Int × Int × Int × Int × Bool) : Heap := []
noncomputable def rhead_Q (s : ByteArray) (C : Cfg) (r : rhead_R) : Prop :=
 let p := r
 AEnds E 33 0 C (rhead_V s p) (rhead_H s p)
noncomputable def rhead_t0 (s : ByteArray) : rhead_R :=
 bif decide (((slen s) : Int) < 2) then (false, false, false, 0, 0, 0, 0, 0, 0, 0, 0, false)
 else bif (IntKind.i64.wrap (chr s 1)).tmod 128 == 126 then bif (IntKind.i64.wrap (chr s 1)).tmod 128 == 127 then bif decide (((slen s) : Int) < 10) then (false, false, false, 0, 0, 0, 0, 0, 0, 0, 0, false)
    else bif decide (128 ≤ IntKind.i64.wrap (chr s 1)) then bif decide (((slen s) : Int) < 14) then (false, false, false, 0, 0, 0, 0, 0, 0, 0, 0, false)
      else (decide (128 ≤ IntKind.i64.wrap (chr s 0)), decide (128 ≤ IntKind.i64.wrap (chr s 1)), decide (65535 < IntKind.u64.wrap (IntKind.u64.wrap (IntKind.u64.wrap (IntKind.u64.wrap (IntKind.u64.wrap (IntKind.u64.wrap (IntKind.u64.wrap (IntKind.u64.wrap (IntKind.u64.wrap (IntKind.u64.wrap (IntKind.u64.wrap (IntKind.u64.wrap (IntKind.u64.wrap (IntKind.u64.wrap (IntKind.u64.wrap (0 + IntKind.u64.wrap (chr s 2)) * 256) + IntKind.u64.wrap (chr s 3)) * 256) + IntKind.u64.wrap (chr s 4)) * 256) + IntKind.u64.wrap (chr s 5)) * 256) + IntKind.u64.wrap (chr s 6)) * 256) + IntKind.u64.wrap (chr s 7)) * 256) + IntKind.u64.wrap (chr s 8)) * 256) + IntKind.u64.wrap (chr s 9))), (IntKind.i64.wrap ((IntKind.i64.wrap (chr s 0)).tdiv 16)).tmod 8, (IntKind.i64.wrap (chr s 0)).tmod 16, chr s 10, chr s 11, chr s 12, chr s 13, IntKind.u64.wrap (IntKind.u64.wrap (IntKind.u64.wrap (IntKind.u64.wrap (IntKind.u64.wrap (IntKind.u64.wrap (IntKind.u64.wrap (IntKind.u64.wrap (IntKind.u64.wrap (IntKind.u64.wrap (IntKind.u64.wrap (IntKind.u64.wrap (IntKind.u64.wrap (IntKind.u64.wrap (IntKind.u64.wrap (0 + IntKind.u64.wrap (chr s 2)) * 256) + IntKind.u64.wrap (chr s 3)) * 256) + IntKind.u64.wrap (chr s 4)) * 256) + IntKind.u64.wrap (chr s 5)) * 256) + IntKind.u64.wrap (chr s 6)) * 256) + IntKind.u64.wrap (chr s 7)) * 256) + IntKind.u64.wrap (chr s 8)) * 256) + IntKind.u64.wrap (chr s 9)), 14, true)
     else (decide (128 ≤ IntKind.i64.wrap (chr s 0)), decide (128 ≤ IntKind.i64.wrap (chr s 1)), decide (65535 < IntKind.u64.wrap (IntKind.u64.wrap (IntKind.u64.wrap (IntKind.u64.wrap (IntKind.u64.wrap (IntKind.u64.wrap (IntKind.u64.wrap (IntKind.u64.wrap (IntKind.u64.wrap (IntKind.u64.wrap (IntKind.u64.wrap (IntKind.u64.wrap (IntKind.u64.wrap (IntKind.u64.wrap (IntKind.u64.wrap (0 + IntKind.u64.wrap (chr s 2)) * 256) + IntKind.u64.wrap (chr s 3)) * 256) + IntKind.u64.wrap (chr s 4)) * 256) + IntKind.u64.wrap (chr s 5)) * 256) + IntKind.u64.wrap (chr s 6)) * 256) + IntKind.u64.wrap (chr s 7)) * 256) + IntKind.u64.wrap (chr s 8)) * 256) + IntKind.u64.wrap (chr s 9))), (IntKind.i64.wrap ((IntKind.i64.wrap (chr s 0)).tdiv 16)).tmod 8, (IntKind.i64.wrap (chr s 0)).tmod 16, 0, 0, 0, 0, IntKind.u64.wrap (IntKind.u64.wrap (IntKind.u64.wrap (IntKind.u64.wrap (IntKind.u64.wrap (IntKind.u64.wrap (IntKind.u64.wrap (IntKind.u64.wrap (IntKind.u64.wrap (IntKind.u64.wrap (IntKind.u64.wrap (IntKind.u64.wrap (IntKind.u64.wrap (IntKind.u64.wrap (IntKind.u64.wrap (0 + IntKind.u64.wrap (chr s 2)) * 256) + IntKind.u64.wrap (chr s 3)) * 256) + IntKind.u64.wrap (chr s 4)) * 256) + IntKind.u64.wrap (chr s 5)) * 256) + IntKind.u64.wrap (chr s 6)) * 256) + IntKind.u64.wrap (chr s 7)) * 256) + IntKind.u64.wrap (chr s 8)) * 256) + IntKind.u64.wrap (chr s 9)), 10, true)
   else bif decide (((slen s) : Int) < 4) then (false, false, false, 0, 0, 0, 0, 0, 0, 0, 0, false)
    else bif decide (128 ≤ IntKind.i64.wrap (chr s 1)) then bif decide (((slen s) : Int) < 8) then (false, false, false, 0, 0, 0, 0, 0, 0, 0, 0, false)
      else bif decide (125 < IntKind.u64.wrap (IntKind.u64.wrap (IntKind.u64.wrap (0 + IntKind.u64.wrap (chr s 2)) * 256) + IntKind.u64.wrap (chr s 3))) then (decide (128 ≤ IntKind.i64.wrap (chr s 0)), decide (128 ≤ IntKind.i64.wrap (chr s 1)), true, (IntKind.i64.wrap ((IntKind.i64.wrap (chr s 0)).tdiv 16)).tmod 8, (IntKind.i64.wrap (chr s 0)).tmod 16, chr s 4, chr s 5, chr s 6, chr s 7, IntKind.u64.wrap (IntKind.u64.wrap (IntKind.u64.wrap (0 + IntKind.u64.wrap (chr s 2)) * 256) + IntKind.u64.wrap (chr s 3)), 8, true)
       else (decide (128 ≤ IntKind.i64.wrap (chr s 0)), decide (128 ≤ IntKind.i64.wrap (chr s 1)), false, (IntKind.i64.wrap ((IntKind.i64.wrap (chr s 0)).tdiv 16)).tmod 8, (IntKind.i64.wrap (chr s 0)).tmod 16, chr s 4, chr s 5, chr s 6, chr s 7, IntKind.u64.wrap (IntKind.u64.wrap (IntKind.u64.wrap (0 + IntKind.u64.wrap (chr s 2)) * 256) + IntKind.u64.wrap (chr s 3)), 8, true)
     else bif decide (125 < IntKind.u64.wrap (IntKind.u64.wrap (IntKind.u64.wrap (0 + IntKind.u64.wrap (chr s 2)) * 256) + IntKind.u64.wrap (chr s 3))) then (decide (128 ≤ IntKind.i64.wrap (chr s 0)), decide (128 ≤ IntKind.i64.wrap (chr s 1)), true, (IntKind.i64.wrap ((IntKind.i64.wrap (chr s 0)).tdiv 16)).tmod 8, (IntKind.i64.wrap (chr s 0)).tmod 16, 0, 0, 0, 0, IntKind.u64.wrap (IntKind.u64.wrap (IntKind.u64.wrap (0 + IntKind.u64.wrap (chr s 2)) * 256) + IntKind.u64.wrap (chr s 3)), 4, true)
      else (decide (128 ≤ IntKind.i64.wrap (chr s 0)), decide (128 ≤ IntKind.i64.wrap (chr s 1)), false, (IntKind.i64.wrap ((IntKind.i64.wrap (chr s 0)).tdiv 16)).tmod 8, (IntKind.i64.wrap (chr s 0)).tmod 16, 0, 0, 0, 0, IntKind.u64.wrap (IntKind.u64.wrap (IntKind.u64.wrap (0 + IntKind.u64.wrap (chr s 2)) * 256) + IntKind.u64.wrap (chr s 3)), 4, true)
  else bif (IntKind.i64.wrap (chr s 1)).tmod 128 == 127 then bif decide (((slen s) : Int) < 10) then (false, false, false, 0, 0, 0, 0, 0, 0, 0, 0, false)
    else bif decide (128 ≤ IntKind.i64.wrap (chr s 1)) then bif decide (((slen s) : Int) < 14) then (false, false, false, 0, 0, 0, 0, 0, 0, 0, 0, false)
      else (decide (128 ≤ IntKind.i64.wrap (chr s 0)), decide (128 ≤ IntKind.i64.wrap (chr s 1)), decide (65535 < IntKind.u64.wrap (IntKind.u64.wrap (IntKind.u64.wrap (IntKind.u64.wrap (IntKind.u64.wrap (IntKind.u64.wrap (IntKind.u64.wrap (IntKind.u64.wrap (IntKind.u64.wrap (IntKind.u64.wrap (IntKind.u64.wrap (IntKind.u64.wrap (IntKind.u64.wrap (IntKind.u64.wrap (IntKind.u64.wrap (0 + IntKind.u64.wrap (chr s 2)) * 256) + IntKind.u64.wrap (chr s 3)) * 256) + IntKind.u64.wrap (chr s 4)) * 256) + IntKind.u64.wrap (chr s 5)) * 256) + IntKind.u64.wrap (chr s 6)) * 256) + IntKind.u64.wrap (chr s 7)) * 256) + IntKind.u64.wrap (chr s 8)) * 256) + IntKind.u64.wrap (chr s 9))), (IntKind.i64.wrap ((IntKind.i64.wrap (chr s 0)).tdiv 16)).tmod 8, (IntKind.i64.wrap (chr s 0)).tmod 16, chr s 10, chr s 11, chr s 12, chr s 13, IntKind.u64.wrap (IntKind.u64.wrap (IntKind.u64.wrap (IntKind.u64.wrap (IntKind.u64.wrap (IntKind.u64.wrap (IntKind.u64.wrap (IntKind.u64.wrap (IntKind.u64.wrap (IntKind.u64.wrap (IntKind.u64.wrap (IntKind.u64.wrap (IntKind.u64.wrap (IntKind.u64.wrap (IntKind.u64.wrap (0 + IntKind.u64.wrap (chr s 2)) * 256) + IntKind.u64.wrap (chr s 3)) * 256) + IntKind.u64.wrap (chr s 4)) * 256) + IntKind.u64.wrap (chr s 5)) * 256) + IntKind.u64.wrap (chr s 6)) * 256) + IntKind.u64.wrap (chr s 7)) * 256) + IntKind.u64.wrap (chr s 8)) * 256) + IntKind.u64.wrap (chr s 9)), 14, true)
     else (decide (128 ≤ IntKind.i64.wrap (chr s 0)), decide (128 ≤ IntKind.i64.wrap (chr s 1)), decide (65535 < IntKind.u64.wrap (IntKind.u64.wrap (IntKind.u64.wrap (IntKind.u64.wrap (IntKind.u64.wrap (IntKind.u64.wrap (IntKind.u64.wrap (IntKind.u64.wrap (IntKind.u64.wrap (IntKind.u64.wrap (IntKind.u64.wrap (IntKind.u64.wrap (IntKind.u64.wrap (IntKind.u64.wrap (IntKind.u64.wrap (0 + IntKind.u64.wrap (chr s 2)) * 256) + IntKind.u64.wrap (chr s 3)) * 256) + IntKind.u64.wrap (chr s 4)) * 256) + IntKind.u64.wrap (chr s 5)) * 256) + IntKind.u64.wrap (chr s 6)) * 256) + IntKind.u64.wrap (chr s 7)) * 256) + IntKind.u64.wrap (chr s 8)) * 256) + IntKind.u64.wrap (chr s 9))), (IntKind.i64.wrap ((IntKind.i64.wrap (chr s 0)).tdiv 16)).tmod 8, (IntKind.i64.wrap (chr s 0)).tmod 16, 0, 0, 0, 0, IntKind.u64.wrap (IntKind.u64.wrap (IntKind.u64.wrap (IntKind.u64.wrap (IntKind.u64.wrap (IntKind.u64.wrap (IntKind.u64.wrap (IntKind.u64.wrap (IntKind.u64.wrap (IntKind.u64.wrap (IntKind.u64.wrap (IntKind.u64.wrap (IntKind.u64.wrap (IntKind.u64.wrap (IntKind.u64.wrap (0 + IntKind.u64.wrap (chr s 2)) * 256) + IntKind.u64.wrap (chr s 3)) * 256) + IntKind.u64.wrap (chr s 4)) * 256) + IntKind.u64.wrap (chr s 5)) * 256) + IntKind.u64.wrap (chr s 6)) * 256) + IntKind.u64.wrap (chr s 7)) * 256) + IntKind.u64.wrap (chr s 8)) * 256) + IntKind.u64.wrap (chr s 9)), 10, true)
   else bif decide (128 ≤ IntKind.i64.wrap (chr s 1)) then bif decide (((slen s) : Int) < 6) then (false, false, false, 0, 0, 0, 0, 0, 0, 0, 0, false)
     else (decide (128 ≤ IntKind.i64.wrap (chr s 0)), decide (128 ≤ IntKind.i64.wrap (chr s 1)), true, (IntKind.i64.wrap ((IntKind.i64.wrap (chr s 0)).tdiv 16)).tmod 8, (IntKind.i64.wrap (chr s 0)).tmod 16, chr s 2, chr s 3, chr s 4, chr s 5, IntKind.u64.wrap ((IntKind.i64.wrap (chr s 1)).tmod 128), 6, true)
    else (decide (128 ≤ IntKind.i64.wrap (chr s 0)), decide (128 ≤ IntKind.i64.wrap (chr s 1)), true, (IntKind.i64.wrap ((IntKind.i64.wrap (chr s 0)).tdiv 16)).tmod 8, (IntKind.i64.wrap (chr s 0)).tmod 16, 0, 0, 0, 0, IntKind.u64.wrap ((IntKind.i64.wrap (chr s 1)).tmod 128), 2, true)
def rhead_S0 (s : ByteArray) : Prop :=
 ((decide (((slen s) : Int) < 2)) = true → True) ∧
 ((decide (((slen s) : Int) < 2)) = false → (((IntKind.i64.wrap (chr s 1)).tmod 128 == 126) = true → (((IntKind.i64.wrap (chr s 1)).tmod 128 == 127) = true → ((decide (((slen s) : Int) < 10)) = true → (1 < ((slen s) : Int)) ∧ (0 < ((slen s) : Int))) ∧
    ((decide (((slen s) : Int) < 10)) = false → ((decide (128 ≤ IntKind.i64.wrap (chr s 1))) = true → ((decide (((slen s) : Int) < 14)) = true → (9 < ((slen s) : Int)) ∧ (8 < ((slen s) : Int)) ∧ (7 < ((slen s) : Int)) ∧ (6 < ((slen s) : Int)) ∧ (5 < ((slen s) : Int)) ∧ (4 < ((slen s) : Int)) ∧ (3 < ((slen s) : Int)) ∧ (2 < ((slen s) : Int)) ∧ (1 < ((slen s) : Int)) ∧ (0 < ((slen s) : Int))) ∧
      ((decide (((slen s) : Int) < 14)) = false → (13 < ((slen s) : Int)) ∧ (12 < ((slen s) : Int)) ∧ (11 < ((slen s) : Int)) ∧ (10 < ((slen s) : Int)) ∧ (9 < ((slen s) : Int)) ∧ (8 < ((slen s) : Int)) ∧ (7 < ((slen s) : Int)) ∧ (6 < ((slen s) : Int)) ∧ (5 < ((slen s) : Int)) ∧ (4 < ((slen s) : Int)) ∧ (3 < ((slen s) : Int)) ∧ (2 < ((slen s) : Int)) ∧ (1 < ((slen s) : Int)) ∧ (0 < ((slen s) : Int)))) ∧
     ((decide (128 ≤ IntKind.i64.wrap (chr s 1))) = false → (9 < ((slen s) : Int)) ∧ (8 < ((slen s) : Int)) ∧ (7 < ((slen s) : Int)) ∧ (6 < ((slen s) : Int)) ∧ (5 < ((slen s) : Int)) ∧ (4 < ((slen s) : Int)) ∧ (3 < ((slen s) : Int)) ∧ (2 < ((slen s) : Int)) ∧ (1 < ((slen s) : Int)) ∧ (0 < ((slen s) : Int))))) ∧
   (((IntKind.i64.wrap (chr s 1)).tmod 128 == 127) = false → ((decide (((slen s) : Int) < 4)) = true → (1 < ((slen s) : Int)) ∧ (0 < ((slen s) : Int))) ∧
    ((decide (((slen s) : Int) < 4)) = false → ((decide (128 ≤ IntKind.i64.wrap (chr s 1))) = true → ((decide (((slen s) : Int) < 8)) = true → (3 < ((slen s) : Int)) ∧ (2 < ((slen s) : Int)) ∧ (1 < ((slen s) : Int)) ∧ (0 < ((slen s) : Int))) ∧
      ((decide (((slen s) : Int) < 8)) = false → ((decide (125 < IntKind.u64.wrap (IntKind.u64.wrap (IntKind.u64.wrap (0 + IntKind.u64.wrap (chr s 2)) * 256) + IntKind.u64.wrap (chr s 3)))) = true → (7 < ((slen s) : Int)) ∧ (6 < ((slen s) : Int)) ∧ (5 < ((slen s) : Int)) ∧ (4 < ((slen s) : Int)) ∧ (3 < ((slen s) : Int)) ∧ (2 < ((slen s) : Int)) ∧ (1 < ((slen s) : Int)) ∧ (0 < ((slen s) : Int))) ∧
       ((decide (125 < IntKind.u64.wrap (IntKind.u64.wrap (IntKind.u64.wrap (0 + IntKind.u64.wrap (chr s 2)) * 256) + IntKind.u64.wrap (chr s 3)))) = false → (7 < ((slen s) : Int)) ∧ (6 < ((slen s) : Int)) ∧ (5 < ((slen s) : Int)) ∧ (4 < ((slen s) : Int)) ∧ (3 < ((slen s) : Int)) ∧ (2 < ((slen s) : Int)) ∧ (1 < ((slen s) : Int)) ∧ (0 < ((slen s) : Int))))) ∧
     ((decide (128 ≤ IntKind.i64.wrap (chr s 1))) = false → ((decide (125 < IntKind.u64.wrap (IntKind.u64.wrap (IntKind.u64.wrap (0 + IntKind.u64.wrap (chr s 2)) * 256) + IntKind.u64.wrap (chr s 3)))) = true → (3 < ((slen s) : Int)) ∧ (2 < ((slen s) : Int)) ∧ (1 < ((slen s) : Int)) ∧ (0 < ((slen s) : Int))) ∧
      ((decide (125 < IntKind.u64.wrap (IntKind.u64.wrap (IntKind.u64.wrap (0 + IntKind.u64.wrap (chr s 2)) * 256) + IntKind.u64.wrap (chr s 3)))) = false → (3 < ((slen s) : Int)) ∧ (2 < ((slen s) : Int)) ∧ (1 < ((slen s) : Int)) ∧ (0 < ((slen s) : Int))))))) ∧
  (((IntKind.i64.wrap (chr s 1)).tmod 128 == 126) = false → (((IntKind.i64.wrap (chr s 1)).tmod 128 == 127) = true → ((decide (((slen s) : Int) < 10)) = true → (1 < ((slen s) : Int)) ∧ (0 < ((slen s) : Int))) ∧
    ((decide (((slen s) : Int) < 10)) = false → ((decide (128 ≤ IntKind.i64.wrap (chr s 1))) = true → ((decide (((slen s) : Int) < 14)) = true → (9 < ((slen s) : Int)) ∧ (8 < ((slen s) : Int)) ∧ (7 < ((slen s) : Int)) ∧ (6 < ((slen s) : Int)) ∧ (5 < ((slen s) : Int)) ∧ (4 < ((slen s) : Int)) ∧ (3 < ((slen s) : Int)) ∧ (2 < ((slen s) : Int)) ∧ (1 < ((slen s) : Int)) ∧ (0 < ((slen s) : Int))) ∧
      ((decide (((slen s) : Int) < 14)) = false → (13 < ((slen s) : Int)) ∧ (12 < ((slen s) : Int)) ∧ (11 < ((slen s) : Int)) ∧ (10 < ((slen s) : Int)) ∧ (9 < ((slen s) : Int)) ∧ (8 < ((slen s) : Int)) ∧ (7 < ((slen s) : Int)) ∧ (6 < ((slen s) : Int)) ∧ (5 < ((slen s) : Int)) ∧ (4 < ((slen s) : Int)) ∧ (3 < ((slen s) : Int)) ∧ (2 < ((slen s) : Int)) ∧ (1 < ((slen s) : Int)) ∧ (0 < ((slen s) : Int)))) ∧
     ((decide (128 ≤ IntKind.i64.wrap (chr s 1))) = false → (9 < ((slen s) : Int)) ∧ (8 < ((slen s) : Int)) ∧ (7 < ((slen s) : Int)) ∧ (6 < ((slen s) : Int)) ∧ (5 < ((slen s) : Int)) ∧ (4 < ((slen s) : Int)) ∧ (3 < ((slen s) : Int)) ∧ (2 < ((slen s) : Int)) ∧ (1 < ((slen s) : Int)) ∧ (0 < ((slen s) : Int))))) ∧
   (((IntKind.i64.wrap (chr s 1)).tmod 128 == 127) = false → ((decide (128 ≤ IntKind.i64.wrap (chr s 1))) = true → ((decide (((slen s) : Int) < 6)) = true → (1 < ((slen s) : Int)) ∧ (0 < ((slen s) : Int))) ∧
     ((decide (((slen s) : Int) < 6)) = false → (5 < ((slen s) : Int)) ∧ (4 < ((slen s) : Int)) ∧ (3 < ((slen s) : Int)) ∧ (2 < ((slen s) : Int)) ∧ (1 < ((slen s) : Int)) ∧ (0 < ((slen s) : Int)))) ∧
    ((decide (128 ≤ IntKind.i64.wrap (chr s 1))) = false → (1 < ((slen s) : Int)) ∧ (0 < ((slen s) : Int))))))
theorem rhead_ok0 (s : ByteArray) (hS : rhead_S0 s) : rhead_Q s (startC E 33 ([.string s]) ([])) (rhead_t0 s) := by
 unfold rhead_S0 at hS
 unfold rhead_t0
 refine cond_intro (P := rhead_Q s (startC E 33 ([.string s]) ([]))) _ (fun h0 => ?_) (fun h0 => ?_)
 ·skip
  exact ends_q noK_ok 2000 27 (bs 1 1) [0] [2, 3, 4] [] (andI (dT h0) rfl)
 ·skip
  refine cond_intro (P := rhead_Q s (startC E 33 ([.string s]) ([]))) _ (fun h1 => ?_) (fun h1 => ?_)
  ·skip
   refine cond_intro (P := rhead_Q s (startC E 33 ([.string s]) ([]))) _ (fun h2 => ?_) (fun h2 => ?_)
   ·skip
    refine cond_intro (P := rhead_Q s (startC E 33 ([.string s]) ([]))) _ (fun h3 => ?_) (fun h3 => ?_)
    ·skip
     have z0 := (((hS.2 h0).1 h1).1 h2).1 h3; exact ends_q noK_ok 2000 78 (bs 4 14) [0] [2, 3, 4] [] (andI (dT h3) (andI (dT h2) (and4 (dT h1) (decide_eq_true z0.1) (decide_eq_true z0.2) (dF h0) rfl)))
    ·skip
     refine cond_intro (P := rhead_Q s (startC E 33 ([.string s]) ([]))) _ (fun h14 => ?_) (fun h14 => ?_)
     ·skip
      refine cond_intro (P := rhead_Q s (startC E 33 ([.string s]) ([]))) _ (fun h15 => ?_) (fun h15 => ?_)
      ·skip
       have z0 := (((((hS.2 h0).1 h1).1 h2).2 h3).1 h14).1 h15; exact ends_q noK_ok 2000 394 (bs 16 57334) [0] [2, 3, 4] [] (and8 (dT h15) (dT h14) (decide_eq_true z0.1) (decide_eq_true z0.2.1) (decide_eq_true z0.2.2.1) (decide_eq_true z0.2.2.2.1) (decide_eq_true z0.2.2.2.2.1) (decide_eq_true z0.2.2.2.2.2.1) (and8 (decide_eq_true z0.2.2.2.2.2.2.1) (decide_eq_true z0.2.2.2.2.2.2.2.1) (dF h3) (dT h2) (dT h1) (decide_eq_true z0.2.2.2.2.2.2.2.2.1) (decide_eq_true z0.2.2.2.2.2.2.2.2.2) (dF h0) rfl))
      ·skip
       have z0 := (((((hS.2 h0).1 h1).1 h2).2 h3).1 h14).2 h15; exact ends_q noK_ok 2000 596 (bs 25 17784822) [0] [2, 3, 4] [] (and8 (decide_eq_true z0.1) (decide_eq_true z0.2.1) (decide_eq_true z0.2.2.1) (decide_eq_true z0.2.2.2.1) (dF h15) (dT h14) (decide_eq_true z0.2.2.2.2.1) (decide_eq_true z0.2.2.2.2.2.1) (and8 (decide_eq_true z0.2.2.2.2.2.2.1) (decide_eq_true z0.2.2.2.2.2.2.2.1) (decide_eq_true z0.2.2.2.2.2.2.2.2.1) (decide_eq_true z0.2.2.2.2.2.2.2.2.2.1) (decide_eq_true z0.2.2.2.2.2.2.2.2.2.2.1) (decide_eq_true z0.2.2.2.2.2.2.2.2.2.2.2.1) (dF h3) (dT h2) (and4 (dT h1) (decide_eq_true z0.2.2.2.2.2.2.2.2.2.2.2.2.1) (decide_eq_true z0.2.2.2.2.2.2.2.2.2.2.2.2.2) (dF h0) rfl)))
     ·skip
      have z0 := ((((hS.2 h0).1 h1).1 h2).2 h3).2 h14; exact ends_q noK_ok 2000 444 (bs 19 270326) [0] [2, 3, 4] [] (and8 (dF h14) (decide_eq_true z0.1) (decide_eq_true z0.2.1) (decide_eq_true z0.2.2.1) (decide_eq_true z0.2.2.2.1) (decide_eq_true z0.2.2.2.2.1) (decide_eq_true z0.2.2.2.2.2.1) (decide_eq_true z0.2.2.2.2.2.2.1) (andI (decide_eq_true z0.2.2.2.2.2.2.2.1) (andI (dF h3) (andI (dT h2) (and4 (dT h1) (decide_eq_true z0.2.2.2.2.2.2.2.2.1) (decide_eq_true z0.2.2.2.2.2.2.2.2.2) (dF h0) rfl)))))
   ·skip
    refine cond_intro (P := rhead_Q s (startC E 33 ([.string s]) ([]))) _ (fun h3 => ?_) (fun h3 => ?_)
    ·skip
     have z0 := (((hS.2 h0).1 h1).2 h2).1 h3; exact ends_q noK_ok 2000 76 (bs 4 10) [0] [2, 3, 4] [] (andI (dT h3) (andI (dF h2) (and4 (dT h1) (decide_eq_true z0.1) (decide_eq_true z0.2) (dF h0) rfl)))
    ·skip
     refine cond_intro (P := rhead_Q s (startC E 33 ([.string s]) ([]))) _ (fun h8 => ?_) (fun h8 => ?_)
     ·skip
      refine cond_intro (P := rhead_Q s (startC E 33 ([.string s]) ([]))) _ (fun h9 => ?_) (fun h9 => ?_)
      ·skip
       have z0 := (((((hS.2 h0).1 h1).2 h2).2 h3).1 h8).1 h9; exact ends_q noK_ok 2000 188 (bs 10 882) [0] [2, 3, 4] [] (and8 (dT h9) (dT h8) (decide_eq_true z0.1) (decide_eq_true z0.2.1) (dF h3) (dF h2) (dT h1) (decide_eq_true z0.2.2.1) (andI (decide_eq_true z0.2.2.2) (andI (dF h0) rfl)))
      ·skip
       refine cond_intro (P := rhead_Q s (startC E 33 ([.string s]) ([]))) _ (fun h17 => ?_) (fun h17 => ?_)
       ·skip
        have z0 := ((((((hS.2 h0).1 h1).2 h2).2 h3).1 h8).2 h9).1 h17; exact ends_q noK_ok 2000 390 (bs 18 212338) [0] [2, 3, 4] [] (and8 (dT h17) (decide_eq_true z0.1) (decide_eq_true z0.2.1) (decide_eq_true z0.2.2.1) (decide_eq_true z0.2.2.2.1) (dF h9) (dT h8) (decide_eq_true z0.2.2.2.2.1) (andI (decide_eq_true z0.2.2.2.2.2.1) (andI (dF h3) (andI (dF h2) (and4 (dT h1) (decide_eq_true z0.2.2.2.2.2.2.1) (decide_eq_true z0.2.2.2.2.2.2.2) (dF h0) rfl)))))
       ·skip
        have z0 := ((((((hS.2 h0).1 h1).2 h2).2 h3).1 h8).2 h9).2 h17; exact ends_q noK_ok 2000 390 (bs 19 81266) [0] [2, 3, 4] [] (and8 (dF h17) (decide_eq_true z0.1) (decide_eq_true z0.2.1) (decide_eq_true z0.2.2.1) (decide_eq_true z0.2.2.2.1) (dF h9) (dT h8) (decide_eq_true z0.2.2.2.2.1) (andI (decide_eq_true z0.2.2.2.2.2.1) (andI (dF h3) (andI (dF h2) (and4 (dT h1) (decide_eq_true z0.2.2.2.2.2.2.1) (decide_eq_true z0.2.2.2.2.2.2.2) (dF h0) rfl)))))
     ·skip
      refine cond_intro (P := rhead_Q s (startC E 33 ([.string s]) ([]))) _ (fun h11 => ?_) (fun h11 => ?_)
      ·skip
       have z0 := (((((hS.2 h0).1 h1).2 h2).2 h3).2 h8).1 h11; exact ends_q noK_ok 2000 238 (bs 12 3186) [0] [2, 3, 4] [] (and8 (dT h11) (dF h8) (decide_eq_true z0.1) (decide_eq_true z0.2.1) (dF h3) (dF h2) (dT h1) (decide_eq_true z0.2.2.1) (andI (decide_eq_true z0.2.2.2) (andI (dF h0) rfl)))
      ·skip
       have z0 := (((((hS.2 h0).1 h1).2 h2).2 h3).2 h8).2 h11; exact ends_q noK_ok 2000 238 (bs 13 1138) [0] [2, 3, 4] [] (and8 (dF h11) (dF h8) (decide_eq_true z0.1) (decide_eq_true z0.2.1) (dF h3) (dF h2) (dT h1) (decide_eq_true z0.2.2.1) (andI (decide_eq_true z0.2.2.2) (andI (dF h0) rfl)))
  ·skip
   refine cond_intro (P := rhead_Q s (startC E 33 ([.string s]) ([]))) _ (fun h2 => ?_) (fun h2 => ?_)
   ·skip
    refine cond_intro (P := rhead_Q s (startC E 33 ([.string s]) ([]))) _ (fun h3 => ?_) (fun h3 => ?_)
    ·skip
     have z0 := (((hS.2 h0).2 h1).1 h2).1 h3; exact ends_q noK_ok 2000 76 (bs 4 12) [0] [2, 3, 4] [] (andI (dT h3) (andI (dT h2) (and4 (dF h1) (decide_eq_true z0.1) (decide_eq_true z0.2) (dF h0) rfl)))
    ·skip
     refine cond_intro (P := rhead_Q s (startC E 33 ([.string s]) ([]))) _ (fun h14 => ?_) (fun h14 => ?_)
     ·skip
      refine cond_intro (P := rhead_Q s (startC E 33 ([.string s]) ([]))) _ (fun h15 => ?_) (fun h15 => ?_)
      ·skip
       have z0 := (((((hS.2 h0).2 h1).1 h2).2 h3).1 h14).1 h15; exact ends_q noK_ok 2000 392 (bs 16 57332) [0] [2, 3, 4] [] (and8 (dT h15) (dT h14) (decide_eq_true z0.1) (decide_eq_true z0.2.1) (decide_eq_true z0.2.2.1) (decide_eq_true z0.2.2.2.1) (decide_eq_true z0.2.2.2.2.1) (decide_eq_true z0.2.2.2.2.2.1) (and8 (decide_eq_true z0.2.2.2.2.2.2.1) (decide_eq_true z0.2.2.2.2.2.2.2.1) (dF h3) (dT h2) (dF h1) (decide_eq_true z0.2.2.2.2.2.2.2.2.1) (decide_eq_true z0.2.2.2.2.2.2.2.2.2) (dF h0) rfl))
      ·skip
       have z0 := (((((hS.2 h0).2 h1).1 h2).2 h3).1 h14).2 h15; exact ends_q noK_ok 2000 594 (bs 25 17784820) [0] [2, 3, 4] [] (and8 (decide_eq_true z0.1) (decide_eq_true z0.2.1) (decide_eq_true z0.2.2.1) (decide_eq_true z0.2.2.2.1) (dF h15) (dT h14) (decide_eq_true z0.2.2.2.2.1) (decide_eq_true z0.2.2.2.2.2.1) (and8 (decide_eq_true z0.2.2.2.2.2.2.1) (decide_eq_true z0.2.2.2.2.2.2.2.1) (decide_eq_true z0.2.2.2.2.2.2.2.2.1) (decide_eq_true z0.2.2.2.2.2.2.2.2.2.1) (decide_eq_true z0.2.2.2.2.2.2.2.2.2.2.1) (decide_eq_true z0.2.2.2.2.2.2.2.2.2.2.2.1) (dF h3) (dT h2) (and4 (dF h1) (decide_eq_true z0.2.2.2.2.2.2.2.2.2.2.2.2.1) (decide_eq_true z0.2.2.2.2.2.2.2.2.2.2.2.2.2) (dF h0) rfl)))
     ·skip
      have z0 := ((((hS.2 h0).2 h1).1 h2).2 h3).2 h14; exact ends_q noK_ok 2000 442 (bs 19 270324) [0] [2, 3, 4] [] (and8 (dF h14) (decide_eq_true z0.1) (decide_eq_true z0.2.1) (decide_eq_true z0.2.2.1) (decide_eq_true z0.2.2.2.1) (decide_eq_true z0.2.2.2.2.1) (decide_eq_true z0.2.2.2.2.2.1) (decide_eq_true z0.2.2.2.2.2.2.1) (andI (decide_eq_true z0.2.2.2.2.2.2.2.1) (andI (dF h3) (andI (dT h2) (and4 (dF h1) (decide_eq_true z0.2.2.2.2.2.2.2.2.1) (decide_eq_true z0.2.2.2.2.2.2.2.2.2) (dF h0) rfl)))))
   ·skip
    refine cond_intro (P := rhead_Q s (startC E 33 ([.string s]) ([]))) _ (fun h6 => ?_) (fun h6 => ?_)
    ·skip
     refine cond_intro (P := rhead_Q s (startC E 33 ([.string s]) ([]))) _ (fun h7 => ?_) (fun h7 => ?_)
     ·skip
      have z0 := ((((hS.2 h0).2 h1).2 h2).1 h6).1 h7; exact ends_q noK_ok 2000 116 (bs 8 192) [0] [2, 3, 4] [] (and8 (dT h7) (dT h6) (dF h0) (dF h2) (dF h1) (decide_eq_true z0.1) (decide_eq_true z0.2) (dF h0) rfl)
     ·skip
      have z0 := ((((hS.2 h0).2 h1).2 h2).1 h6).2 h7; exact ends_q noK_ok 2000 318 (bs 15 28480) [0] [2, 3, 4] [] (and8 (decide_eq_true z0.1) (decide_eq_true z0.2.1) (decide_eq_true z0.2.2.1) (decide_eq_true z0.2.2.2.1) (dF h7) (dT h6) (dF h0) (dF h2) (and4 (dF h1) (decide_eq_true z0.2.2.2.2.1) (decide_eq_true z0.2.2.2.2.2) (dF h0) rfl))
    ·skip
     have z0 := (((hS.2 h0).2 h1).2 h2).2 h6; exact ends_q noK_ok 2000 166 (bs 9 384) [0] [2, 3, 4] [] (andI (dF h6) (andI (dF h0) (andI (dF h2) (and4 (dF h1) (decide_eq_true z0.1) (decide_eq_true z0.2) (dF h0) rfl))))
theorem rhead_call (s : ByteArray) (hS : rhead_S0 s) : CallOk E 33 ([.string s]) ([]) (rhead_V s (rhead_t0 s)) (rhead_H s (rhead_t0 s)) := callOk_of_ends (rhead_ok0 s hS) (by kernel_rfl) (Nat.le_of_ble_eq_true (by kernel_rfl))
end Go.Proofs.Ytfpnjpbdaniomaa

/-
  Heads: the program's and the document's are the same; contracts.
-/
set_option linter.unusedVariables false
set_option linter.unusedSimpArgs false
open Go Go.Am
namespace Go.Proofs.Ytfpnjpbdaniomaa

theorem chr_bd (s : ByteArray) (i : Nat) : 0 ≤ chr s i ∧ chr s i < 256 := by
 unfold chr
 have := ((toL s).getD i 0).toNat_lt
 omega
theorem iandn128 (b : Int) (h0 : 0 ≤ b) (h1 : b < 256) : iandn .u8 b 128 = b % 128 := by
 have : ∀ n : Fin 256, iandn .u8 ((n.val : Nat) : Int) 128 = ((n.val : Nat) : Int) % 128 := by decide +kernel
 have := this ⟨b.toNat, by omega⟩
 simpa [Int.toNat_of_nonneg h0] using this
theorem fand15 (b : Int) (h0 : 0 ≤ b) (h1 : b < 256) : iand .u8 b 15 = b % 16 := by
 have : ∀ n : Fin 256, iand .u8 ((n.val : Nat) : Int) 15 = ((n.val : Nat) : Int) % 16 := by decide +kernel
 have := this ⟨b.toNat, by omega⟩
 simpa [Int.toNat_of_nonneg h0] using this
theorem rsvP (b : Int) (h0 : 0 ≤ b) (h1 : b < 256) : iand .i64 (IntKind.i64.wrap (ishr .u8 b 4)) 7 = b / 16 % 8 := by
 have : ∀ n : Fin 256, iand .i64 (IntKind.i64.wrap (ishr .u8 ((n.val : Nat) : Int) 4)) 7 = ((n.val : Nat) : Int) / 16 % 8 := by decide +kernel
 have := this ⟨b.toNat, by omega⟩
 simpa [Int.toNat_of_nonneg h0] using this
theorem rsvR (b : Int) (h0 : 0 ≤ b) (h1 : b < 256) : (IntKind.i64.wrap (b.tdiv 16)).tmod 8 = b / 16 % 8 := by
 rw [Int.tdiv_eq_ediv_of_nonneg h0, wrap64_in (by omega) (by omega), Int.tmod_eq_emod_of_nonneg (by omega)]
theorem toL_sub (s : ByteArray) (l h : Nat) : toL (sub s l h) = ((toL s).drop l).take (h - l) := by
 simp [sub, toL, ofL]
theorem slen_sub (s : ByteArray) (l h : Nat) : slen (sub s l h) = min (h - l) (slen s - l) := by
 unfold slen
 rw [toL_sub, List.length_take, List.length_drop]
theorem take_ge2 (l : List UInt8) (h : 2 ≤ l.length) : l.take 2 = [l.getD 0 0, l.getD 1 0] := by
 match l, h with
 | a :: b :: r, _ => rfl
theorem take_ge4 (l : List UInt8) (h : 4 ≤ l.length) : l.take 4 = [l.getD 0 0, l.getD 1 0, l.getD 2 0, l.getD 3 0] := by
 match l, h with
 | a :: b :: c :: d :: r, _ => rfl
theorem take_ge8 (l : List UInt8) (h : 8 ≤ l.length) : l.take 8 = [l.getD 0 0, l.getD 1 0, l.getD 2 0, l.getD 3 0, l.getD 4 0, l.getD 5 0, l.getD 6 0, l.getD 7 0] := by
 match l, h with
 | a :: b :: c :: d :: e :: f :: g :: i :: r, _ => rfl
theorem drop_getD (l : List UInt8) (a j : Nat) : (l.drop a).getD j 0 = l.getD (a + j) 0 := by
 simp [List.getD_eq_getElem?_getD, List.getElem?_drop]
noncomputable def big2 (s : ByteArray) : Int := chr s 2 * 256 + chr s 3
noncomputable def big8 (s : ByteArray) : Int := ((((((chr s 2 * 256 + chr s 3) * 256 + chr s 4) * 256 + chr s 5) * 256 + chr s 6) * 256 + chr s 7) * 256 + chr s 8) * 256 + chr s 9
theorem big2_sub (s : ByteArray) (h : 4 ≤ slen s) : bigN 0 (toL (sub s 2 4)) = big2 s := by
 rw [toL_sub, take_ge2 _ (by rw [List.length_drop]; unfold slen at h; omega)]
 simp only [drop_getD, bigN]
 unfold big2 chr
 simp
theorem big8_sub (s : ByteArray) (h : 10 ≤ slen s) : bigN 0 (toL (sub s 2 10)) = big8 s := by
 rw [toL_sub, take_ge8 _ (by rw [List.length_drop]; unfold slen at h; omega)]
 simp only [drop_getD, bigN]
 unfold big8 chr
 simp
theorem big2_bd (s : ByteArray) : 0 ≤ big2 s ∧ big2 s ≤ 65535 := by
 have h1 := chr_bd s 2; have h2 := chr_bd s 3
 unfold big2; omega
theorem big8_bd (s : ByteArray) : 0 ≤ big8 s ∧ big8 s ≤ 18446744073709551615 := by
 have h1 := chr_bd s 2; have h2 := chr_bd s 3; have h3 := chr_bd s 4; have h4 := chr_bd s 5
 have h5 := chr_bd s 6; have h6 := chr_bd s 7; have h7 := chr_bd s 8; have h8 := chr_bd s 9
 unfold big8; omega
theorem key_sub (s : ByteArray) (a : Nat) (h : a + 4 ≤ slen s) : ofBytes (sub s a (a + 4)) = [.int .u8 (chr s a), .int .u8 (chr s (a + 1)), .int .u8 (chr s (a + 2)), .int .u8 (chr s (a + 3))] := by
 unfold ofBytes
 rw [toL_sub, show a + 4 - a = 4 by omega, take_ge4 _ (by rw [List.length_drop]; unfold slen at h; omega)]
 simp only [drop_getD, chr]
 rfl
noncomputable def wd (c : Int) : Int := if c % 128 = 126 then 2 else if c % 128 = 127 then 8 else 0
noncomputable def hLen (s : ByteArray) : Int := if chr s 1 % 128 = 126 then big2 s else if chr s 1 % 128 = 127 then big8 s else chr s 1 % 128
noncomputable def hLeast (s : ByteArray) : Bool := if chr s 1 % 128 = 126 then decide (125 < big2 s) else if chr s 1 % 128 = 127 then decide (65535 < big8 s) else true
noncomputable def hMask (s : ByteArray) : Bool := decide (128 ≤ chr s 1)
noncomputable def hN (s : ByteArray) : Int := 2 + wd (chr s 1) + (if 128 ≤ chr s 1 then 4 else 0)
noncomputable def hOk (s : ByteArray) : Bool := decide (2 ≤ (slen s : Int)) && decide (hN s ≤ slen s)
noncomputable def hKey (s : ByteArray) (j : Nat) : Int := if 128 ≤ chr s 1 then chr s (2 + (wd (chr s 1)).toNat + j) else 0
noncomputable def headT (s : ByteArray) : head_R :=
 bif hOk s then (decide (128 ≤ chr s 0), chr s 0 / 16 % 8, chr s 0 % 16, hMask s, hKey s 0, hKey s 1, hKey s 2, hKey s 3, hLen s, hLeast s, hN s, true) else (false, 0, 0, false, 0, 0, 0, 0, 0, false, 0, false)
noncomputable def rheadT (s : ByteArray) : rhead_R :=
 bif hOk s then (decide (128 ≤ chr s 0), hMask s, hLeast s, chr s 0 / 16 % 8, chr s 0 % 16, hKey s 0, hKey s 1, hKey s 2, hKey s 3, hLen s, hN s, true) else (false, false, false, 0, 0, 0, 0, 0, 0, 0, 0, false)

theorem head_val (s : ByteArray) : head_S0 s ∧ head_t0 s = headT s := by
 have hc0 := chr_bd s 0
 have hc1 := chr_bd s 1
 have b2 := big2_bd s
 have b8 := big8_bd s
 by_cases h2 : (slen s : Int) < 2
 ·have e : hOk s = false := by unfold hOk; rw [decide_eq_false (by omega)]; rfl
  unfold head_S0 head_t0 headT
  rw [decide_eq_true h2, e]
  simp
 have s22 : slen (sub s 2 2) = 0 := by rw [slen_sub]; omega
 have s44 : slen (sub s 4 4) = 0 := by rw [slen_sub]; omega
 have s1010 : slen (sub s 10 10) = 0 := by rw [slen_sub]; omega
 have e1 : IntKind.i64.wrap (iandn IntKind.u8 (chr s 1) 128) = chr s 1 % 128 := by rw [iandn128 _ hc1.1 hc1.2, wrap64_in (by omega) (by omega)]
 have e2 : IntKind.u64.wrap (chr s 1 % 128) = chr s 1 % 128 := wrapU64 (by omega) (by omega)
 have e3 : IntKind.i64.wrap (iand IntKind.u8 (chr s 0) 15) = chr s 0 % 16 := by rw [fand15 _ hc0.1 hc0.2, wrap64_in (by omega) (by omega)]
 unfold head_S0 head_t0 headT hOk hN hKey hLen hLeast hMask wd
 rw [e1, e2, e3, rsvP _ hc0.1 hc0.2, decide_eq_false h2, s22, s44, s1010, decide_eq_true (show 2 ≤ (slen s : Int) by omega)]
 by_cases c1 : chr s 1 % 128 = 126
 ·rw [if_pos c1, if_pos c1, if_pos c1, show ((chr s 1 % 128 == 126) : Bool) = true by simp [c1]]
  by_cases c2 : 128 ≤ chr s 1
  ·rw [if_pos c2, if_pos c2, decide_eq_true c2]
   by_cases c3 : (slen s : Int) < 8
   ·rw [decide_eq_true c3, decide_eq_false (show ¬ (2 + 2 + 4 ≤ (slen s : Int)) by omega)]
    simp; omega
   ·have k := key_sub s 4 (by omega)
    have l : slen (sub s 4 8) = 4 := by rw [slen_sub]; omega
    have p : big_pre (sub s 2 4) := by unfold big_pre; rw [slen_sub]; omega
    rw [decide_eq_false c3, decide_eq_true (show (2 + 2 + 4 ≤ (slen s : Int)) by omega), k, big2_sub s (by omega), l]
    by_cases c4 : big2 s ≤ 125 <;> simp [c4, p, one, isInt, toInt, show (big2 s ≤ 65535) by omega, show 8 ≤ (slen s : Int) by omega, show 8 ≤ slen s by omega, show 4 ≤ slen s by omega, show 1 < slen s by omega, show 0 < slen s by omega] <;> (try omega)
  ·rw [if_neg c2, if_neg c2, decide_eq_false c2]
   by_cases c3 : (slen s : Int) < 4
   ·rw [decide_eq_true c3, decide_eq_false (show ¬ (2 + 2 + 0 ≤ (slen s : Int)) by omega)]
    simp; omega
   ·have p : big_pre (sub s 2 4) := by unfold big_pre; rw [slen_sub]; omega
    rw [decide_eq_false c3, decide_eq_true (show (2 + 2 + 0 ≤ (slen s : Int)) by omega), big2_sub s (by omega)]
    by_cases c4 : big2 s ≤ 125 <;> simp [c4, p, one, isInt, toInt, show (big2 s ≤ 65535) by omega, show 4 ≤ (slen s : Int) by omega, show 4 ≤ slen s by omega, show 1 < slen s by omega, show 0 < slen s by omega] <;> (try omega)
 ·rw [if_neg c1, if_neg c1, if_neg c1, show ((chr s 1 % 128 == 126) : Bool) = false by simp [c1]]
  by_cases d1 : chr s 1 % 128 = 127
  ·rw [if_pos d1, if_pos d1, if_pos d1, show ((chr s 1 % 128 == 127) : Bool) = true by simp [d1]]
   by_cases c2 : 128 ≤ chr s 1
   ·rw [if_pos c2, if_pos c2, decide_eq_true c2]
    by_cases c3 : (slen s : Int) < 14
    ·rw [decide_eq_true c3, decide_eq_false (show ¬ (2 + 8 + 4 ≤ (slen s : Int)) by omega)]
     simp; omega
    ·have k := key_sub s 10 (by omega)
     have l : slen (sub s 10 14) = 4 := by rw [slen_sub]; omega
     have p : big_pre (sub s 2 10) := by unfold big_pre; rw [slen_sub]; omega
     rw [decide_eq_false c3, decide_eq_true (show (2 + 8 + 4 ≤ (slen s : Int)) by omega), k, big8_sub s (by omega), l]
     by_cases c4 : big8 s ≤ 125
     ·simp [c4, p, one, isInt, toInt, show (big8 s ≤ 65535) by omega, show 14 ≤ slen s by omega, show 10 ≤ slen s by omega, show 1 < slen s by omega, show 0 < slen s by omega] <;> (try omega)
     ·by_cases c5 : big8 s ≤ 65535 <;> simp [c4, c5, p, one, isInt, toInt, show 14 ≤ slen s by omega, show 10 ≤ slen s by omega, show 1 < slen s by omega, show 0 < slen s by omega] <;> (try omega)
   ·rw [if_neg c2, if_neg c2, decide_eq_false c2]
    by_cases c3 : (slen s : Int) < 10
    ·rw [decide_eq_true c3, decide_eq_false (show ¬ (2 + 8 + 0 ≤ (slen s : Int)) by omega)]
     simp; omega
    ·have p : big_pre (sub s 2 10) := by unfold big_pre; rw [slen_sub]; omega
     rw [decide_eq_false c3, decide_eq_true (show (2 + 8 + 0 ≤ (slen s : Int)) by omega), big8_sub s (by omega)]
     by_cases c4 : big8 s ≤ 125
     ·simp [c4, p, one, isInt, toInt, show (big8 s ≤ 65535) by omega, show 10 ≤ slen s by omega, show 1 < slen s by omega, show 0 < slen s by omega] <;> (try omega)
     ·by_cases c5 : big8 s ≤ 65535 <;> simp [c4, c5, p, one, isInt, toInt, show 10 ≤ slen s by omega, show 1 < slen s by omega, show 0 < slen s by omega] <;> (try omega)
  ·rw [if_neg d1, if_neg d1, if_neg d1, show ((chr s 1 % 128 == 127) : Bool) = false by simp [d1]]
   by_cases c2 : 128 ≤ chr s 1
   ·rw [if_pos c2, if_pos c2, decide_eq_true c2]
    by_cases c3 : (slen s : Int) < 6
    ·rw [decide_eq_true c3, decide_eq_false (show ¬ (2 + 0 + 4 ≤ (slen s : Int)) by omega)]
     simp; omega
    ·have k := key_sub s 2 (by omega)
     have l : slen (sub s 2 6) = 4 := by rw [slen_sub]; omega
     rw [decide_eq_false c3, decide_eq_true (show (2 + 0 + 4 ≤ (slen s : Int)) by omega), k, l, decide_eq_true (show chr s 1 % 128 ≤ 125 by omega)]
     simp [one, isInt, toInt, show 6 ≤ slen s by omega, show 1 < slen s by omega, show 0 < slen s by omega] <;> (try omega)
   ·rw [if_neg c2, if_neg c2, decide_eq_false c2, decide_eq_true (show (2 + 0 + 0 ≤ (slen s : Int)) by omega), decide_eq_true (show chr s 1 % 128 ≤ 125 by omega)]
    simp [one, isInt, toInt, show 2 ≤ slen s by omega, show 1 < slen s by omega, show 0 < slen s by omega] <;> (try omega)

theorem w2 (t b : Int) (h0 : 0 ≤ t) (h1 : t < 72057594037927936) (b0 : 0 ≤ b) (b1 : b < 256) : IntKind.u64.wrap (IntKind.u64.wrap (t * 256) + b) = t * 256 + b := by
 rw [wrapU64 (x := t * 256) (by omega) (by omega), wrapU64 (by omega) (by omega)]
theorem rhead_val (s : ByteArray) : rhead_S0 s ∧ rhead_t0 s = rheadT s := by
 have hc0 := chr_bd s 0
 have hc1 := chr_bd s 1
 have hc2 := chr_bd s 2; have hc3 := chr_bd s 3; have hc4 := chr_bd s 4; have hc5 := chr_bd s 5
 have hc6 := chr_bd s 6; have hc7 := chr_bd s 7; have hc8 := chr_bd s 8; have hc9 := chr_bd s 9
 by_cases h2 : (slen s : Int) < 2
 ·have e : hOk s = false := by unfold hOk; rw [decide_eq_false (by omega)]; rfl
  unfold rhead_S0 rhead_t0 rheadT
  rw [decide_eq_true h2, e]
  simp
 have u (i : Nat) : IntKind.u64.wrap (chr s i) = chr s i := by have := chr_bd s i; exact wrapU64 (by omega) (by omega)
 have e1 : (chr s 1).tmod 128 = chr s 1 % 128 := Int.tmod_eq_emod_of_nonneg hc1.1
 have e2 : IntKind.u64.wrap (chr s 1 % 128) = chr s 1 % 128 := wrapU64 (by omega) (by omega)
 have e3 : (chr s 0).tmod 16 = chr s 0 % 16 := Int.tmod_eq_emod_of_nonneg hc0.1
 have e4 : IntKind.i64.wrap (chr s 0) = chr s 0 := wrap64_in (by omega) (by omega)
 have e5 : IntKind.i64.wrap (chr s 1) = chr s 1 := wrap64_in (by omega) (by omega)
 have e6 : IntKind.u64.wrap (0 + chr s 2) = chr s 2 := by rw [Int.zero_add]; exact u 2
 have b2 : IntKind.u64.wrap (IntKind.u64.wrap (chr s 2 * 256) + chr s 3) = big2 s := w2 _ _ (by omega) (by omega) (by omega) (by omega)
 have b8 : IntKind.u64.wrap (IntKind.u64.wrap (IntKind.u64.wrap (IntKind.u64.wrap (IntKind.u64.wrap (IntKind.u64.wrap (IntKind.u64.wrap (IntKind.u64.wrap (IntKind.u64.wrap (IntKind.u64.wrap (IntKind.u64.wrap (IntKind.u64.wrap (big2 s * 256) + chr s 4) * 256) + chr s 5) * 256) + chr s 6) * 256) + chr s 7) * 256) + chr s 8) * 256) + chr s 9) = big8 s := by
  unfold big8 big2
  generalize hx3 : chr s 2 * 256 + chr s 3 = x3
  rw [w2 x3 (chr s 4) (by omega) (by omega) (by omega) (by omega)]
  generalize hx4 : x3 * 256 + chr s 4 = x4
  rw [w2 x4 (chr s 5) (by omega) (by omega) (by omega) (by omega)]
  generalize hx5 : x4 * 256 + chr s 5 = x5
  rw [w2 x5 (chr s 6) (by omega) (by omega) (by omega) (by omega)]
  generalize hx6 : x5 * 256 + chr s 6 = x6
  rw [w2 x6 (chr s 7) (by omega) (by omega) (by omega) (by omega)]
  generalize hx7 : x6 * 256 + chr s 7 = x7
  rw [w2 x7 (chr s 8) (by omega) (by omega) (by omega) (by omega)]
  generalize hx8 : x7 * 256 + chr s 8 = x8
  rw [w2 x8 (chr s 9) (by omega) (by omega) (by omega) (by omega)]
 unfold rhead_S0 rhead_t0 rheadT hOk hN hKey hLen hLeast hMask wd
 simp only [u, e1, e2, e3, e6, rsvR _ hc0.1 hc0.2, e4, e5, b2, b8, decide_eq_false h2, decide_eq_true (show 2 ≤ (slen s : Int) by omega)]
 by_cases c1 : chr s 1 % 128 = 126
 ·rw [if_pos c1, if_pos c1, if_pos c1, show ((chr s 1 % 128 == 126) : Bool) = true by simp [c1], show ((chr s 1 % 128 == 127) : Bool) = false by simp [c1]]
  by_cases c2 : 128 ≤ chr s 1
  ·rw [if_pos c2, if_pos c2, decide_eq_true c2]
   by_cases c3 : (slen s : Int) < 4
   ·rw [decide_eq_true c3, decide_eq_false (show ¬ (2 + 2 + 4 ≤ (slen s : Int)) by omega)]
    simp; omega
   rw [decide_eq_false c3]
   by_cases c4 : (slen s : Int) < 8
   ·rw [decide_eq_true c4, decide_eq_false (show ¬ (2 + 2 + 4 ≤ (slen s : Int)) by omega)]
    simp; omega
   rw [decide_eq_false c4, decide_eq_true (show (2 + 2 + 4 ≤ (slen s : Int)) by omega)]
   by_cases c5 : 125 < big2 s <;> simp [c5] <;> omega
  ·rw [if_neg c2, if_neg c2, decide_eq_false c2]
   by_cases c3 : (slen s : Int) < 4
   ·rw [decide_eq_true c3, decide_eq_false (show ¬ (2 + 2 + 0 ≤ (slen s : Int)) by omega)]
    simp; omega
   rw [decide_eq_false c3, decide_eq_true (show (2 + 2 + 0 ≤ (slen s : Int)) by omega)]
   by_cases c5 : 125 < big2 s <;> simp [c5] <;> omega
 ·rw [if_neg c1, if_neg c1, if_neg c1, show ((chr s 1 % 128 == 126) : Bool) = false by simp [c1]]
  by_cases d1 : chr s 1 % 128 = 127
  ·rw [if_pos d1, if_pos d1, if_pos d1, show ((chr s 1 % 128 == 127) : Bool) = true by simp [d1]]
   by_cases c2 : 128 ≤ chr s 1
   ·rw [if_pos c2, if_pos c2, decide_eq_true c2]
    by_cases c3 : (slen s : Int) < 10
    ·rw [decide_eq_true c3, decide_eq_false (show ¬ (2 + 8 + 4 ≤ (slen s : Int)) by omega)]
     simp; omega
    rw [decide_eq_false c3]
    by_cases c4 : (slen s : Int) < 14
    ·rw [decide_eq_true c4, decide_eq_false (show ¬ (2 + 8 + 4 ≤ (slen s : Int)) by omega)]
     simp; omega
    rw [decide_eq_false c4, decide_eq_true (show (2 + 8 + 4 ≤ (slen s : Int)) by omega)]
    simp; omega
   ·rw [if_neg c2, if_neg c2, decide_eq_false c2]
    by_cases c3 : (slen s : Int) < 10
    ·rw [decide_eq_true c3, decide_eq_false (show ¬ (2 + 8 + 0 ≤ (slen s : Int)) by omega)]
     simp; omega
    rw [decide_eq_false c3, decide_eq_true (show (2 + 8 + 0 ≤ (slen s : Int)) by omega)]
    simp; omega
  ·rw [if_neg d1, if_neg d1, if_neg d1, show ((chr s 1 % 128 == 127) : Bool) = false by simp [d1]]
   by_cases c2 : 128 ≤ chr s 1
   ·rw [if_pos c2, if_pos c2, decide_eq_true c2]
    by_cases c3 : (slen s : Int) < 6
    ·rw [decide_eq_true c3, decide_eq_false (show ¬ (2 + 0 + 4 ≤ (slen s : Int)) by omega)]
     simp; omega
    rw [decide_eq_false c3, decide_eq_true (show (2 + 0 + 4 ≤ (slen s : Int)) by omega)]
    simp; omega
   ·rw [if_neg c2, if_neg c2, decide_eq_false c2, decide_eq_true (show (2 + 0 + 0 ≤ (slen s : Int)) by omega)]
    simp; omega

def headc_pre (s : ByteArray) : Prop := True
noncomputable def headc_v (s : ByteArray) : Value := head_V s (headT s)
noncomputable def headc_h (s : ByteArray) : Heap := []
theorem headc_call (s : ByteArray) (h : headc_pre s) : CallOk E 73 [.string s] [] (headc_v s) (headc_h s) := by
 have := head_call s (head_val s).1
 unfold headc_v headc_h
 rw [← (head_val s).2]
 exact this

def headc_ex (a : List Value) (h : Heap) : ByteArray := (toStr (a.getD 0 undef))
noncomputable def headc_k : Ct := kS headc_ex [.str] [] (fun x => headc_pre x) (fun x => headc_v x) (fun x => headc_h x)
theorem headc_k_ok : KFor E 73 headc_k := kS_ok (fun x hx => headc_call x hx) (fun _ _ => rfl) (fun _ _ => rfl)


def rheadc_pre (s : ByteArray) : Prop := True
noncomputable def rheadc_v (s : ByteArray) : Value := rhead_V s (rheadT s)
noncomputable def rheadc_h (s : ByteArray) : Heap := []
theorem rheadc_call (s : ByteArray) (h : rheadc_pre s) : CallOk E 33 [.string s] [] (rheadc_v s) (rheadc_h s) := by
 have := rhead_call s (rhead_val s).1
 unfold rheadc_v rheadc_h
 rw [← (rhead_val s).2]
 exact this

def rheadc_ex (a : List Value) (h : Heap) : ByteArray := (toStr (a.getD 0 undef))
noncomputable def rheadc_k : Ct := kS rheadc_ex [.str] [] (fun x => rheadc_pre x) (fun x => rheadc_v x) (fun x => rheadc_h x)
theorem rheadc_k_ok : KFor E 33 rheadc_k := kS_ok (fun x hx => rheadc_call x hx) (fun _ _ => rfl) (fun _ _ => rfl)


end Go.Proofs.Ytfpnjpbdaniomaa
