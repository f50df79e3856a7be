/-
  Masks, numbers, as plain functions.
-/
import Derived.Test.YtfmcohbagbafmaaAmSlim
import Derived.Test.YtfmcohbagbafmaaEnv
import Derived.Test.YtfmcohbagbafmaaAmDt
set_option linter.unusedVariables false
set_option linter.unusedSimpArgs false
open Go Go.Am
namespace Go.Proofs.Ytfmcohbagbafmaa

noncomputable def big_b1 (s : ByteArray) : Cfg := cfgOf (goNil E noK 2000 13 (some []) [] [] [] [0, 2, 5, 6] [] [] [] (startC E 33 ([.string s]) ([])))
noncomputable def big_h1 (s : ByteArray) (t2 t6 : Int) : Cfg := wTmp 6 (.int .i64 t6) (wTmp 2 (.int .u64 t2) (big_b1 s))
abbrev big_R : Type := (Int × Int) ⊕ (Int)
def big_V (s : ByteArray) (r : Int) : Value := .int .u64 r
def big_H (s : ByteArray) (r : Int) : Heap := []
noncomputable def big_Q (s : ByteArray) (C : Cfg) (r : big_R) : Prop :=
 match r with
 | .inl (p) => Gets E 0 C (big_h1 s (p.1) (p.2))
 | .inr (p) => AEnds E 33 0 C (big_V s p) (big_H s p)
theorem big_go1 {s : ByteArray} {C : Cfg} {t2 : Int} {t6 : Int} (h : big_Q s C (.inl ((t2, t6)))) : Gets E 0 C (big_h1 s t2 t6) := h
theorem big_end {s : ByteArray} {C : Cfg} {r : Int} (h : big_Q s C (.inr (r))) : AEnds E 33 0 C (big_V s r) (big_H s r) := h
def big_t0 (s : ByteArray) : big_R :=
 .inl ((0, 0))
def big_S0 (s : ByteArray) : Prop :=
 True
theorem big_ok0 (s : ByteArray) (hS : big_S0 s) : big_Q s (startC E 33 ([.string s]) ([])) (big_t0 s) := by
 unfold big_S0 at hS
 unfold big_t0
 show Gets E 0 _ (big_h1 s (0) (0))
 exact reach_q noK_ok 2000 13 (some []) [] [] [] [0, 2, 5, 6] [] [] [] (rfl)
def big_t1 (s : ByteArray) (t2 t6 : Int) : big_R :=
 bif decide (t6 < ((slen s) : Int)) then .inl ((ior IntKind.u64 (ishl IntKind.u64 t2 8) (IntKind.u64.wrap (chr s t6.toNat)), IntKind.i64.wrap (t6 + 1)))
 else .inr (t2)
def big_S1 (s : ByteArray) (t2 t6 : Int) : Prop :=
 ((decide (t6 < ((slen s) : Int))) = true → (0 ≤ t6) ∧ (t6 < ((slen s) : Int))) ∧
 ((decide (t6 < ((slen s) : Int))) = false → True)
theorem big_ok1 (s : ByteArray) (t2 t6 : Int) (hS : big_S1 s t2 t6) : big_Q s (big_h1 s t2 t6) (big_t1 s t2 t6) := by
 unfold big_S1 at hS
 unfold big_t1
 refine cond_intro (P := big_Q s (big_h1 s t2 t6)) _ (fun h0 => ?_) (fun h0 => ?_)
 ·skip
  show Gets E 0 _ (big_h1 s (ior IntKind.u64 (ishl IntKind.u64 t2 8) (IntKind.u64.wrap (chr s t6.toNat))) (IntKind.i64.wrap (t6 + 1)))
  exact reach_q noK_ok 2000 30 (bs 1 1) [] [] [] [0, 2, 5, 6] [] [] [] (andI (decide_eq_true (hS.1 h0).1) (andI (decide_eq_true (hS.1 h0).2) (andI (dT h0) rfl)))
 ·skip
  exact ends_q noK_ok 2000 12 (bs 1 0) [] [2] [] (andI (dF h0) rfl)


noncomputable def mask_b1 (k0 k1 : Int) (k2 k3 at' : Int) (s : ByteArray) : Cfg := cfgOf (goNil E noK 2000 28 (bs 1 0) [] [] [0, 1] [1, 3, 7, 15, 16] [] [] [] (startC E 27 ([.agg #[.int .u8 k0, .int .u8 k1, .int .u8 k2, .int .u8 k3], .int .i64 at', .string s]) ([])))
noncomputable def mask_h1 (k0 k1 : Int) (k2 k3 at' : Int) (s : ByteArray) (t16 : Int) (l1 : List Value) : Cfg := wCells 1 l1 (wTmp 16 (.int .i64 t16) (mask_b1 k0 k1 k2 k3 at' s))
abbrev mask_R : Type := (Int × List Value) ⊕ (ByteArray)
def mask_V (k0 k1 : Int) (k2 k3 at' : Int) (s r : ByteArray) : Value := .string r
def mask_H (k0 k1 : Int) (k2 k3 at' : Int) (s r : ByteArray) : Heap := []
noncomputable def mask_Q (k0 k1 : Int) (k2 k3 at' : Int) (s : ByteArray) (C : Cfg) (r : mask_R) : Prop :=
 match r with
 | .inl (p) => Gets E 0 C (mask_h1 k0 k1 k2 k3 at' s (p.1) (p.2))
 | .inr (p) => AEnds E 27 0 C (mask_V k0 k1 k2 k3 at' s p) (mask_H k0 k1 k2 k3 at' s p)
theorem mask_go1 {k0 : Int} {k1 : Int} {k2 : Int} {k3 : Int} {at' : Int} {s : ByteArray} {C : Cfg} {t16 : Int} {l1 : List Value} (h : mask_Q k0 k1 k2 k3 at' s C (.inl ((t16, l1)))) : Gets E 0 C (mask_h1 k0 k1 k2 k3 at' s t16 l1) := h
theorem mask_end {k0 : Int} {k1 : Int} {k2 : Int} {k3 : Int} {at' : Int} {s : ByteArray} {C : Cfg} {r : ByteArray} (h : mask_Q k0 k1 k2 k3 at' s C (.inr (r))) : AEnds E 27 0 C (mask_V k0 k1 k2 k3 at' s r) (mask_H k0 k1 k2 k3 at' s r) := h
def mask_t0 (k0 k1 : Int) (k2 k3 at' : Int) (s : ByteArray) : mask_R :=
 bif decide (at' < 0) then .inr (s)
 else .inl ((0, ofBytes s))
def mask_S0 (k0 k1 : Int) (k2 k3 at' : Int) (s : ByteArray) : Prop :=
 ((decide (at' < 0)) = true → True) ∧
 ((decide (at' < 0)) = false → (((ofBytes s).all flat) = true) ∧ (slen s ≤ 9223372036854775807))
theorem mask_ok0 (k0 k1 : Int) (k2 k3 at' : Int) (s : ByteArray) (hS : mask_S0 k0 k1 k2 k3 at' s) : mask_Q k0 k1 k2 k3 at' s (startC E 27 ([.agg #[.int .u8 k0, .int .u8 k1, .int .u8 k2, .int .u8 k3], .int .i64 at', .string s]) ([])) (mask_t0 k0 k1 k2 k3 at' s) := by
 unfold mask_S0 at hS
 unfold mask_t0
 refine cond_intro (P := mask_Q k0 k1 k2 k3 at' s (startC E 27 ([.agg #[.int .u8 k0, .int .u8 k1, .int .u8 k2, .int .u8 k3], .int .i64 at', .string s]) ([]))) _ (fun h0 => ?_) (fun h0 => ?_)
 ·skip
  exact ends_q noK_ok 2000 17 (bs 1 1) [] [6] [] (andI (dT h0) rfl)
 ·skip
  show Gets E 0 _ (mask_h1 k0 k1 k2 k3 at' s (0) (ofBytes s))
  exact reach_q noK_ok 2000 28 (bs 1 0) [] [] [0, 1] [1, 3, 7, 15, 16] [] [] [] (andI ((hS.2 h0).1) (andI (decide_eq_true (hS.2 h0).2) (andI (dF h0) rfl)))
def mask_t1 (k0 k1 : Int) (k2 k3 at' : Int) (s : ByteArray) (t16 : Int) (l1 : List Value) : mask_R :=
 bif decide (t16 < ((slen s) : Int)) then .inl ((IntKind.i64.wrap (t16 + 1), setN l1 (0 + t16.toNat * 1) [.int .u8 (ixor IntKind.u8 (toInt (l1.getD (0 + t16.toNat * 1) undef)) (toInt ([.int .u8 k0, .int .u8 k1, .int .u8 k2, .int .u8 k3].getD (0 + ((IntKind.i64.wrap (at'.tmod 4 + t16)).tmod 4).toNat * 1) undef)))]))
 else .inr (bytesOf (List.take (slen s * 1) (List.drop 0 l1)))
def mask_S1 (k0 k1 : Int) (k2 k3 at' : Int) (s : ByteArray) (t16 : Int) (l1 : List Value) : Prop :=
 ((decide (t16 < ((slen s) : Int))) = true → (((setN l1 (0 + t16.toNat * 1) [.int .u8 (ixor IntKind.u8 (toInt (l1.getD (0 + t16.toNat * 1) undef)) (toInt ([.int .u8 k0, .int .u8 k1, .int .u8 k2, .int .u8 k3].getD (0 + ((IntKind.i64.wrap (at'.tmod 4 + t16)).tmod 4).toNat * 1) undef)))]).all flat) = true) ∧ (0 + t16.toNat * 1 + 1 ≤ l1.length) ∧ (0 ≤ t16) ∧ (t16 < ((slen s) : Int)) ∧ (0 + ((IntKind.i64.wrap (at'.tmod 4 + t16)).tmod 4).toNat * 1 < 4) ∧ ((isInt .u8 ([.int .u8 k0, .int .u8 k1, .int .u8 k2, .int .u8 k3].getD (0 + ((IntKind.i64.wrap (at'.tmod 4 + t16)).tmod 4).toNat * 1) undef)) = true) ∧ (0 ≤ (IntKind.i64.wrap (at'.tmod 4 + t16)).tmod 4) ∧ ((IntKind.i64.wrap (at'.tmod 4 + t16)).tmod 4 < 4) ∧ (0 + t16.toNat * 1 < l1.length) ∧ ((isInt .u8 (l1.getD (0 + t16.toNat * 1) undef)) = true)) ∧
 ((decide (t16 < ((slen s) : Int))) = false → (((List.take (slen s * 1) (List.drop 0 l1)).all (isInt .u8)) = true) ∧ (0 + slen s * 1 ≤ l1.length))
theorem mask_ok1 (k0 k1 : Int) (k2 k3 at' : Int) (s : ByteArray) (t16 : Int) (l1 : List Value) (hS : mask_S1 k0 k1 k2 k3 at' s t16 l1) : mask_Q k0 k1 k2 k3 at' s (mask_h1 k0 k1 k2 k3 at' s t16 l1) (mask_t1 k0 k1 k2 k3 at' s t16 l1) := by
 unfold mask_S1 at hS
 unfold mask_t1
 refine cond_intro (P := mask_Q k0 k1 k2 k3 at' s (mask_h1 k0 k1 k2 k3 at' s t16 l1)) _ (fun h0 => ?_) (fun h0 => ?_)
 ·skip
  show Gets E 0 _ (mask_h1 k0 k1 k2 k3 at' s (IntKind.i64.wrap (t16 + 1)) (setN l1 (0 + t16.toNat * 1) [.int .u8 (ixor IntKind.u8 (toInt (l1.getD (0 + t16.toNat * 1) undef)) (toInt ([.int .u8 k0, .int .u8 k1, .int .u8 k2, .int .u8 k3].getD (0 + ((IntKind.i64.wrap (at'.tmod 4 + t16)).tmod 4).toNat * 1) undef)))]))
  exact reach_q noK_ok 2000 21 (bs 1 1) [] [] [0, 1] [1, 3, 7, 15, 16] [] [] [] (and8 ((hS.1 h0).1) (decide_eq_true (hS.1 h0).2.1) (decide_eq_true (hS.1 h0).2.2.1) (decide_eq_true (hS.1 h0).2.2.2.1) (decide_eq_true (hS.1 h0).2.2.2.2.1) ((hS.1 h0).2.2.2.2.2.1) (decide_eq_true (hS.1 h0).2.2.2.2.2.2.1) (decide_eq_true (hS.1 h0).2.2.2.2.2.2.2.1) (andI (decide_eq_true (hS.1 h0).2.2.2.2.2.2.2.2.1) (and4 ((hS.1 h0).2.2.2.2.2.2.2.2.2) (decide_eq_true (hS.1 h0).2.2.1) (decide_eq_true (hS.1 h0).2.2.2.1) (dT h0) rfl)))
 ·skip
  exact ends_q noK_ok 2000 13 (bs 1 0) [] [6] [] (andI ((hS.2 h0).1) (andI (decide_eq_true (hS.2 h0).2) (andI (dF h0) rfl)))


end Go.Proofs.Ytfmcohbagbafmaa
