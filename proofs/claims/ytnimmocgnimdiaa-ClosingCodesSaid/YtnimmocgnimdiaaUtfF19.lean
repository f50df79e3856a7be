/-
  The document's own answer: how many bytes may be; the characters.
-/
import Derived.Test.YtnimmocgnimdiaaUtfG19
set_option linter.unusedVariables false
open Go Go.Am
namespace Go.Proofs.Ytnimmocgnimdiaa
noncomputable def KF : Ctr := ctrOf E [(34, anyA, one_k)]
theorem KF_ok : KOk E KF := ctr_cons one_k_ok ctr_nil

noncomputable def reads_b1 (s : ByteArray) : Cfg := cfgOf (goNil E KF 2000 9 (some []) [] [] [] [0, 2] [] [] [] (startC E 26 ([Value.string s]) ([])))
noncomputable def reads_h1 (s : ByteArray) (t2 : Int) : Cfg := wTmp 2 (Value.int IntKind.i64 t2) (reads_b1 s)
abbrev reads_R : Type := (Int) ⊕ (Int × Bool × Bool)
def reads_V (s : ByteArray) (r : Int × Bool × Bool) : Value := Value.tuple #[Value.int IntKind.i64 r.1, Value.bool r.2.1, Value.bool r.2.2]
def reads_H (s : ByteArray) (r : Int × Bool × Bool) : Heap := []
noncomputable def reads_Q (s : ByteArray) (C : Cfg) (r : reads_R) : Prop :=
  match r with
  | .inl (p) => Gets E 0 C (reads_h1 s p)
  | .inr (p) => AEnds E 26 0 C (reads_V s p) (reads_H s p)
theorem reads_go1 {s : ByteArray} {C : Cfg} {t2 : Int} (h : reads_Q s C (.inl (t2))) : Gets E 0 C (reads_h1 s t2) := h
theorem reads_end {s : ByteArray} {C : Cfg} {r : Int × Bool × Bool} (h : reads_Q s C (.inr (r))) : AEnds E 26 0 C (reads_V s r) (reads_H s r) := h
theorem reads_p0_0 (s : ByteArray) : goNilB E KF 2000 9 (some []) [] [] [] [0, 2] [] [] [] (startC E 26 ([Value.string s]) ([])) = some (true, reads_h1 s (0)) := by kernel_rfl
def reads_t0 (s : ByteArray) : reads_R :=
  .inl (0)
def reads_S0 (s : ByteArray) : Prop :=
  True
theorem reads_ok0 (s : ByteArray) (hS : reads_S0 s) : reads_Q s (startC E 26 ([Value.string s]) ([])) (reads_t0 s) := by
  unfold reads_S0 at hS
  unfold reads_t0
  show Gets E 0 _ (reads_h1 s (0))
  exact reach_gb KF_ok (reads_p0_0 s) (rfl) (Nat.le_of_ble_eq_true (by kernel_rfl)) (fun i hi => absurd hi (Nat.not_lt_zero _)) (fun i hi => absurd hi (Nat.not_lt_zero _)) (Nat.le_of_ble_eq_true (by kernel_rfl))
theorem reads_p1_0 (s : ByteArray) (t2 : Int) : goFinB E KF 2000 33 (some [true, true]) [] [2, 3, 4] [] (reads_h1 s t2) = some (and ((oneV (List.drop t2.toNat (toL s)) == 0) == true) (and (eqA [Value.string s, Value.int IntKind.i64 t2] [Value.string s, Value.int IntKind.i64 t2]) (and (eqH [] []) (and (pdec (one_pre s t2)) (and ((decide (t2 < (↑(slen s) : Int))) == true) (true))))), Value.tuple #[Value.int IntKind.i64 (↑(slen s) : Int), Value.bool false, Value.bool false], []) := by kernel_rfl
theorem reads_p1_1 (s : ByteArray) (t2 : Int) : goFinB E KF 2000 17 (some [false]) [] [2, 3, 4] [] (reads_h1 s t2) = some (and ((decide (t2 < (↑(slen s) : Int))) == false) (true), Value.tuple #[Value.int IntKind.i64 t2, Value.bool false, Value.bool true], []) := by kernel_rfl
theorem reads_p1_2 (s : ByteArray) (t2 : Int) : goFinB E KF 2000 43 (some [true, false, true]) [] [2, 3, 4] [] (reads_h1 s t2) = some (and ((decide (oneV (List.drop t2.toNat (toL s)) < 0)) == true) (and ((oneV (List.drop t2.toNat (toL s)) == 0) == false) (and (eqA [Value.string s, Value.int IntKind.i64 t2] [Value.string s, Value.int IntKind.i64 t2]) (and (eqH [] []) (and (pdec (one_pre s t2)) (and ((decide (t2 < (↑(slen s) : Int))) == true) (true)))))), Value.tuple #[Value.int IntKind.i64 (IntKind.i64.wrap (IntKind.i64.wrap (t2 - 1) - oneV (List.drop t2.toNat (toL s)))), Value.bool true, Value.bool false], []) := by kernel_rfl
theorem reads_p1_3 (s : ByteArray) (t2 : Int) : goNilB E KF 2000 42 (some [true, false, false]) [] [] [] [0, 2] [] [] [] (reads_h1 s t2) = some (and ((decide (oneV (List.drop t2.toNat (toL s)) < 0)) == false) (and ((oneV (List.drop t2.toNat (toL s)) == 0) == false) (and (eqA [Value.string s, Value.int IntKind.i64 t2] [Value.string s, Value.int IntKind.i64 t2]) (and (eqH [] []) (and (pdec (one_pre s t2)) (and ((decide (t2 < (↑(slen s) : Int))) == true) (true)))))), reads_h1 s (IntKind.i64.wrap (t2 + oneV (List.drop t2.toNat (toL s))))) := by kernel_rfl
def reads_t1 (s : ByteArray) (t2 : Int) : reads_R :=
  bif decide (t2 < (↑(slen s) : Int)) then bif oneV (List.drop t2.toNat (toL s)) == 0 then .inr ((↑(slen s) : Int), false, false)
    else bif decide (oneV (List.drop t2.toNat (toL s)) < 0) then .inr (IntKind.i64.wrap (IntKind.i64.wrap (t2 - 1) - oneV (List.drop t2.toNat (toL s))), true, false)
      else .inl (IntKind.i64.wrap (t2 + oneV (List.drop t2.toNat (toL s))))
  else .inr (t2, false, true)
def reads_S1 (s : ByteArray) (t2 : Int) : Prop :=
  ((decide (t2 < (↑(slen s) : Int))) = true → ((oneV (List.drop t2.toNat (toL s)) == 0) = true → one_pre s t2) ∧
    ((oneV (List.drop t2.toNat (toL s)) == 0) = false → ((decide (oneV (List.drop t2.toNat (toL s)) < 0)) = true → one_pre s t2) ∧
      ((decide (oneV (List.drop t2.toNat (toL s)) < 0)) = false → one_pre s t2))) ∧
  ((decide (t2 < (↑(slen s) : Int))) = false → True)
theorem reads_ok1 (s : ByteArray) (t2 : Int) (hS : reads_S1 s t2) : reads_Q s (reads_h1 s t2) (reads_t1 s t2) := by
  unfold reads_S1 at hS
  unfold reads_t1
  refine cond_intro (P := reads_Q s (reads_h1 s t2)) _ (fun h0 => ?_) (fun h0 => ?_)
  · skip
    refine cond_intro (P := reads_Q s (reads_h1 s t2)) _ (fun h1 => ?_) (fun h1 => ?_)
    · skip
      exact ends_ofB KF_ok (reads_p1_0 s t2) (andI (dT h1) (andI (eqA_self _) (andI (eqH_self _) (andI (pdec_iff.2 ((hS.1 h0).1 h1)) (andI (dT h0) (rfl)))))) (by kernel_rfl) (Nat.le_of_ble_eq_true (by kernel_rfl)) (fun i hi => absurd hi (Nat.not_lt_zero _)) (fun i hi => absurd hi (Nat.not_lt_zero _))
    · skip
      refine cond_intro (P := reads_Q s (reads_h1 s t2)) _ (fun h2 => ?_) (fun h2 => ?_)
      · skip
        exact ends_ofB KF_ok (reads_p1_2 s t2) (andI (dT h2) (andI (dF h1) (andI (eqA_self _) (andI (eqH_self _) (andI (pdec_iff.2 (((hS.1 h0).2 h1).1 h2)) (andI (dT h0) (rfl))))))) (by kernel_rfl) (Nat.le_of_ble_eq_true (by kernel_rfl)) (fun i hi => absurd hi (Nat.not_lt_zero _)) (fun i hi => absurd hi (Nat.not_lt_zero _))
      · skip
        show Gets E 0 _ (reads_h1 s (IntKind.i64.wrap (t2 + oneV (List.drop t2.toNat (toL s)))))
        exact reach_gb KF_ok (reads_p1_3 s t2) (andI (dF h2) (andI (dF h1) (andI (eqA_self _) (andI (eqH_self _) (andI (pdec_iff.2 (((hS.1 h0).2 h1).2 h2)) (andI (dT h0) (rfl))))))) (Nat.le_of_ble_eq_true (by kernel_rfl)) (fun i hi => absurd hi (Nat.not_lt_zero _)) (fun i hi => absurd hi (Nat.not_lt_zero _)) (Nat.le_of_ble_eq_true (by kernel_rfl))
  · skip
    exact ends_ofB KF_ok (reads_p1_1 s t2) (andI (dF h0) (rfl)) (by kernel_rfl) (Nat.le_of_ble_eq_true (by kernel_rfl)) (fun i hi => absurd hi (Nat.not_lt_zero _)) (fun i hi => absurd hi (Nat.not_lt_zero _))


end Go.Proofs.Ytnimmocgnimdiaa
