/-
  The statements UtfFew and UtfNobody as plain functions.
-/
import Derived.Test.YtadpggfmogjddaaUtfV
set_option linter.unusedVariables false
set_option linter.unusedSimpArgs false
open Go Go.Am
namespace Go.Proofs.Ytadpggfmogjddaa

noncomputable def KW : Ctr := ctrOf E [(12, anyA, awake_k), (4, anyA, ureads_k)]
theorem KW_ok : KOk E KW := ctr_cons awake_k_ok (ctr_cons ureads_k_ok ctr_nil)

abbrev few_R : Type := Unit
def few_V (a : Int) (b : Int) (c : Int) (s : ByteArray) (r : Unit) : Value := Value.bool true
def few_H (a : Int) (b : Int) (c : Int) (s : ByteArray) (r : Unit) : Heap := []
noncomputable def few_Q (a : Int) (b : Int) (c : Int) (s : ByteArray) (C : Cfg) (r : few_R) : Prop :=
  let p := r
  AEnds E 5 0 C (few_V a b c s p) (few_H a b c s p)
theorem few_p0_0 (a : Int) (b : Int) (c : Int) (s : ByteArray) : goFinB E KW 2000 24 (some [false, true]) [] [8] [] (startC E 5 ([Value.int IntKind.u8 a, Value.int IntKind.u8 b, Value.int IntKind.u8 c, Value.string s]) ([])) = some (and ((decide (200 < (↑(slen s) : Int))) == true) (and (eqA [] []) (and (eqH [] []) (and (pdec awake_S0) (true)))), Value.bool true, []) := by kernel_rfl
theorem few_p0_1 (a : Int) (b : Int) (c : Int) (s : ByteArray) : goFinB E KW 2000 54 (some [false, false, true, true, true]) [] [8] [] (startC E 5 ([Value.int IntKind.u8 a, Value.int IntKind.u8 b, Value.int IntKind.u8 c, Value.string s]) ([])) = some (and (eqA [Value.string (sub (bytesOf [Value.int IntKind.u8 a, Value.int IntKind.u8 b, Value.int IntKind.u8 c]) 0 1)] [Value.string (sub (bytesOf [Value.int IntKind.u8 a, Value.int IntKind.u8 b, Value.int IntKind.u8 c]) 0 1)]) (and (eqH [] []) (and (pdec (ureads_pre (sub (bytesOf [Value.int IntKind.u8 a, Value.int IntKind.u8 b, Value.int IntKind.u8 c]) 0 1))) (and (eqA [Value.string (sub (bytesOf [Value.int IntKind.u8 a, Value.int IntKind.u8 b, Value.int IntKind.u8 c]) 0 2)] [Value.string (sub (bytesOf [Value.int IntKind.u8 a, Value.int IntKind.u8 b, Value.int IntKind.u8 c]) 0 2)]) (and (eqH [] []) (and (pdec (ureads_pre (sub (bytesOf [Value.int IntKind.u8 a, Value.int IntKind.u8 b, Value.int IntKind.u8 c]) 0 2))) (and (eqA [Value.string (cat s (bytesOf [Value.int IntKind.u8 a, Value.int IntKind.u8 b, Value.int IntKind.u8 c]))] [Value.string (cat s (bytesOf [Value.int IntKind.u8 a, Value.int IntKind.u8 b, Value.int IntKind.u8 c]))]) (and (eqH [] []) (and (pdec (ureads_pre (cat s (bytesOf [Value.int IntKind.u8 a, Value.int IntKind.u8 b, Value.int IntKind.u8 c])))) (and (decide (slen s + slen (bytesOf [Value.int IntKind.u8 a, Value.int IntKind.u8 b, Value.int IntKind.u8 c]) ≤ 9223372036854775807)) (and (eqA [Value.string (cat (bytesOf [Value.int IntKind.u8 a, Value.int IntKind.u8 b, Value.int IntKind.u8 c]) s)] [Value.string (cat (bytesOf [Value.int IntKind.u8 a, Value.int IntKind.u8 b, Value.int IntKind.u8 c]) s)]) (and (eqH [] []) (and (pdec (ureads_pre (cat (bytesOf [Value.int IntKind.u8 a, Value.int IntKind.u8 b, Value.int IntKind.u8 c]) s))) (and (decide (slen (bytesOf [Value.int IntKind.u8 a, Value.int IntKind.u8 b, Value.int IntKind.u8 c]) + slen s ≤ 9223372036854775807)) (and ((decide (200 < (↑(slen s) : Int))) == false) (and (eqA [] []) (and (eqH [] []) (and (pdec awake_S0) (true)))))))))))))))))), Value.bool true, []) := by kernel_rfl
def few_t0 (a : Int) (b : Int) (c : Int) (s : ByteArray) : few_R :=
  bif decide (200 < (↑(slen s) : Int)) then ()
  else ()
def few_S0 (a : Int) (b : Int) (c : Int) (s : ByteArray) : Prop :=
  ((decide (200 < (↑(slen s) : Int))) = true → awake_S0) ∧
  ((decide (200 < (↑(slen s) : Int))) = false → (ureads_pre (sub (bytesOf [Value.int IntKind.u8 a, Value.int IntKind.u8 b, Value.int IntKind.u8 c]) 0 1)) ∧ (ureads_pre (sub (bytesOf [Value.int IntKind.u8 a, Value.int IntKind.u8 b, Value.int IntKind.u8 c]) 0 2)) ∧ (ureads_pre (cat s (bytesOf [Value.int IntKind.u8 a, Value.int IntKind.u8 b, Value.int IntKind.u8 c]))) ∧ (slen s + slen (bytesOf [Value.int IntKind.u8 a, Value.int IntKind.u8 b, Value.int IntKind.u8 c]) ≤ 9223372036854775807) ∧ (ureads_pre (cat (bytesOf [Value.int IntKind.u8 a, Value.int IntKind.u8 b, Value.int IntKind.u8 c]) s)) ∧ (slen (bytesOf [Value.int IntKind.u8 a, Value.int IntKind.u8 b, Value.int IntKind.u8 c]) + slen s ≤ 9223372036854775807) ∧ (awake_S0))
theorem few_ok0 (a : Int) (b : Int) (c : Int) (s : ByteArray) (hS : few_S0 a b c s) : few_Q a b c s (startC E 5 ([Value.int IntKind.u8 a, Value.int IntKind.u8 b, Value.int IntKind.u8 c, Value.string s]) ([])) (few_t0 a b c s) := by
  unfold few_S0 at hS
  unfold few_t0
  refine cond_intro (P := few_Q a b c s (startC E 5 ([Value.int IntKind.u8 a, Value.int IntKind.u8 b, Value.int IntKind.u8 c, Value.string s]) ([]))) _ (fun h1 => ?_) (fun h1 => ?_)
  · skip
    exact ends_ofB KW_ok (few_p0_0 a b c s) (andI (dT h1) (andI (eqA_self _) (andI (eqH_self _) (andI (pdec_iff.2 (hS.1 h1)) (rfl))))) (by kernel_rfl) (Nat.le_of_ble_eq_true (by kernel_rfl)) (fun i hi => absurd hi (Nat.not_lt_zero _)) (fun i hi => absurd hi (Nat.not_lt_zero _))
  · skip
    exact ends_ofB KW_ok (few_p0_1 a b c s) (andI (eqA_self _) (andI (eqH_self _) (andI (pdec_iff.2 (hS.2 h1).1) (andI (eqA_self _) (andI (eqH_self _) (andI (pdec_iff.2 (hS.2 h1).2.1) (andI (eqA_self _) (andI (eqH_self _) (andI (pdec_iff.2 (hS.2 h1).2.2.1) (andI (decide_eq_true (hS.2 h1).2.2.2.1) (andI (eqA_self _) (andI (eqH_self _) (andI (pdec_iff.2 (hS.2 h1).2.2.2.2.1) (andI (decide_eq_true (hS.2 h1).2.2.2.2.2.1) (andI (dF h1) (andI (eqA_self _) (andI (eqH_self _) (andI (pdec_iff.2 (hS.2 h1).2.2.2.2.2.2) (rfl))))))))))))))))))) (by kernel_rfl) (Nat.le_of_ble_eq_true (by kernel_rfl)) (fun i hi => absurd hi (Nat.not_lt_zero _)) (fun i hi => absurd hi (Nat.not_lt_zero _))
theorem few_call (a : Int) (b : Int) (c : Int) (s : ByteArray) (hS : few_S0 a b c s) : CallOk E 5 ([Value.int IntKind.u8 a, Value.int IntKind.u8 b, Value.int IntKind.u8 c, Value.string s]) ([]) (few_V a b c s (few_t0 a b c s)) (few_H a b c s (few_t0 a b c s)) := callOk_of_ends (few_ok0 a b c s hS) (by kernel_rfl) (Nat.le_of_ble_eq_true (by kernel_rfl))
def few_ex (a : List Value) (h : Heap) : Int × Int × Int × ByteArray := ((toInt (a.getD 0 undef)), (toInt (a.getD 1 undef)), (toInt (a.getD 2 undef)), (toStr (a.getD 3 undef)))
noncomputable def few_k : Ct := kP few_ex (fun x => [Value.int IntKind.u8 x.1, Value.int IntKind.u8 x.2.1, Value.int IntKind.u8 x.2.2.1, Value.string x.2.2.2]) (fun x => []) (fun x => few_S0 (x.1) (x.2.1) (x.2.2.1) (x.2.2.2)) (fun x => few_V (x.1) (x.2.1) (x.2.2.1) (x.2.2.2) (few_t0 (x.1) (x.2.1) (x.2.2.1) (x.2.2.2))) (fun x => few_H (x.1) (x.2.1) (x.2.2.1) (x.2.2.2) (few_t0 (x.1) (x.2.1) (x.2.2.1) (x.2.2.2)))
theorem few_k_ok : KFor E 5 few_k := kP_ok (fun x hx => few_call (x.1) (x.2.1) (x.2.2.1) (x.2.2.2) hx)


noncomputable def KW2 : Ctr := ctrOf E [(12, anyA, awake_k), (16, anyA, reads_k), (11, ptrA, feed_k)]
theorem KW2_ok : KOk E KW2 := ctr_cons awake_k_ok (ctr_cons reads_k_ok (ctr_cons feed_k_ok ctr_nil))

abbrev nobody_R : Type := Bool
def nobody_V (s : ByteArray) (r : Bool) : Value := Value.bool r
def nobody_H (s : ByteArray) (r : Bool) : Heap := []
noncomputable def nobody_Q (s : ByteArray) (C : Cfg) (r : nobody_R) : Prop :=
  let p := r
  AEnds E 6 0 C (nobody_V s p) (nobody_H s p)
theorem nobody_p0_0 (s : ByteArray) : goFinB E KW2 2000 24 (some [false, true]) [] [2] [] (startC E 6 ([Value.string s]) ([])) = some (and ((decide (2000 < (↑(slen s) : Int))) == true) (and (eqA [] []) (and (eqH [] []) (and (pdec awake_S0) (true)))), Value.bool true, []) := by kernel_rfl
theorem nobody_p0_1 (s : ByteArray) : goFinB E KW2 2000 265 (some [false, false, true, true, true, false, true, false, true, true, true, false, false, true, true, true, true, true, true, true, true]) [] [2] [] (startC E 6 ([Value.string s]) ([])) = some (and ((!(feedL (0, 0, 0, 0) 0 false (toL s)).snd.snd) == true) (and (((!(feedL (0, 0, 0, 0) 0 false (toL s)).snd.snd) == !(feedL (0, 0, 0, 0) 0 false (toL s)).snd.snd) == true) (and (eqA [Value.string s] [Value.string s]) (and (eqH [] []) (and (pdec (reads_pre s)) (and (eqA [Value.pointer (some { block := 0, off := 0 }), Value.string s] [Value.pointer (some { block := 0, off := 0 }), Value.string s]) (and (eqH [some (Ob.cells [Value.int IntKind.i64 0, Value.int IntKind.u8 0, Value.int IntKind.u8 0, Value.int IntKind.i32 0, Value.int IntKind.i64 0, Value.bool false] 38 none)] [some (Ob.cells [Value.int IntKind.i64 0, Value.int IntKind.u8 0, Value.int IntKind.u8 0, Value.int IntKind.i32 0, Value.int IntKind.i64 0, Value.bool false] 38 none)]) (and (pdec (feed_pre 0 0 0 0 0 false s)) (and ((decide (2000 < (↑(slen s) : Int))) == false) (and (eqA [] []) (and (eqH [] []) (and (pdec awake_S0) (true)))))))))))), Value.bool (((feedL (0, 0, 0, 0) 0 false (toL s)).fst.fst == 0) == (!(feedL (0, 0, 0, 0) 0 false (toL s)).snd.snd && (feedL (0, 0, 0, 0) 0 false (toL s)).fst.fst == 0)), []) := by kernel_rfl
theorem nobody_p0_2 (s : ByteArray) : goFinB E KW2 2000 240 (some [false, false, true, true, true, false, true, false, true, true, true, false, false, true, true, true, true, true, false]) [] [2] [] (startC E 6 ([Value.string s]) ([])) = some (and (((!(feedL (0, 0, 0, 0) 0 false (toL s)).snd.snd) == !(feedL (0, 0, 0, 0) 0 false (toL s)).snd.snd) == false) (and (eqA [Value.string s] [Value.string s]) (and (eqH [] []) (and (pdec (reads_pre s)) (and (eqA [Value.pointer (some { block := 0, off := 0 }), Value.string s] [Value.pointer (some { block := 0, off := 0 }), Value.string s]) (and (eqH [some (Ob.cells [Value.int IntKind.i64 0, Value.int IntKind.u8 0, Value.int IntKind.u8 0, Value.int IntKind.i32 0, Value.int IntKind.i64 0, Value.bool false] 38 none)] [some (Ob.cells [Value.int IntKind.i64 0, Value.int IntKind.u8 0, Value.int IntKind.u8 0, Value.int IntKind.i32 0, Value.int IntKind.i64 0, Value.bool false] 38 none)]) (and (pdec (feed_pre 0 0 0 0 0 false s)) (and ((decide (2000 < (↑(slen s) : Int))) == false) (and (eqA [] []) (and (eqH [] []) (and (pdec awake_S0) (true))))))))))), Value.bool false, []) := by kernel_rfl
theorem nobody_p0_3 (s : ByteArray) : goFinB E KW2 2000 265 (some [false, false, true, true, true, false, true, false, true, true, true, false, false, true, true, true, true, true, true, true, false]) [] [2] [] (startC E 6 ([Value.string s]) ([])) = some (and ((!(feedL (0, 0, 0, 0) 0 false (toL s)).snd.snd) == false) (and (((!(feedL (0, 0, 0, 0) 0 false (toL s)).snd.snd) == !(feedL (0, 0, 0, 0) 0 false (toL s)).snd.snd) == true) (and (eqA [Value.string s] [Value.string s]) (and (eqH [] []) (and (pdec (reads_pre s)) (and (eqA [Value.pointer (some { block := 0, off := 0 }), Value.string s] [Value.pointer (some { block := 0, off := 0 }), Value.string s]) (and (eqH [some (Ob.cells [Value.int IntKind.i64 0, Value.int IntKind.u8 0, Value.int IntKind.u8 0, Value.int IntKind.i32 0, Value.int IntKind.i64 0, Value.bool false] 38 none)] [some (Ob.cells [Value.int IntKind.i64 0, Value.int IntKind.u8 0, Value.int IntKind.u8 0, Value.int IntKind.i32 0, Value.int IntKind.i64 0, Value.bool false] 38 none)]) (and (pdec (feed_pre 0 0 0 0 0 false s)) (and ((decide (2000 < (↑(slen s) : Int))) == false) (and (eqA [] []) (and (eqH [] []) (and (pdec awake_S0) (true)))))))))))), Value.bool (false == (!(feedL (0, 0, 0, 0) 0 false (toL s)).snd.snd && (feedL (0, 0, 0, 0) 0 false (toL s)).fst.fst == 0)), []) := by kernel_rfl
def nobody_t0 (s : ByteArray) : nobody_R :=
  bif decide (2000 < (↑(slen s) : Int)) then true
  else bif (!(feedL (0, 0, 0, 0) 0 false (toL s)).snd.snd) == !(feedL (0, 0, 0, 0) 0 false (toL s)).snd.snd then bif !(feedL (0, 0, 0, 0) 0 false (toL s)).snd.snd then ((feedL (0, 0, 0, 0) 0 false (toL s)).fst.fst == 0) == (!(feedL (0, 0, 0, 0) 0 false (toL s)).snd.snd && (feedL (0, 0, 0, 0) 0 false (toL s)).fst.fst == 0)
      else false == (!(feedL (0, 0, 0, 0) 0 false (toL s)).snd.snd && (feedL (0, 0, 0, 0) 0 false (toL s)).fst.fst == 0)
    else false
def nobody_S0 (s : ByteArray) : Prop :=
  ((decide (2000 < (↑(slen s) : Int))) = true → awake_S0) ∧
  ((decide (2000 < (↑(slen s) : Int))) = false → (((!(feedL (0, 0, 0, 0) 0 false (toL s)).snd.snd) == !(feedL (0, 0, 0, 0) 0 false (toL s)).snd.snd) = true → ((!(feedL (0, 0, 0, 0) 0 false (toL s)).snd.snd) = true → (reads_pre s) ∧ (feed_pre 0 0 0 0 0 false s) ∧ (awake_S0)) ∧
      ((!(feedL (0, 0, 0, 0) 0 false (toL s)).snd.snd) = false → (reads_pre s) ∧ (feed_pre 0 0 0 0 0 false s) ∧ (awake_S0))) ∧
    (((!(feedL (0, 0, 0, 0) 0 false (toL s)).snd.snd) == !(feedL (0, 0, 0, 0) 0 false (toL s)).snd.snd) = false → (reads_pre s) ∧ (feed_pre 0 0 0 0 0 false s) ∧ (awake_S0)))
theorem nobody_ok0 (s : ByteArray) (hS : nobody_S0 s) : nobody_Q s (startC E 6 ([Value.string s]) ([])) (nobody_t0 s) := by
  unfold nobody_S0 at hS
  unfold nobody_t0
  refine cond_intro (P := nobody_Q s (startC E 6 ([Value.string s]) ([]))) _ (fun h1 => ?_) (fun h1 => ?_)
  · skip
    exact ends_ofB KW2_ok (nobody_p0_0 s) (andI (dT h1) (andI (eqA_self _) (andI (eqH_self _) (andI (pdec_iff.2 (hS.1 h1)) (rfl))))) (by kernel_rfl) (Nat.le_of_ble_eq_true (by kernel_rfl)) (fun i hi => absurd hi (Nat.not_lt_zero _)) (fun i hi => absurd hi (Nat.not_lt_zero _))
  · skip
    refine cond_intro (P := nobody_Q s (startC E 6 ([Value.string s]) ([]))) _ (fun h18 => ?_) (fun h18 => ?_)
    · skip
      refine cond_intro (P := nobody_Q s (startC E 6 ([Value.string s]) ([]))) _ (fun h20 => ?_) (fun h20 => ?_)
      · skip
        exact ends_ofB KW2_ok (nobody_p0_1 s) (andI (dT h20) (andI (dT h18) (andI (eqA_self _) (andI (eqH_self _) (andI (pdec_iff.2 (((hS.2 h1).1 h18).1 h20).1) (andI (eqA_self _) (andI (eqH_self _) (andI (pdec_iff.2 (((hS.2 h1).1 h18).1 h20).2.1) (andI (dF h1) (andI (eqA_self _) (andI (eqH_self _) (andI (pdec_iff.2 (((hS.2 h1).1 h18).1 h20).2.2) (rfl))))))))))))) (by kernel_rfl) (Nat.le_of_ble_eq_true (by kernel_rfl)) (fun i hi => absurd hi (Nat.not_lt_zero _)) (fun i hi => absurd hi (Nat.not_lt_zero _))
      · skip
        exact ends_ofB KW2_ok (nobody_p0_3 s) (andI (dF h20) (andI (dT h18) (andI (eqA_self _) (andI (eqH_self _) (andI (pdec_iff.2 (((hS.2 h1).1 h18).2 h20).1) (andI (eqA_self _) (andI (eqH_self _) (andI (pdec_iff.2 (((hS.2 h1).1 h18).2 h20).2.1) (andI (dF h1) (andI (eqA_self _) (andI (eqH_self _) (andI (pdec_iff.2 (((hS.2 h1).1 h18).2 h20).2.2) (rfl))))))))))))) (by kernel_rfl) (Nat.le_of_ble_eq_true (by kernel_rfl)) (fun i hi => absurd hi (Nat.not_lt_zero _)) (fun i hi => absurd hi (Nat.not_lt_zero _))
    · skip
      exact ends_ofB KW2_ok (nobody_p0_2 s) (andI (dF h18) (andI (eqA_self _) (andI (eqH_self _) (andI (pdec_iff.2 ((hS.2 h1).2 h18).1) (andI (eqA_self _) (andI (eqH_self _) (andI (pdec_iff.2 ((hS.2 h1).2 h18).2.1) (andI (dF h1) (andI (eqA_self _) (andI (eqH_self _) (andI (pdec_iff.2 ((hS.2 h1).2 h18).2.2) (rfl)))))))))))) (by kernel_rfl) (Nat.le_of_ble_eq_true (by kernel_rfl)) (fun i hi => absurd hi (Nat.not_lt_zero _)) (fun i hi => absurd hi (Nat.not_lt_zero _))
theorem nobody_call (s : ByteArray) (hS : nobody_S0 s) : CallOk E 6 ([Value.string s]) ([]) (nobody_V s (nobody_t0 s)) (nobody_H s (nobody_t0 s)) := callOk_of_ends (nobody_ok0 s hS) (by kernel_rfl) (Nat.le_of_ble_eq_true (by kernel_rfl))
def nobody_ex (a : List Value) (h : Heap) : ByteArray := (toStr (a.getD 0 undef))
noncomputable def nobody_k : Ct := kP nobody_ex (fun x => [Value.string x]) (fun x => []) (fun x => nobody_S0 x) (fun x => nobody_V x (nobody_t0 x)) (fun x => nobody_H x (nobody_t0 x))
theorem nobody_k_ok : KFor E 6 nobody_k := kP_ok (fun x hx => nobody_call x hx)


end Go.Proofs.Ytadpggfmogjddaa
