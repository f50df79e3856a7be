/-
  What a Close's data say, and which data a code and a reason are, as plain functions: the document's.
-/
import Derived.Test.YtnimmocgnimdiaaClosingB
import Derived.Test.YtnimmocgnimdiaaUtfI19
set_option linter.unusedVariables false
set_option linter.unusedSimpArgs false
open Go Go.Am
namespace Go.Proofs.Ytnimmocgnimdiaa

noncomputable def KC : Ctr := ctrOf E [(26, anyA, reads_k)]
theorem KC_ok : KOk E KC := ctr_cons reads_k_ok ctr_nil

abbrev text_R : Type := Unit
def text_V (s : ByteArray) (r : Unit) : Value := Value.bool (!(feedL (0, 0, 0, 0) 0 false (toL s)).snd.snd && (feedL (0, 0, 0, 0) 0 false (toL s)).fst.fst == 0)
def text_H (s : ByteArray) (r : Unit) : Heap := []
noncomputable def text_Q (s : ByteArray) (C : Cfg) (r : text_R) : Prop :=
  let p := r
  AEnds E 17 0 C (text_V s p) (text_H s p)
theorem text_p0_0 (s : ByteArray) : goFinB E KC 2000 21 (some []) [] [2] [] (startC E 17 ([Value.string s]) ([])) = some (and (eqA [Value.string s] [Value.string s]) (and (eqH [] []) (and (pdec (reads_pre s)) (true))), Value.bool (!(feedL (0, 0, 0, 0) 0 false (toL s)).snd.snd && (feedL (0, 0, 0, 0) 0 false (toL s)).fst.fst == 0), []) := by kernel_rfl
def text_t0 (s : ByteArray) : text_R :=
  ()
def text_S0 (s : ByteArray) : Prop :=
  reads_pre s
theorem text_ok0 (s : ByteArray) (hS : text_S0 s) : text_Q s (startC E 17 ([Value.string s]) ([])) (text_t0 s) := by
  unfold text_S0 at hS
  unfold text_t0
  exact ends_ofB KC_ok (text_p0_0 s) (andI (eqA_self _) (andI (eqH_self _) (andI (pdec_iff.2 hS) (rfl)))) (by kernel_rfl) (Nat.le_of_ble_eq_true (by kernel_rfl)) (fun i hi => absurd hi (Nat.not_lt_zero _)) (fun i hi => absurd hi (Nat.not_lt_zero _))
theorem text_call (s : ByteArray) (hS : text_S0 s) : CallOk E 17 ([Value.string s]) ([]) (text_V s (text_t0 s)) (text_H s (text_t0 s)) := callOk_of_ends (text_ok0 s hS) (by kernel_rfl) (Nat.le_of_ble_eq_true (by kernel_rfl))
def text_ex (a : List Value) (h : Heap) : ByteArray := (toStr (a.getD 0 undef))
noncomputable def text_k : Ct := kP text_ex (fun x => [Value.string x]) (fun x => []) (fun x => text_S0 x) (fun x => text_V x (text_t0 x)) (fun x => text_H x (text_t0 x))
theorem text_k_ok : KFor E 17 text_k := kP_ok (fun x hx => text_call x hx)


def textc_pre (s : ByteArray) : Prop := slen s ≤ 1000000
def textc_v (s : ByteArray) : Value := .bool (textD s)
def textc_h (s : ByteArray) : Heap := []
theorem textc_call (s : ByteArray) (h : textc_pre s) : CallOk E 17 [.string s] [] (textc_v s) (textc_h s) := by
  have := text_call s (by unfold text_S0 reads_pre; exact h)
  unfold textc_v textc_h textD
  rw [wholeD_feed (toL s) (0, 0, 0, 0) 0]
  exact this

def textc_ex (a : List Value) (h : Heap) : ByteArray := (toStr (a.getD 0 undef))
noncomputable def textc_k : Ct := kP textc_ex (fun x => [Value.string x]) (fun x => []) (fun x => textc_pre x) (fun x => textc_v x) (fun x => textc_h x)
theorem textc_k_ok : KFor E 17 textc_k := kP_ok (fun x hx => textc_call x hx)


noncomputable def KC2 : Ctr := ctrOf E [(14, anyA, rmayc_k), (17, anyA, textc_k)]
theorem KC2_ok : KOk E KC2 := ctr_cons rmayc_k_ok (ctr_cons textc_k_ok ctr_nil)

abbrev rcread_R : Type := Int × ByteArray × Int
def rcread_V (s : ByteArray) (r : Int × ByteArray × Int) : Value := Value.tuple #[Value.int IntKind.i64 r.1, Value.string r.2.1, Value.int IntKind.i64 r.2.2]
def rcread_H (s : ByteArray) (r : Int × ByteArray × Int) : Heap := []
noncomputable def rcread_Q (s : ByteArray) (C : Cfg) (r : rcread_R) : Prop :=
  let p := r
  AEnds E 10 0 C (rcread_V s p) (rcread_H s p)
theorem rcread_p0_0 (s : ByteArray) : goFinB E KC2 2000 19 (some [true]) [] [2, 3, 4] [] (startC E 10 ([Value.string s]) ([])) = some (and ((toL s == []) == true) (true), Value.tuple #[Value.int IntKind.i64 1005, Value.string { data := #[] }, Value.int IntKind.i64 0], []) := by kernel_rfl
theorem rcread_p0_1 (s : ByteArray) : goFinB E KC2 2000 28 (some [false, true]) [] [2, 3, 4] [] (startC E 10 ([Value.string s]) ([])) = some (and (((↑(slen s) : Int) == 1) == true) (and ((toL s == []) == false) (true)), Value.tuple #[Value.int IntKind.i64 0, Value.string { data := #[] }, Value.int IntKind.i64 1002], []) := by kernel_rfl
theorem rcread_p0_2 (s : ByteArray) : goFinB E KC2 2000 39 (some [false, false, true]) [] [2, 3, 4] [] (startC E 10 ([Value.string s]) ([])) = some (and ((!mayP (IntKind.i64.wrap (IntKind.i64.wrap (256 * IntKind.i64.wrap (chr s 0)) + IntKind.i64.wrap (chr s 1)))) == true) (and (eqA [Value.int IntKind.i64 (IntKind.i64.wrap (IntKind.i64.wrap (256 * IntKind.i64.wrap (chr s 0)) + IntKind.i64.wrap (chr s 1)))] [Value.int IntKind.i64 (IntKind.i64.wrap (IntKind.i64.wrap (256 * IntKind.i64.wrap (chr s 0)) + IntKind.i64.wrap (chr s 1)))]) (and (eqH [] []) (and (pdec (rmayc_pre (IntKind.i64.wrap (IntKind.i64.wrap (256 * IntKind.i64.wrap (chr s 0)) + IntKind.i64.wrap (chr s 1))))) (and (decide (1 < (↑(slen s) : Int))) (and (decide (0 < (↑(slen s) : Int))) (and (((↑(slen s) : Int) == 1) == false) (and ((toL s == []) == false) (true)))))))), Value.tuple #[Value.int IntKind.i64 0, Value.string { data := #[] }, Value.int IntKind.i64 1002], []) := by kernel_rfl
theorem rcread_p0_3 (s : ByteArray) : goFinB E KC2 2000 49 (some [false, false, false, true]) [] [2, 3, 4] [] (startC E 10 ([Value.string s]) ([])) = some (and ((!textD (sub s 2 (slen s))) == true) (and (eqA [Value.string (sub s 2 (slen s))] [Value.string (sub s 2 (slen s))]) (and (eqH [] []) (and (pdec (textc_pre (sub s 2 (slen s)))) (and (decide (2 ≤ slen s)) (and ((!mayP (IntKind.i64.wrap (IntKind.i64.wrap (256 * IntKind.i64.wrap (chr s 0)) + IntKind.i64.wrap (chr s 1)))) == false) (and (eqA [Value.int IntKind.i64 (IntKind.i64.wrap (IntKind.i64.wrap (256 * IntKind.i64.wrap (chr s 0)) + IntKind.i64.wrap (chr s 1)))] [Value.int IntKind.i64 (IntKind.i64.wrap (IntKind.i64.wrap (256 * IntKind.i64.wrap (chr s 0)) + IntKind.i64.wrap (chr s 1)))]) (and (eqH [] []) (and (pdec (rmayc_pre (IntKind.i64.wrap (IntKind.i64.wrap (256 * IntKind.i64.wrap (chr s 0)) + IntKind.i64.wrap (chr s 1))))) (and (decide (1 < (↑(slen s) : Int))) (and (decide (0 < (↑(slen s) : Int))) (and (((↑(slen s) : Int) == 1) == false) (and ((toL s == []) == false) (true))))))))))))), Value.tuple #[Value.int IntKind.i64 0, Value.string { data := #[] }, Value.int IntKind.i64 1007], []) := by kernel_rfl
theorem rcread_p0_4 (s : ByteArray) : goFinB E KC2 2000 46 (some [false, false, false, false]) [] [2, 3, 4] [] (startC E 10 ([Value.string s]) ([])) = some (and (decide (2 ≤ slen s)) (and ((!textD (sub s 2 (slen s))) == false) (and (eqA [Value.string (sub s 2 (slen s))] [Value.string (sub s 2 (slen s))]) (and (eqH [] []) (and (pdec (textc_pre (sub s 2 (slen s)))) (and (decide (2 ≤ slen s)) (and ((!mayP (IntKind.i64.wrap (IntKind.i64.wrap (256 * IntKind.i64.wrap (chr s 0)) + IntKind.i64.wrap (chr s 1)))) == false) (and (eqA [Value.int IntKind.i64 (IntKind.i64.wrap (IntKind.i64.wrap (256 * IntKind.i64.wrap (chr s 0)) + IntKind.i64.wrap (chr s 1)))] [Value.int IntKind.i64 (IntKind.i64.wrap (IntKind.i64.wrap (256 * IntKind.i64.wrap (chr s 0)) + IntKind.i64.wrap (chr s 1)))]) (and (eqH [] []) (and (pdec (rmayc_pre (IntKind.i64.wrap (IntKind.i64.wrap (256 * IntKind.i64.wrap (chr s 0)) + IntKind.i64.wrap (chr s 1))))) (and (decide (1 < (↑(slen s) : Int))) (and (decide (0 < (↑(slen s) : Int))) (and (((↑(slen s) : Int) == 1) == false) (and ((toL s == []) == false) (true)))))))))))))), Value.tuple #[Value.int IntKind.i64 (IntKind.i64.wrap (IntKind.i64.wrap (256 * IntKind.i64.wrap (chr s 0)) + IntKind.i64.wrap (chr s 1))), Value.string (sub s 2 (slen s)), Value.int IntKind.i64 0], []) := by kernel_rfl
def rcread_t0 (s : ByteArray) : rcread_R :=
  bif toL s == [] then (1005, { data := #[] }, 0)
  else bif (↑(slen s) : Int) == 1 then (0, { data := #[] }, 1002)
    else bif !mayP (IntKind.i64.wrap (IntKind.i64.wrap (256 * IntKind.i64.wrap (chr s 0)) + IntKind.i64.wrap (chr s 1))) then (0, { data := #[] }, 1002)
      else bif !textD (sub s 2 (slen s)) then (0, { data := #[] }, 1007)
        else (IntKind.i64.wrap (IntKind.i64.wrap (256 * IntKind.i64.wrap (chr s 0)) + IntKind.i64.wrap (chr s 1)), sub s 2 (slen s), 0)
def rcread_S0 (s : ByteArray) : Prop :=
  ((toL s == []) = true → True) ∧
  ((toL s == []) = false → (((↑(slen s) : Int) == 1) = true → True) ∧
    (((↑(slen s) : Int) == 1) = false → ((!mayP (IntKind.i64.wrap (IntKind.i64.wrap (256 * IntKind.i64.wrap (chr s 0)) + IntKind.i64.wrap (chr s 1)))) = true → (rmayc_pre (IntKind.i64.wrap (IntKind.i64.wrap (256 * IntKind.i64.wrap (chr s 0)) + IntKind.i64.wrap (chr s 1)))) ∧ (1 < (↑(slen s) : Int)) ∧ (0 < (↑(slen s) : Int))) ∧
      ((!mayP (IntKind.i64.wrap (IntKind.i64.wrap (256 * IntKind.i64.wrap (chr s 0)) + IntKind.i64.wrap (chr s 1)))) = false → ((!textD (sub s 2 (slen s))) = true → (textc_pre (sub s 2 (slen s))) ∧ (2 ≤ slen s) ∧ (rmayc_pre (IntKind.i64.wrap (IntKind.i64.wrap (256 * IntKind.i64.wrap (chr s 0)) + IntKind.i64.wrap (chr s 1)))) ∧ (1 < (↑(slen s) : Int)) ∧ (0 < (↑(slen s) : Int))) ∧
        ((!textD (sub s 2 (slen s))) = false → (2 ≤ slen s) ∧ (textc_pre (sub s 2 (slen s))) ∧ (rmayc_pre (IntKind.i64.wrap (IntKind.i64.wrap (256 * IntKind.i64.wrap (chr s 0)) + IntKind.i64.wrap (chr s 1)))) ∧ (1 < (↑(slen s) : Int)) ∧ (0 < (↑(slen s) : Int))))))
theorem rcread_ok0 (s : ByteArray) (hS : rcread_S0 s) : rcread_Q s (startC E 10 ([Value.string s]) ([])) (rcread_t0 s) := by
  unfold rcread_S0 at hS
  unfold rcread_t0
  refine cond_intro (P := rcread_Q s (startC E 10 ([Value.string s]) ([]))) _ (fun h0 => ?_) (fun h0 => ?_)
  · skip
    exact ends_ofB KC2_ok (rcread_p0_0 s) (andI (dT h0) (rfl)) (by kernel_rfl) (Nat.le_of_ble_eq_true (by kernel_rfl)) (fun i hi => absurd hi (Nat.not_lt_zero _)) (fun i hi => absurd hi (Nat.not_lt_zero _))
  · skip
    refine cond_intro (P := rcread_Q s (startC E 10 ([Value.string s]) ([]))) _ (fun h1 => ?_) (fun h1 => ?_)
    · skip
      exact ends_ofB KC2_ok (rcread_p0_1 s) (andI (dT h1) (andI (dF h0) (rfl))) (by kernel_rfl) (Nat.le_of_ble_eq_true (by kernel_rfl)) (fun i hi => absurd hi (Nat.not_lt_zero _)) (fun i hi => absurd hi (Nat.not_lt_zero _))
    · skip
      refine cond_intro (P := rcread_Q s (startC E 10 ([Value.string s]) ([]))) _ (fun h2 => ?_) (fun h2 => ?_)
      · skip
        exact ends_ofB KC2_ok (rcread_p0_2 s) (andI (dT h2) (andI (eqA_self _) (andI (eqH_self _) (andI (pdec_iff.2 (((hS.2 h0).2 h1).1 h2).1) (andI (decide_eq_true (((hS.2 h0).2 h1).1 h2).2.1) (andI (decide_eq_true (((hS.2 h0).2 h1).1 h2).2.2) (andI (dF h1) (andI (dF h0) (rfl))))))))) (by kernel_rfl) (Nat.le_of_ble_eq_true (by kernel_rfl)) (fun i hi => absurd hi (Nat.not_lt_zero _)) (fun i hi => absurd hi (Nat.not_lt_zero _))
      · skip
        refine cond_intro (P := rcread_Q s (startC E 10 ([Value.string s]) ([]))) _ (fun h3 => ?_) (fun h3 => ?_)
        · skip
          exact ends_ofB KC2_ok (rcread_p0_3 s) (andI (dT h3) (andI (eqA_self _) (andI (eqH_self _) (andI (pdec_iff.2 ((((hS.2 h0).2 h1).2 h2).1 h3).1) (andI (decide_eq_true ((((hS.2 h0).2 h1).2 h2).1 h3).2.1) (andI (dF h2) (andI (eqA_self _) (andI (eqH_self _) (andI (pdec_iff.2 ((((hS.2 h0).2 h1).2 h2).1 h3).2.2.1) (andI (decide_eq_true ((((hS.2 h0).2 h1).2 h2).1 h3).2.2.2.1) (andI (decide_eq_true ((((hS.2 h0).2 h1).2 h2).1 h3).2.2.2.2) (andI (dF h1) (andI (dF h0) (rfl)))))))))))))) (by kernel_rfl) (Nat.le_of_ble_eq_true (by kernel_rfl)) (fun i hi => absurd hi (Nat.not_lt_zero _)) (fun i hi => absurd hi (Nat.not_lt_zero _))
        · skip
          exact ends_ofB KC2_ok (rcread_p0_4 s) (andI (decide_eq_true ((((hS.2 h0).2 h1).2 h2).2 h3).1) (andI (dF h3) (andI (eqA_self _) (andI (eqH_self _) (andI (pdec_iff.2 ((((hS.2 h0).2 h1).2 h2).2 h3).2.1) (andI (decide_eq_true ((((hS.2 h0).2 h1).2 h2).2 h3).1) (andI (dF h2) (andI (eqA_self _) (andI (eqH_self _) (andI (pdec_iff.2 ((((hS.2 h0).2 h1).2 h2).2 h3).2.2.1) (andI (decide_eq_true ((((hS.2 h0).2 h1).2 h2).2 h3).2.2.2.1) (andI (decide_eq_true ((((hS.2 h0).2 h1).2 h2).2 h3).2.2.2.2) (andI (dF h1) (andI (dF h0) (rfl))))))))))))))) (by kernel_rfl) (Nat.le_of_ble_eq_true (by kernel_rfl)) (fun i hi => absurd hi (Nat.not_lt_zero _)) (fun i hi => absurd hi (Nat.not_lt_zero _))
theorem rcread_call (s : ByteArray) (hS : rcread_S0 s) : CallOk E 10 ([Value.string s]) ([]) (rcread_V s (rcread_t0 s)) (rcread_H s (rcread_t0 s)) := callOk_of_ends (rcread_ok0 s hS) (by kernel_rfl) (Nat.le_of_ble_eq_true (by kernel_rfl))
def rcread_ex (a : List Value) (h : Heap) : ByteArray := (toStr (a.getD 0 undef))
noncomputable def rcread_k : Ct := kP rcread_ex (fun x => [Value.string x]) (fun x => []) (fun x => rcread_S0 x) (fun x => rcread_V x (rcread_t0 x)) (fun x => rcread_H x (rcread_t0 x))
theorem rcread_k_ok : KFor E 10 rcread_k := kP_ok (fun x hx => rcread_call x hx)


abbrev rcbytes_R : Type := ByteArray × Int
def rcbytes_V (code : Int) (s : ByteArray) (r : ByteArray × Int) : Value := Value.tuple #[Value.string r.1, Value.int IntKind.i64 r.2]
def rcbytes_H (code : Int) (s : ByteArray) (r : ByteArray × Int) : Heap := []
noncomputable def rcbytes_Q (code : Int) (s : ByteArray) (C : Cfg) (r : rcbytes_R) : Prop :=
  let p := r
  AEnds E 12 0 C (rcbytes_V code s p) (rcbytes_H code s p)
theorem rcbytes_p0_0 (code : Int) (s : ByteArray) : goFinB E KC2 2000 21 (some [true, true]) [] [4, 5] [] (startC E 12 ([Value.int IntKind.i64 code, Value.string s]) ([])) = some (and ((toL s == []) == true) (and ((code == 1005) == true) (true)), Value.tuple #[Value.string { data := #[] }, Value.int IntKind.i64 0], []) := by kernel_rfl
theorem rcbytes_p0_1 (code : Int) (s : ByteArray) : goFinB E KC2 2000 40 (some [false, false, true, true, true]) [] [4, 5] [] (startC E 12 ([Value.int IntKind.i64 code, Value.string s]) ([])) = some (and ((!mayP code) == true) (and (eqA [Value.int IntKind.i64 code] [Value.int IntKind.i64 code]) (and (eqH [] []) (and (pdec (rmayc_pre code)) (and ((code == 1005) == false) (true))))), Value.tuple #[Value.string { data := #[] }, Value.int IntKind.i64 1], []) := by kernel_rfl
theorem rcbytes_p0_2 (code : Int) (s : ByteArray) : goFinB E KC2 2000 40 (some [true, false, true, true, true]) [] [4, 5] [] (startC E 12 ([Value.int IntKind.i64 code, Value.string s]) ([])) = some (and ((!mayP code) == true) (and (eqA [Value.int IntKind.i64 code] [Value.int IntKind.i64 code]) (and (eqH [] []) (and (pdec (rmayc_pre code)) (and ((toL s == []) == false) (and ((code == 1005) == true) (true)))))), Value.tuple #[Value.string { data := #[] }, Value.int IntKind.i64 1], []) := by kernel_rfl
theorem rcbytes_p0_3 (code : Int) (s : ByteArray) : goFinB E KC2 2000 40 (some [false, false, false, true, true]) [] [4, 5] [] (startC E 12 ([Value.int IntKind.i64 code, Value.string s]) ([])) = some (and ((decide (123 < (↑(slen s) : Int))) == true) (and ((!mayP code) == false) (and (eqA [Value.int IntKind.i64 code] [Value.int IntKind.i64 code]) (and (eqH [] []) (and (pdec (rmayc_pre code)) (and ((code == 1005) == false) (true)))))), Value.tuple #[Value.string { data := #[] }, Value.int IntKind.i64 1], []) := by kernel_rfl
theorem rcbytes_p0_4 (code : Int) (s : ByteArray) : goFinB E KC2 2000 40 (some [true, false, false, true, true]) [] [4, 5] [] (startC E 12 ([Value.int IntKind.i64 code, Value.string s]) ([])) = some (and ((decide (123 < (↑(slen s) : Int))) == true) (and ((!mayP code) == false) (and (eqA [Value.int IntKind.i64 code] [Value.int IntKind.i64 code]) (and (eqH [] []) (and (pdec (rmayc_pre code)) (and ((toL s == []) == false) (and ((code == 1005) == true) (true))))))), Value.tuple #[Value.string { data := #[] }, Value.int IntKind.i64 1], []) := by kernel_rfl
theorem rcbytes_p0_5 (code : Int) (s : ByteArray) : goFinB E KC2 2000 40 (some [false, false, false, false, true]) [] [4, 5] [] (startC E 12 ([Value.int IntKind.i64 code, Value.string s]) ([])) = some (and ((!textD s) == true) (and (eqA [Value.string s] [Value.string s]) (and (eqH [] []) (and (pdec (textc_pre s)) (and ((decide (123 < (↑(slen s) : Int))) == false) (and ((!mayP code) == false) (and (eqA [Value.int IntKind.i64 code] [Value.int IntKind.i64 code]) (and (eqH [] []) (and (pdec (rmayc_pre code)) (and ((code == 1005) == false) (true)))))))))), Value.tuple #[Value.string { data := #[] }, Value.int IntKind.i64 1], []) := by kernel_rfl
theorem rcbytes_p0_6 (code : Int) (s : ByteArray) : goFinB E KC2 2000 40 (some [true, false, false, false, true]) [] [4, 5] [] (startC E 12 ([Value.int IntKind.i64 code, Value.string s]) ([])) = some (and ((!textD s) == true) (and (eqA [Value.string s] [Value.string s]) (and (eqH [] []) (and (pdec (textc_pre s)) (and ((decide (123 < (↑(slen s) : Int))) == false) (and ((!mayP code) == false) (and (eqA [Value.int IntKind.i64 code] [Value.int IntKind.i64 code]) (and (eqH [] []) (and (pdec (rmayc_pre code)) (and ((toL s == []) == false) (and ((code == 1005) == true) (true))))))))))), Value.tuple #[Value.string { data := #[] }, Value.int IntKind.i64 1], []) := by kernel_rfl
theorem rcbytes_p0_7 (code : Int) (s : ByteArray) : goFinB E KC2 2000 51 (some [false, false, false, false, false]) [] [4, 5] [] (startC E 12 ([Value.int IntKind.i64 code, Value.string s]) ([])) = some (and (decide (slen (bytesOf [Value.int IntKind.u8 (IntKind.u8.wrap (IntKind.i64.wrap (code.tdiv 256))), Value.int IntKind.u8 (IntKind.u8.wrap (code.tmod 256))]) + slen s ≤ 9223372036854775807)) (and ((!textD s) == false) (and (eqA [Value.string s] [Value.string s]) (and (eqH [] []) (and (pdec (textc_pre s)) (and ((decide (123 < (↑(slen s) : Int))) == false) (and ((!mayP code) == false) (and (eqA [Value.int IntKind.i64 code] [Value.int IntKind.i64 code]) (and (eqH [] []) (and (pdec (rmayc_pre code)) (and ((code == 1005) == false) (true))))))))))), Value.tuple #[Value.string (cat (bytesOf [Value.int IntKind.u8 (IntKind.u8.wrap (IntKind.i64.wrap (code.tdiv 256))), Value.int IntKind.u8 (IntKind.u8.wrap (code.tmod 256))]) s), Value.int IntKind.i64 0], []) := by kernel_rfl
theorem rcbytes_p0_8 (code : Int) (s : ByteArray) : goFinB E KC2 2000 51 (some [true, false, false, false, false]) [] [4, 5] [] (startC E 12 ([Value.int IntKind.i64 code, Value.string s]) ([])) = some (and (decide (slen (bytesOf [Value.int IntKind.u8 (IntKind.u8.wrap (IntKind.i64.wrap (code.tdiv 256))), Value.int IntKind.u8 (IntKind.u8.wrap (code.tmod 256))]) + slen s ≤ 9223372036854775807)) (and ((!textD s) == false) (and (eqA [Value.string s] [Value.string s]) (and (eqH [] []) (and (pdec (textc_pre s)) (and ((decide (123 < (↑(slen s) : Int))) == false) (and ((!mayP code) == false) (and (eqA [Value.int IntKind.i64 code] [Value.int IntKind.i64 code]) (and (eqH [] []) (and (pdec (rmayc_pre code)) (and ((toL s == []) == false) (and ((code == 1005) == true) (true)))))))))))), Value.tuple #[Value.string (cat (bytesOf [Value.int IntKind.u8 (IntKind.u8.wrap (IntKind.i64.wrap (code.tdiv 256))), Value.int IntKind.u8 (IntKind.u8.wrap (code.tmod 256))]) s), Value.int IntKind.i64 0], []) := by kernel_rfl
def rcbytes_t0 (code : Int) (s : ByteArray) : rcbytes_R :=
  bif code == 1005 then bif toL s == [] then ({ data := #[] }, 0)
    else bif !mayP code then ({ data := #[] }, 1)
      else bif decide (123 < (↑(slen s) : Int)) then ({ data := #[] }, 1)
        else bif !textD s then ({ data := #[] }, 1)
          else (cat (bytesOf [Value.int IntKind.u8 (IntKind.u8.wrap (IntKind.i64.wrap (code.tdiv 256))), Value.int IntKind.u8 (IntKind.u8.wrap (code.tmod 256))]) s, 0)
  else bif !mayP code then ({ data := #[] }, 1)
    else bif decide (123 < (↑(slen s) : Int)) then ({ data := #[] }, 1)
      else bif !textD s then ({ data := #[] }, 1)
        else (cat (bytesOf [Value.int IntKind.u8 (IntKind.u8.wrap (IntKind.i64.wrap (code.tdiv 256))), Value.int IntKind.u8 (IntKind.u8.wrap (code.tmod 256))]) s, 0)
def rcbytes_S0 (code : Int) (s : ByteArray) : Prop :=
  ((code == 1005) = true → ((toL s == []) = true → True) ∧
    ((toL s == []) = false → ((!mayP code) = true → rmayc_pre code) ∧
      ((!mayP code) = false → ((decide (123 < (↑(slen s) : Int))) = true → rmayc_pre code) ∧
        ((decide (123 < (↑(slen s) : Int))) = false → ((!textD s) = true → (textc_pre s) ∧ (rmayc_pre code)) ∧
          ((!textD s) = false → (slen (bytesOf [Value.int IntKind.u8 (IntKind.u8.wrap (IntKind.i64.wrap (code.tdiv 256))), Value.int IntKind.u8 (IntKind.u8.wrap (code.tmod 256))]) + slen s ≤ 9223372036854775807) ∧ (textc_pre s) ∧ (rmayc_pre code)))))) ∧
  ((code == 1005) = false → ((!mayP code) = true → rmayc_pre code) ∧
    ((!mayP code) = false → ((decide (123 < (↑(slen s) : Int))) = true → rmayc_pre code) ∧
      ((decide (123 < (↑(slen s) : Int))) = false → ((!textD s) = true → (textc_pre s) ∧ (rmayc_pre code)) ∧
        ((!textD s) = false → (slen (bytesOf [Value.int IntKind.u8 (IntKind.u8.wrap (IntKind.i64.wrap (code.tdiv 256))), Value.int IntKind.u8 (IntKind.u8.wrap (code.tmod 256))]) + slen s ≤ 9223372036854775807) ∧ (textc_pre s) ∧ (rmayc_pre code)))))
theorem rcbytes_ok0 (code : Int) (s : ByteArray) (hS : rcbytes_S0 code s) : rcbytes_Q code s (startC E 12 ([Value.int IntKind.i64 code, Value.string s]) ([])) (rcbytes_t0 code s) := by
  unfold rcbytes_S0 at hS
  unfold rcbytes_t0
  refine cond_intro (P := rcbytes_Q code s (startC E 12 ([Value.int IntKind.i64 code, Value.string s]) ([]))) _ (fun h0 => ?_) (fun h0 => ?_)
  · skip
    refine cond_intro (P := rcbytes_Q code s (startC E 12 ([Value.int IntKind.i64 code, Value.string s]) ([]))) _ (fun h1 => ?_) (fun h1 => ?_)
    · skip
      exact ends_ofB KC2_ok (rcbytes_p0_0 code s) (andI (dT h1) (andI (dT h0) (rfl))) (by kernel_rfl) (Nat.le_of_ble_eq_true (by kernel_rfl)) (fun i hi => absurd hi (Nat.not_lt_zero _)) (fun i hi => absurd hi (Nat.not_lt_zero _))
    · skip
      refine cond_intro (P := rcbytes_Q code s (startC E 12 ([Value.int IntKind.i64 code, Value.string s]) ([]))) _ (fun h2 => ?_) (fun h2 => ?_)
      · skip
        exact ends_ofB KC2_ok (rcbytes_p0_2 code s) (andI (dT h2) (andI (eqA_self _) (andI (eqH_self _) (andI (pdec_iff.2 (((hS.1 h0).2 h1).1 h2)) (andI (dF h1) (andI (dT h0) (rfl))))))) (by kernel_rfl) (Nat.le_of_ble_eq_true (by kernel_rfl)) (fun i hi => absurd hi (Nat.not_lt_zero _)) (fun i hi => absurd hi (Nat.not_lt_zero _))
      · skip
        refine cond_intro (P := rcbytes_Q code s (startC E 12 ([Value.int IntKind.i64 code, Value.string s]) ([]))) _ (fun h3 => ?_) (fun h3 => ?_)
        · skip
          exact ends_ofB KC2_ok (rcbytes_p0_4 code s) (andI (dT h3) (andI (dF h2) (andI (eqA_self _) (andI (eqH_self _) (andI (pdec_iff.2 ((((hS.1 h0).2 h1).2 h2).1 h3)) (andI (dF h1) (andI (dT h0) (rfl)))))))) (by kernel_rfl) (Nat.le_of_ble_eq_true (by kernel_rfl)) (fun i hi => absurd hi (Nat.not_lt_zero _)) (fun i hi => absurd hi (Nat.not_lt_zero _))
        · skip
          refine cond_intro (P := rcbytes_Q code s (startC E 12 ([Value.int IntKind.i64 code, Value.string s]) ([]))) _ (fun h4 => ?_) (fun h4 => ?_)
          · skip
            exact ends_ofB KC2_ok (rcbytes_p0_6 code s) (andI (dT h4) (andI (eqA_self _) (andI (eqH_self _) (andI (pdec_iff.2 (((((hS.1 h0).2 h1).2 h2).2 h3).1 h4).1) (andI (dF h3) (andI (dF h2) (andI (eqA_self _) (andI (eqH_self _) (andI (pdec_iff.2 (((((hS.1 h0).2 h1).2 h2).2 h3).1 h4).2) (andI (dF h1) (andI (dT h0) (rfl)))))))))))) (by kernel_rfl) (Nat.le_of_ble_eq_true (by kernel_rfl)) (fun i hi => absurd hi (Nat.not_lt_zero _)) (fun i hi => absurd hi (Nat.not_lt_zero _))
          · skip
            exact ends_ofB KC2_ok (rcbytes_p0_8 code s) (andI (decide_eq_true (((((hS.1 h0).2 h1).2 h2).2 h3).2 h4).1) (andI (dF h4) (andI (eqA_self _) (andI (eqH_self _) (andI (pdec_iff.2 (((((hS.1 h0).2 h1).2 h2).2 h3).2 h4).2.1) (andI (dF h3) (andI (dF h2) (andI (eqA_self _) (andI (eqH_self _) (andI (pdec_iff.2 (((((hS.1 h0).2 h1).2 h2).2 h3).2 h4).2.2) (andI (dF h1) (andI (dT h0) (rfl))))))))))))) (by kernel_rfl) (Nat.le_of_ble_eq_true (by kernel_rfl)) (fun i hi => absurd hi (Nat.not_lt_zero _)) (fun i hi => absurd hi (Nat.not_lt_zero _))
  · skip
    refine cond_intro (P := rcbytes_Q code s (startC E 12 ([Value.int IntKind.i64 code, Value.string s]) ([]))) _ (fun h2 => ?_) (fun h2 => ?_)
    · skip
      exact ends_ofB KC2_ok (rcbytes_p0_1 code s) (andI (dT h2) (andI (eqA_self _) (andI (eqH_self _) (andI (pdec_iff.2 ((hS.2 h0).1 h2)) (andI (dF h0) (rfl)))))) (by kernel_rfl) (Nat.le_of_ble_eq_true (by kernel_rfl)) (fun i hi => absurd hi (Nat.not_lt_zero _)) (fun i hi => absurd hi (Nat.not_lt_zero _))
    · skip
      refine cond_intro (P := rcbytes_Q code s (startC E 12 ([Value.int IntKind.i64 code, Value.string s]) ([]))) _ (fun h3 => ?_) (fun h3 => ?_)
      · skip
        exact ends_ofB KC2_ok (rcbytes_p0_3 code s) (andI (dT h3) (andI (dF h2) (andI (eqA_self _) (andI (eqH_self _) (andI (pdec_iff.2 (((hS.2 h0).2 h2).1 h3)) (andI (dF h0) (rfl))))))) (by kernel_rfl) (Nat.le_of_ble_eq_true (by kernel_rfl)) (fun i hi => absurd hi (Nat.not_lt_zero _)) (fun i hi => absurd hi (Nat.not_lt_zero _))
      · skip
        refine cond_intro (P := rcbytes_Q code s (startC E 12 ([Value.int IntKind.i64 code, Value.string s]) ([]))) _ (fun h4 => ?_) (fun h4 => ?_)
        · skip
          exact ends_ofB KC2_ok (rcbytes_p0_5 code s) (andI (dT h4) (andI (eqA_self _) (andI (eqH_self _) (andI (pdec_iff.2 ((((hS.2 h0).2 h2).2 h3).1 h4).1) (andI (dF h3) (andI (dF h2) (andI (eqA_self _) (andI (eqH_self _) (andI (pdec_iff.2 ((((hS.2 h0).2 h2).2 h3).1 h4).2) (andI (dF h0) (rfl))))))))))) (by kernel_rfl) (Nat.le_of_ble_eq_true (by kernel_rfl)) (fun i hi => absurd hi (Nat.not_lt_zero _)) (fun i hi => absurd hi (Nat.not_lt_zero _))
        · skip
          exact ends_ofB KC2_ok (rcbytes_p0_7 code s) (andI (decide_eq_true ((((hS.2 h0).2 h2).2 h3).2 h4).1) (andI (dF h4) (andI (eqA_self _) (andI (eqH_self _) (andI (pdec_iff.2 ((((hS.2 h0).2 h2).2 h3).2 h4).2.1) (andI (dF h3) (andI (dF h2) (andI (eqA_self _) (andI (eqH_self _) (andI (pdec_iff.2 ((((hS.2 h0).2 h2).2 h3).2 h4).2.2) (andI (dF h0) (rfl)))))))))))) (by kernel_rfl) (Nat.le_of_ble_eq_true (by kernel_rfl)) (fun i hi => absurd hi (Nat.not_lt_zero _)) (fun i hi => absurd hi (Nat.not_lt_zero _))
theorem rcbytes_call (code : Int) (s : ByteArray) (hS : rcbytes_S0 code s) : CallOk E 12 ([Value.int IntKind.i64 code, Value.string s]) ([]) (rcbytes_V code s (rcbytes_t0 code s)) (rcbytes_H code s (rcbytes_t0 code s)) := callOk_of_ends (rcbytes_ok0 code s hS) (by kernel_rfl) (Nat.le_of_ble_eq_true (by kernel_rfl))
def rcbytes_ex (a : List Value) (h : Heap) : Int × ByteArray := ((toInt (a.getD 0 undef)), (toStr (a.getD 1 undef)))
noncomputable def rcbytes_k : Ct := kP rcbytes_ex (fun x => [Value.int IntKind.i64 x.1, Value.string x.2]) (fun x => []) (fun x => rcbytes_S0 (x.1) (x.2)) (fun x => rcbytes_V (x.1) (x.2) (rcbytes_t0 (x.1) (x.2))) (fun x => rcbytes_H (x.1) (x.2) (rcbytes_t0 (x.1) (x.2)))
theorem rcbytes_k_ok : KFor E 12 rcbytes_k := kP_ok (fun x hx => rcbytes_call (x.1) (x.2) hx)


end Go.Proofs.Ytnimmocgnimdiaa
