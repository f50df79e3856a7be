/-
  A Close's data: the program's and the document's are the same; the statements as plain functions.
-/
import Derived.Test.YtnimmocgnimdiaaClosingC
set_option linter.unusedVariables false
set_option linter.unusedSimpArgs false
open Go Go.Am
namespace Go.Proofs.Ytnimmocgnimdiaa

theorem rcread_val (s : ByteArray) (hs : slen s ≤ 1000000) : rcread_S0 s ∧ rcread_t0 s = cdT s := by
  have h0 := chr_bd s 0
  have h1 := chr_bd s 1
  have e0 : IntKind.i64.wrap (chr s 0) = chr s 0 := wrap64_in (by omega) (by omega)
  have e1 : IntKind.i64.wrap (chr s 1) = chr s 1 := wrap64_in (by omega) (by omega)
  have e2 : IntKind.i64.wrap (256 * chr s 0) = 256 * chr s 0 := wrap64_in (by omega) (by omega)
  have e3 : IntKind.i64.wrap (256 * chr s 0 + chr s 1) = 256 * chr s 0 + chr s 1 := wrap64_in (by omega) (by omega)
  have v : textc_pre (sub s 2 (slen s)) := by unfold textc_pre; rw [slen_sub]; omega
  have m (c : Int) : rmayc_pre c := trivial
  have e5 : (toL s == ([] : List UInt8)) = decide (slen s = 0) := by unfold slen; cases toL s <;> simp
  have e6 : ((slen s : Int) == 1) = decide (slen s = 1) := by by_cases h : slen s = 1 <;> simp [h]; omega
  unfold rcread_S0 rcread_t0 cdT
  simp only [e0, e1, e2, e3, e5, e6, v, m]
  by_cases c0 : slen s = 0
  · simp [c0]
  by_cases c1 : slen s = 1
  · simp [c1]
  rw [if_neg c0, if_neg c1, decide_eq_false c0, decide_eq_false c1]
  unfold codeOf
  refine ⟨by simp; omega, ?_⟩
  cases mayP (256 * chr s 0 + chr s 1) <;> cases textD (sub s 2 (slen s)) <;> rfl
theorem rcbytes_val (code : Int) (s : ByteArray) (hs : slen s ≤ 1000000) : rcbytes_S0 code s ∧ rcbytes_t0 code s = cbT code s := by
  have v : textc_pre s := by unfold textc_pre; omega
  have m (c : Int) : rmayc_pre c := trivial
  have q (a b : Value) : slen (bytesOf [a, b]) + slen s ≤ 9223372036854775807 := by rw [bytesOf_len]; show 2 + slen s ≤ _; omega
  have e4 : decide (123 < (slen s : Int)) = !decide (slen s ≤ 123) := by by_cases h : slen s ≤ 123 <;> simp [h] <;> omega
  have e6 : (code == 1005) = decide (code = 1005) := by by_cases h : code = 1005 <;> simp [h]
  have e5 : (toL s == ([] : List UInt8)) = decide (toL s = []) := by cases toL s <;> simp
  have hb : mayP code = true → IntKind.u8.wrap (IntKind.i64.wrap (code.tdiv 256)) = code / 256 ∧ IntKind.u8.wrap (code.tmod 256) = code % 256 := by
    intro h
    have := mayP_bd h
    refine ⟨?_, ?_⟩
    · rw [Int.tdiv_eq_ediv_of_nonneg (by omega), wrap64_in (by omega) (by omega), wrapU8v]; omega
    · rw [Int.tmod_eq_emod_of_nonneg (by omega), wrapU8v]; omega
  unfold rcbytes_S0 rcbytes_t0 cbT
  simp only [v, m, q, e4, e5, e6]
  refine ⟨by simp, ?_⟩
  cases hm : mayP code with
  | true =>
    rw [(hb hm).1, (hb hm).2]
    generalize decide (slen s ≤ 123) = z
    by_cases c1 : code = 1005 <;> by_cases c2 : toL s = [] <;> cases z <;> cases textD s <;> simp [c1, c2]
  | false =>
    by_cases c1 : code = 1005 <;> by_cases c2 : toL s = [] <;> simp [c1, c2]

def rcreadc_pre (s : ByteArray) : Prop := slen s ≤ 1000000
def rcreadc_v (s : ByteArray) : Value := rcread_V s (cdT s)
def rcreadc_h (s : ByteArray) : Heap := []
theorem rcreadc_call (s : ByteArray) (h : rcreadc_pre s) : CallOk E 10 [.string s] [] (rcreadc_v s) (rcreadc_h s) := by
  have := rcread_call s (rcread_val s h).1
  unfold rcreadc_v rcreadc_h
  rw [← (rcread_val s h).2]
  exact this

def rcreadc_ex (a : List Value) (h : Heap) : ByteArray := (toStr (a.getD 0 undef))
noncomputable def rcreadc_k : Ct := kP rcreadc_ex (fun x => [Value.string x]) (fun x => []) (fun x => rcreadc_pre x) (fun x => rcreadc_v x) (fun x => rcreadc_h x)
theorem rcreadc_k_ok : KFor E 10 rcreadc_k := kP_ok (fun x hx => rcreadc_call x hx)


def rcbytesc_pre (code : Int) (s : ByteArray) : Prop := slen s ≤ 1000000
def rcbytesc_v (code : Int) (s : ByteArray) : Value := rcbytes_V code s (cbT code s)
def rcbytesc_h (code : Int) (s : ByteArray) : Heap := []
theorem rcbytesc_call (code : Int) (s : ByteArray) (h : rcbytesc_pre code s) : CallOk E 12 [.int .i64 code, .string s] [] (rcbytesc_v code s) (rcbytesc_h code s) := by
  have := rcbytes_call code s (rcbytes_val code s h).1
  unfold rcbytesc_v rcbytesc_h
  rw [← (rcbytes_val code s h).2]
  exact this

def rcbytesc_ex (a : List Value) (h : Heap) : Int × ByteArray := ((toInt (a.getD 0 undef)), (toStr (a.getD 1 undef)))
noncomputable def rcbytesc_k : Ct := kP rcbytesc_ex (fun x => [Value.int IntKind.i64 x.1, Value.string x.2]) (fun x => []) (fun x => rcbytesc_pre (x.1) (x.2)) (fun x => rcbytesc_v (x.1) (x.2)) (fun x => rcbytesc_h (x.1) (x.2))
theorem rcbytesc_k_ok : KFor E 12 rcbytesc_k := kP_ok (fun x hx => rcbytesc_call (x.1) (x.2) hx)


noncomputable def KD3 : Ctr := ctrOf E [(8, anyA, awake_k), (9, anyA, creadc_k), (11, anyA, cbytesc_k), (13, anyA, mayc_k), (10, anyA, rcreadc_k), (12, anyA, rcbytesc_k), (14, anyA, rmayc_k)]
theorem KD3_ok : KOk E KD3 := ctr_cons awake_k_ok (ctr_cons creadc_k_ok (ctr_cons cbytesc_k_ok (ctr_cons mayc_k_ok (ctr_cons rcreadc_k_ok (ctr_cons rcbytesc_k_ok (ctr_cons rmayc_k_ok ctr_nil))))))

abbrev creads_R : Type := Bool
def creads_V (s : ByteArray) (t : ByteArray) (code : Int) (r : Bool) : Value := Value.bool r
def creads_H (s : ByteArray) (t : ByteArray) (code : Int) (r : Bool) : Heap := []
noncomputable def creads_Q (s : ByteArray) (t : ByteArray) (code : Int) (C : Cfg) (r : creads_R) : Prop :=
  let p := r
  AEnds E 3 0 C (creads_V s t code p) (creads_H s t code p)
theorem creads_p0_0 (s : ByteArray) (t : ByteArray) (code : Int) : goFinB E KD3 2000 29 (some [false, true, true]) [] [6] [] (startC E 3 ([Value.string s, Value.string t, Value.int IntKind.i64 code]) ([])) = some (and ((decide (3000 < (↑(slen s) : Int))) == true) (and (eqA [] []) (and (eqH [] []) (and (pdec awake_S0) (true)))), Value.bool true, []) := by kernel_rfl
theorem creads_p0_1 (s : ByteArray) (t : ByteArray) (code : Int) : goFinB E KD3 2000 29 (some [false, false, true]) [] [6] [] (startC E 3 ([Value.string s, Value.string t, Value.int IntKind.i64 code]) ([])) = some (and ((decide (3000 < (↑(slen t) : Int))) == true) (and ((decide (3000 < (↑(slen s) : Int))) == false) (and (eqA [] []) (and (eqH [] []) (and (pdec awake_S0) (true))))), Value.bool true, []) := by kernel_rfl
theorem creads_p0_2 (s : ByteArray) (t : ByteArray) (code : Int) : goFinB E KD3 2000 106 (some [false, false, false, true, true, true, true, true]) [] [6] [] (startC E 3 ([Value.string s, Value.string t, Value.int IntKind.i64 code]) ([])) = some (and (eqA [Value.int IntKind.i64 code] [Value.int IntKind.i64 code]) (and (eqH [] []) (and (pdec (rmayc_pre code)) (and (eqA [Value.int IntKind.i64 code] [Value.int IntKind.i64 code]) (and (eqH [] []) (and (pdec (mayc_pre code)) (and (((cbT code t).snd == (cbT code t).snd) == true) (and ((toL (cbT code t).fst == toL (cbT code t).fst) == true) (and (((cdT s).snd.snd == (cdT s).snd.snd) == true) (and ((toL (cdT s).snd.fst == toL (cdT s).snd.fst) == true) (and (((cdT s).fst == (cdT s).fst) == true) (and (eqA [Value.int IntKind.i64 code, Value.string t] [Value.int IntKind.i64 code, Value.string t]) (and (eqH [] []) (and (pdec (rcbytesc_pre code t)) (and (eqA [Value.int IntKind.i64 code, Value.string t] [Value.int IntKind.i64 code, Value.string t]) (and (eqH [] []) (and (pdec (cbytesc_pre code t)) (and (eqA [Value.string s] [Value.string s]) (and (eqH [] []) (and (pdec (rcreadc_pre s)) (and (eqA [Value.string s] [Value.string s]) (and (eqH [] []) (and (pdec (creadc_pre s)) (and ((decide (3000 < (↑(slen t) : Int))) == false) (and ((decide (3000 < (↑(slen s) : Int))) == false) (and (eqA [] []) (and (eqH [] []) (and (pdec awake_S0) (true)))))))))))))))))))))))))))), Value.bool (mayP code == mayP code), []) := by kernel_rfl
theorem creads_p0_3 (s : ByteArray) (t : ByteArray) (code : Int) : goFinB E KD3 2000 106 (some [false, false, false, false, false, false, false, false]) [] [6] [] (startC E 3 ([Value.string s, Value.string t, Value.int IntKind.i64 code]) ([])) = some (and (((cdT s).fst == (cdT s).fst) == false) (and (eqA [Value.int IntKind.i64 code, Value.string t] [Value.int IntKind.i64 code, Value.string t]) (and (eqH [] []) (and (pdec (rcbytesc_pre code t)) (and (eqA [Value.int IntKind.i64 code, Value.string t] [Value.int IntKind.i64 code, Value.string t]) (and (eqH [] []) (and (pdec (cbytesc_pre code t)) (and (eqA [Value.string s] [Value.string s]) (and (eqH [] []) (and (pdec (rcreadc_pre s)) (and (eqA [Value.string s] [Value.string s]) (and (eqH [] []) (and (pdec (creadc_pre s)) (and ((decide (3000 < (↑(slen t) : Int))) == false) (and ((decide (3000 < (↑(slen s) : Int))) == false) (and (eqA [] []) (and (eqH [] []) (and (pdec awake_S0) (true)))))))))))))))))), Value.bool false, []) := by kernel_rfl
theorem creads_p0_4 (s : ByteArray) (t : ByteArray) (code : Int) : goFinB E KD3 2000 106 (some [false, false, false, true, false, false, false, false]) [] [6] [] (startC E 3 ([Value.string s, Value.string t, Value.int IntKind.i64 code]) ([])) = some (and ((toL (cdT s).snd.fst == toL (cdT s).snd.fst) == false) (and (((cdT s).fst == (cdT s).fst) == true) (and (eqA [Value.int IntKind.i64 code, Value.string t] [Value.int IntKind.i64 code, Value.string t]) (and (eqH [] []) (and (pdec (rcbytesc_pre code t)) (and (eqA [Value.int IntKind.i64 code, Value.string t] [Value.int IntKind.i64 code, Value.string t]) (and (eqH [] []) (and (pdec (cbytesc_pre code t)) (and (eqA [Value.string s] [Value.string s]) (and (eqH [] []) (and (pdec (rcreadc_pre s)) (and (eqA [Value.string s] [Value.string s]) (and (eqH [] []) (and (pdec (creadc_pre s)) (and ((decide (3000 < (↑(slen t) : Int))) == false) (and ((decide (3000 < (↑(slen s) : Int))) == false) (and (eqA [] []) (and (eqH [] []) (and (pdec awake_S0) (true))))))))))))))))))), Value.bool false, []) := by kernel_rfl
theorem creads_p0_5 (s : ByteArray) (t : ByteArray) (code : Int) : goFinB E KD3 2000 106 (some [false, false, false, true, true, false, false, false]) [] [6] [] (startC E 3 ([Value.string s, Value.string t, Value.int IntKind.i64 code]) ([])) = some (and (((cdT s).snd.snd == (cdT s).snd.snd) == false) (and ((toL (cdT s).snd.fst == toL (cdT s).snd.fst) == true) (and (((cdT s).fst == (cdT s).fst) == true) (and (eqA [Value.int IntKind.i64 code, Value.string t] [Value.int IntKind.i64 code, Value.string t]) (and (eqH [] []) (and (pdec (rcbytesc_pre code t)) (and (eqA [Value.int IntKind.i64 code, Value.string t] [Value.int IntKind.i64 code, Value.string t]) (and (eqH [] []) (and (pdec (cbytesc_pre code t)) (and (eqA [Value.string s] [Value.string s]) (and (eqH [] []) (and (pdec (rcreadc_pre s)) (and (eqA [Value.string s] [Value.string s]) (and (eqH [] []) (and (pdec (creadc_pre s)) (and ((decide (3000 < (↑(slen t) : Int))) == false) (and ((decide (3000 < (↑(slen s) : Int))) == false) (and (eqA [] []) (and (eqH [] []) (and (pdec awake_S0) (true)))))))))))))))))))), Value.bool false, []) := by kernel_rfl
theorem creads_p0_6 (s : ByteArray) (t : ByteArray) (code : Int) : goFinB E KD3 2000 106 (some [false, false, false, true, true, true, false, false]) [] [6] [] (startC E 3 ([Value.string s, Value.string t, Value.int IntKind.i64 code]) ([])) = some (and ((toL (cbT code t).fst == toL (cbT code t).fst) == false) (and (((cdT s).snd.snd == (cdT s).snd.snd) == true) (and ((toL (cdT s).snd.fst == toL (cdT s).snd.fst) == true) (and (((cdT s).fst == (cdT s).fst) == true) (and (eqA [Value.int IntKind.i64 code, Value.string t] [Value.int IntKind.i64 code, Value.string t]) (and (eqH [] []) (and (pdec (rcbytesc_pre code t)) (and (eqA [Value.int IntKind.i64 code, Value.string t] [Value.int IntKind.i64 code, Value.string t]) (and (eqH [] []) (and (pdec (cbytesc_pre code t)) (and (eqA [Value.string s] [Value.string s]) (and (eqH [] []) (and (pdec (rcreadc_pre s)) (and (eqA [Value.string s] [Value.string s]) (and (eqH [] []) (and (pdec (creadc_pre s)) (and ((decide (3000 < (↑(slen t) : Int))) == false) (and ((decide (3000 < (↑(slen s) : Int))) == false) (and (eqA [] []) (and (eqH [] []) (and (pdec awake_S0) (true))))))))))))))))))))), Value.bool false, []) := by kernel_rfl
theorem creads_p0_7 (s : ByteArray) (t : ByteArray) (code : Int) : goFinB E KD3 2000 106 (some [false, false, false, true, true, true, true, false]) [] [6] [] (startC E 3 ([Value.string s, Value.string t, Value.int IntKind.i64 code]) ([])) = some (and (((cbT code t).snd == (cbT code t).snd) == false) (and ((toL (cbT code t).fst == toL (cbT code t).fst) == true) (and (((cdT s).snd.snd == (cdT s).snd.snd) == true) (and ((toL (cdT s).snd.fst == toL (cdT s).snd.fst) == true) (and (((cdT s).fst == (cdT s).fst) == true) (and (eqA [Value.int IntKind.i64 code, Value.string t] [Value.int IntKind.i64 code, Value.string t]) (and (eqH [] []) (and (pdec (rcbytesc_pre code t)) (and (eqA [Value.int IntKind.i64 code, Value.string t] [Value.int IntKind.i64 code, Value.string t]) (and (eqH [] []) (and (pdec (cbytesc_pre code t)) (and (eqA [Value.string s] [Value.string s]) (and (eqH [] []) (and (pdec (rcreadc_pre s)) (and (eqA [Value.string s] [Value.string s]) (and (eqH [] []) (and (pdec (creadc_pre s)) (and ((decide (3000 < (↑(slen t) : Int))) == false) (and ((decide (3000 < (↑(slen s) : Int))) == false) (and (eqA [] []) (and (eqH [] []) (and (pdec awake_S0) (true)))))))))))))))))))))), Value.bool false, []) := by kernel_rfl
def creads_t0 (s : ByteArray) (t : ByteArray) (code : Int) : creads_R :=
  bif decide (3000 < (↑(slen s) : Int)) then true
  else bif decide (3000 < (↑(slen t) : Int)) then true
    else bif (cdT s).fst == (cdT s).fst then bif toL (cdT s).snd.fst == toL (cdT s).snd.fst then bif (cdT s).snd.snd == (cdT s).snd.snd then bif toL (cbT code t).fst == toL (cbT code t).fst then bif (cbT code t).snd == (cbT code t).snd then mayP code == mayP code
              else false
            else false
          else false
        else false
      else false
def creads_S0 (s : ByteArray) (t : ByteArray) (code : Int) : Prop :=
  ((decide (3000 < (↑(slen s) : Int))) = true → awake_S0) ∧
  ((decide (3000 < (↑(slen s) : Int))) = false → ((decide (3000 < (↑(slen t) : Int))) = true → awake_S0) ∧
    ((decide (3000 < (↑(slen t) : Int))) = false → (((cdT s).fst == (cdT s).fst) = true → ((toL (cdT s).snd.fst == toL (cdT s).snd.fst) = true → (((cdT s).snd.snd == (cdT s).snd.snd) = true → ((toL (cbT code t).fst == toL (cbT code t).fst) = true → (((cbT code t).snd == (cbT code t).snd) = true → (rmayc_pre code) ∧ (mayc_pre code) ∧ (rcbytesc_pre code t) ∧ (cbytesc_pre code t) ∧ (rcreadc_pre s) ∧ (creadc_pre s) ∧ (awake_S0)) ∧
              (((cbT code t).snd == (cbT code t).snd) = false → (rcbytesc_pre code t) ∧ (cbytesc_pre code t) ∧ (rcreadc_pre s) ∧ (creadc_pre s) ∧ (awake_S0))) ∧
            ((toL (cbT code t).fst == toL (cbT code t).fst) = false → (rcbytesc_pre code t) ∧ (cbytesc_pre code t) ∧ (rcreadc_pre s) ∧ (creadc_pre s) ∧ (awake_S0))) ∧
          (((cdT s).snd.snd == (cdT s).snd.snd) = false → (rcbytesc_pre code t) ∧ (cbytesc_pre code t) ∧ (rcreadc_pre s) ∧ (creadc_pre s) ∧ (awake_S0))) ∧
        ((toL (cdT s).snd.fst == toL (cdT s).snd.fst) = false → (rcbytesc_pre code t) ∧ (cbytesc_pre code t) ∧ (rcreadc_pre s) ∧ (creadc_pre s) ∧ (awake_S0))) ∧
      (((cdT s).fst == (cdT s).fst) = false → (rcbytesc_pre code t) ∧ (cbytesc_pre code t) ∧ (rcreadc_pre s) ∧ (creadc_pre s) ∧ (awake_S0))))
theorem creads_ok0 (s : ByteArray) (t : ByteArray) (code : Int) (hS : creads_S0 s t code) : creads_Q s t code (startC E 3 ([Value.string s, Value.string t, Value.int IntKind.i64 code]) ([])) (creads_t0 s t code) := by
  unfold creads_S0 at hS
  unfold creads_t0
  refine cond_intro (P := creads_Q s t code (startC E 3 ([Value.string s, Value.string t, Value.int IntKind.i64 code]) ([]))) _ (fun h1 => ?_) (fun h1 => ?_)
  · skip
    exact ends_ofB KD3_ok (creads_p0_0 s t code) (andI (dT h1) (andI (eqA_self _) (andI (eqH_self _) (andI (pdec_iff.2 (hS.1 h1)) (rfl))))) (by kernel_rfl) (Nat.le_of_ble_eq_true (by kernel_rfl)) (fun i hi => absurd hi (Nat.not_lt_zero _)) (fun i hi => absurd hi (Nat.not_lt_zero _))
  · skip
    refine cond_intro (P := creads_Q s t code (startC E 3 ([Value.string s, Value.string t, Value.int IntKind.i64 code]) ([]))) _ (fun h2 => ?_) (fun h2 => ?_)
    · skip
      exact ends_ofB KD3_ok (creads_p0_1 s t code) (andI (dT h2) (andI (dF h1) (andI (eqA_self _) (andI (eqH_self _) (andI (pdec_iff.2 ((hS.2 h1).1 h2)) (rfl)))))) (by kernel_rfl) (Nat.le_of_ble_eq_true (by kernel_rfl)) (fun i hi => absurd hi (Nat.not_lt_zero _)) (fun i hi => absurd hi (Nat.not_lt_zero _))
    · skip
      refine cond_intro (P := creads_Q s t code (startC E 3 ([Value.string s, Value.string t, Value.int IntKind.i64 code]) ([]))) _ (fun h3 => ?_) (fun h3 => ?_)
      · skip
        refine cond_intro (P := creads_Q s t code (startC E 3 ([Value.string s, Value.string t, Value.int IntKind.i64 code]) ([]))) _ (fun h4 => ?_) (fun h4 => ?_)
        · skip
          refine cond_intro (P := creads_Q s t code (startC E 3 ([Value.string s, Value.string t, Value.int IntKind.i64 code]) ([]))) _ (fun h5 => ?_) (fun h5 => ?_)
          · skip
            refine cond_intro (P := creads_Q s t code (startC E 3 ([Value.string s, Value.string t, Value.int IntKind.i64 code]) ([]))) _ (fun h6 => ?_) (fun h6 => ?_)
            · skip
              refine cond_intro (P := creads_Q s t code (startC E 3 ([Value.string s, Value.string t, Value.int IntKind.i64 code]) ([]))) _ (fun h7 => ?_) (fun h7 => ?_)
              · skip
                exact ends_ofB KD3_ok (creads_p0_2 s t code) (andI (eqA_self _) (andI (eqH_self _) (andI (pdec_iff.2 (((((((hS.2 h1).2 h2).1 h3).1 h4).1 h5).1 h6).1 h7).1) (andI (eqA_self _) (andI (eqH_self _) (andI (pdec_iff.2 (((((((hS.2 h1).2 h2).1 h3).1 h4).1 h5).1 h6).1 h7).2.1) (andI (dT h7) (andI (dT h6) (andI (dT h5) (andI (dT h4) (andI (dT h3) (andI (eqA_self _) (andI (eqH_self _) (andI (pdec_iff.2 (((((((hS.2 h1).2 h2).1 h3).1 h4).1 h5).1 h6).1 h7).2.2.1) (andI (eqA_self _) (andI (eqH_self _) (andI (pdec_iff.2 (((((((hS.2 h1).2 h2).1 h3).1 h4).1 h5).1 h6).1 h7).2.2.2.1) (andI (eqA_self _) (andI (eqH_self _) (andI (pdec_iff.2 (((((((hS.2 h1).2 h2).1 h3).1 h4).1 h5).1 h6).1 h7).2.2.2.2.1) (andI (eqA_self _) (andI (eqH_self _) (andI (pdec_iff.2 (((((((hS.2 h1).2 h2).1 h3).1 h4).1 h5).1 h6).1 h7).2.2.2.2.2.1) (andI (dF h2) (andI (dF h1) (andI (eqA_self _) (andI (eqH_self _) (andI (pdec_iff.2 (((((((hS.2 h1).2 h2).1 h3).1 h4).1 h5).1 h6).1 h7).2.2.2.2.2.2) (rfl))))))))))))))))))))))))))))) (by kernel_rfl) (Nat.le_of_ble_eq_true (by kernel_rfl)) (fun i hi => absurd hi (Nat.not_lt_zero _)) (fun i hi => absurd hi (Nat.not_lt_zero _))
              · skip
                exact ends_ofB KD3_ok (creads_p0_7 s t code) (andI (dF h7) (andI (dT h6) (andI (dT h5) (andI (dT h4) (andI (dT h3) (andI (eqA_self _) (andI (eqH_self _) (andI (pdec_iff.2 (((((((hS.2 h1).2 h2).1 h3).1 h4).1 h5).1 h6).2 h7).1) (andI (eqA_self _) (andI (eqH_self _) (andI (pdec_iff.2 (((((((hS.2 h1).2 h2).1 h3).1 h4).1 h5).1 h6).2 h7).2.1) (andI (eqA_self _) (andI (eqH_self _) (andI (pdec_iff.2 (((((((hS.2 h1).2 h2).1 h3).1 h4).1 h5).1 h6).2 h7).2.2.1) (andI (eqA_self _) (andI (eqH_self _) (andI (pdec_iff.2 (((((((hS.2 h1).2 h2).1 h3).1 h4).1 h5).1 h6).2 h7).2.2.2.1) (andI (dF h2) (andI (dF h1) (andI (eqA_self _) (andI (eqH_self _) (andI (pdec_iff.2 (((((((hS.2 h1).2 h2).1 h3).1 h4).1 h5).1 h6).2 h7).2.2.2.2) (rfl))))))))))))))))))))))) (by kernel_rfl) (Nat.le_of_ble_eq_true (by kernel_rfl)) (fun i hi => absurd hi (Nat.not_lt_zero _)) (fun i hi => absurd hi (Nat.not_lt_zero _))
            · skip
              exact ends_ofB KD3_ok (creads_p0_6 s t code) (andI (dF h6) (andI (dT h5) (andI (dT h4) (andI (dT h3) (andI (eqA_self _) (andI (eqH_self _) (andI (pdec_iff.2 ((((((hS.2 h1).2 h2).1 h3).1 h4).1 h5).2 h6).1) (andI (eqA_self _) (andI (eqH_self _) (andI (pdec_iff.2 ((((((hS.2 h1).2 h2).1 h3).1 h4).1 h5).2 h6).2.1) (andI (eqA_self _) (andI (eqH_self _) (andI (pdec_iff.2 ((((((hS.2 h1).2 h2).1 h3).1 h4).1 h5).2 h6).2.2.1) (andI (eqA_self _) (andI (eqH_self _) (andI (pdec_iff.2 ((((((hS.2 h1).2 h2).1 h3).1 h4).1 h5).2 h6).2.2.2.1) (andI (dF h2) (andI (dF h1) (andI (eqA_self _) (andI (eqH_self _) (andI (pdec_iff.2 ((((((hS.2 h1).2 h2).1 h3).1 h4).1 h5).2 h6).2.2.2.2) (rfl)))))))))))))))))))))) (by kernel_rfl) (Nat.le_of_ble_eq_true (by kernel_rfl)) (fun i hi => absurd hi (Nat.not_lt_zero _)) (fun i hi => absurd hi (Nat.not_lt_zero _))
          · skip
            exact ends_ofB KD3_ok (creads_p0_5 s t code) (andI (dF h5) (andI (dT h4) (andI (dT h3) (andI (eqA_self _) (andI (eqH_self _) (andI (pdec_iff.2 (((((hS.2 h1).2 h2).1 h3).1 h4).2 h5).1) (andI (eqA_self _) (andI (eqH_self _) (andI (pdec_iff.2 (((((hS.2 h1).2 h2).1 h3).1 h4).2 h5).2.1) (andI (eqA_self _) (andI (eqH_self _) (andI (pdec_iff.2 (((((hS.2 h1).2 h2).1 h3).1 h4).2 h5).2.2.1) (andI (eqA_self _) (andI (eqH_self _) (andI (pdec_iff.2 (((((hS.2 h1).2 h2).1 h3).1 h4).2 h5).2.2.2.1) (andI (dF h2) (andI (dF h1) (andI (eqA_self _) (andI (eqH_self _) (andI (pdec_iff.2 (((((hS.2 h1).2 h2).1 h3).1 h4).2 h5).2.2.2.2) (rfl))))))))))))))))))))) (by kernel_rfl) (Nat.le_of_ble_eq_true (by kernel_rfl)) (fun i hi => absurd hi (Nat.not_lt_zero _)) (fun i hi => absurd hi (Nat.not_lt_zero _))
        · skip
          exact ends_ofB KD3_ok (creads_p0_4 s t code) (andI (dF h4) (andI (dT h3) (andI (eqA_self _) (andI (eqH_self _) (andI (pdec_iff.2 ((((hS.2 h1).2 h2).1 h3).2 h4).1) (andI (eqA_self _) (andI (eqH_self _) (andI (pdec_iff.2 ((((hS.2 h1).2 h2).1 h3).2 h4).2.1) (andI (eqA_self _) (andI (eqH_self _) (andI (pdec_iff.2 ((((hS.2 h1).2 h2).1 h3).2 h4).2.2.1) (andI (eqA_self _) (andI (eqH_self _) (andI (pdec_iff.2 ((((hS.2 h1).2 h2).1 h3).2 h4).2.2.2.1) (andI (dF h2) (andI (dF h1) (andI (eqA_self _) (andI (eqH_self _) (andI (pdec_iff.2 ((((hS.2 h1).2 h2).1 h3).2 h4).2.2.2.2) (rfl)))))))))))))))))))) (by kernel_rfl) (Nat.le_of_ble_eq_true (by kernel_rfl)) (fun i hi => absurd hi (Nat.not_lt_zero _)) (fun i hi => absurd hi (Nat.not_lt_zero _))
      · skip
        exact ends_ofB KD3_ok (creads_p0_3 s t code) (andI (dF h3) (andI (eqA_self _) (andI (eqH_self _) (andI (pdec_iff.2 (((hS.2 h1).2 h2).2 h3).1) (andI (eqA_self _) (andI (eqH_self _) (andI (pdec_iff.2 (((hS.2 h1).2 h2).2 h3).2.1) (andI (eqA_self _) (andI (eqH_self _) (andI (pdec_iff.2 (((hS.2 h1).2 h2).2 h3).2.2.1) (andI (eqA_self _) (andI (eqH_self _) (andI (pdec_iff.2 (((hS.2 h1).2 h2).2 h3).2.2.2.1) (andI (dF h2) (andI (dF h1) (andI (eqA_self _) (andI (eqH_self _) (andI (pdec_iff.2 (((hS.2 h1).2 h2).2 h3).2.2.2.2) (rfl))))))))))))))))))) (by kernel_rfl) (Nat.le_of_ble_eq_true (by kernel_rfl)) (fun i hi => absurd hi (Nat.not_lt_zero _)) (fun i hi => absurd hi (Nat.not_lt_zero _))
theorem creads_call (s : ByteArray) (t : ByteArray) (code : Int) (hS : creads_S0 s t code) : CallOk E 3 ([Value.string s, Value.string t, Value.int IntKind.i64 code]) ([]) (creads_V s t code (creads_t0 s t code)) (creads_H s t code (creads_t0 s t code)) := callOk_of_ends (creads_ok0 s t code hS) (by kernel_rfl) (Nat.le_of_ble_eq_true (by kernel_rfl))
def creads_ex (a : List Value) (h : Heap) : ByteArray × ByteArray × Int := ((toStr (a.getD 0 undef)), (toStr (a.getD 1 undef)), (toInt (a.getD 2 undef)))
noncomputable def creads_k : Ct := kP creads_ex (fun x => [Value.string x.1, Value.string x.2.1, Value.int IntKind.i64 x.2.2]) (fun x => []) (fun x => creads_S0 (x.1) (x.2.1) (x.2.2)) (fun x => creads_V (x.1) (x.2.1) (x.2.2) (creads_t0 (x.1) (x.2.1) (x.2.2))) (fun x => creads_H (x.1) (x.2.1) (x.2.2) (creads_t0 (x.1) (x.2.1) (x.2.2)))
theorem creads_k_ok : KFor E 3 creads_k := kP_ok (fun x hx => creads_call (x.1) (x.2.1) (x.2.2) hx)


theorem awake_safe : awake_S0 := by
  unfold awake_S0 creadc_pre cbytesc_pre mayc_pre
  refine ⟨trivial, trivial, by decide, by decide, by decide⟩
theorem creads_all (s t : ByteArray) (code : Int) : AEnds E 3 0 (startC E 3 [.string s, .string t, .int .i64 code] []) (.bool true) [] := by
  have ha := awake_safe
  by_cases c1 : 3000 < (slen s : Int)
  · have h := creads_ok0 s t code (by unfold creads_S0; rw [decide_eq_true c1]; simp [ha])
    unfold creads_t0 at h
    rw [decide_eq_true c1] at h
    exact h
  by_cases c2 : 3000 < (slen t : Int)
  · have h := creads_ok0 s t code (by unfold creads_S0; rw [decide_eq_false c1, decide_eq_true c2]; simp [ha])
    unfold creads_t0 at h
    rw [decide_eq_false c1, decide_eq_true c2] at h
    exact h
  have p1 : creadc_pre s := by unfold creadc_pre; omega
  have p2 : rcreadc_pre s := by unfold rcreadc_pre; omega
  have p3 : cbytesc_pre code t := by unfold cbytesc_pre; omega
  have p4 : rcbytesc_pre code t := by unfold rcbytesc_pre; omega
  have p5 : mayc_pre code := trivial
  have p6 : rmayc_pre code := trivial
  have h := creads_ok0 s t code (by unfold creads_S0; simp [ha, p1, p2, p3, p4, p5, p6])
  have ht : creads_t0 s t code = true := by
    unfold creads_t0
    rw [decide_eq_false c1, decide_eq_false c2]
    simp
  rw [ht] at h
  exact h
def creadsc_pre (s t : ByteArray) (code : Int) : Prop := True
def creadsc_v (s t : ByteArray) (code : Int) : Value := .bool true
def creadsc_h (s t : ByteArray) (code : Int) : Heap := []
theorem creadsc_call (s t : ByteArray) (code : Int) (h : creadsc_pre s t code) : CallOk E 3 [.string s, .string t, .int .i64 code] [] (creadsc_v s t code) (creadsc_h s t code) :=
  callOk_of_ends (creads_all s t code) (by kernel_rfl) (Nat.le_of_ble_eq_true (by kernel_rfl))

def creadsc_ex (a : List Value) (h : Heap) : ByteArray × ByteArray × Int := ((toStr (a.getD 0 undef)), (toStr (a.getD 1 undef)), (toInt (a.getD 2 undef)))
noncomputable def creadsc_k : Ct := kP creadsc_ex (fun x => [Value.string x.1, Value.string x.2.1, Value.int IntKind.i64 x.2.2]) (fun x => []) (fun x => creadsc_pre (x.1) (x.2.1) (x.2.2)) (fun x => creadsc_v (x.1) (x.2.1) (x.2.2)) (fun x => creadsc_h (x.1) (x.2.1) (x.2.2))
theorem creadsc_k_ok : KFor E 3 creadsc_k := kP_ok (fun x hx => creadsc_call (x.1) (x.2.1) (x.2.2) hx)


noncomputable def KD4 : Ctr := ctrOf E [(8, anyA, awake_k), (3, anyA, creadsc_k)]
theorem KD4_ok : KOk E KD4 := ctr_cons awake_k_ok (ctr_cons creadsc_k_ok ctr_nil)

noncomputable def ccodes_b1 (a : Int) (s : ByteArray) : Cfg := cfgOf (goNil E KD4 2000 28 (some [false, false]) [] [] [] [0, 1, 5] [] [] [] (startC E 4 ([Value.int IntKind.u8 a, Value.string s]) ([])))
noncomputable def ccodes_h1 (a : Int) (s : ByteArray) (t5 : Int) : Cfg := wTmp 5 (Value.int IntKind.i64 t5) (ccodes_b1 a s)
abbrev ccodes_R : Type := (Int) ⊕ (Unit)
def ccodes_V (a : Int) (s : ByteArray) (r : Unit) : Value := Value.bool true
def ccodes_H (a : Int) (s : ByteArray) (r : Unit) : Heap := []
noncomputable def ccodes_Q (a : Int) (s : ByteArray) (C : Cfg) (r : ccodes_R) : Prop :=
  match r with
  | .inl (p) => Gets E 0 C (ccodes_h1 a s p)
  | .inr (p) => AEnds E 4 0 C (ccodes_V a s p) (ccodes_H a s p)
theorem ccodes_go1 {a : Int} {s : ByteArray} {C : Cfg} {t5 : Int} (h : ccodes_Q a s C (.inl (t5))) : Gets E 0 C (ccodes_h1 a s t5) := h
theorem ccodes_end {a : Int} {s : ByteArray} {C : Cfg} {r : Unit} (h : ccodes_Q a s C (.inr (r))) : AEnds E 4 0 C (ccodes_V a s r) (ccodes_H a s r) := h
theorem ccodes_p0_0 (a : Int) (s : ByteArray) : goFinB E KD4 2000 24 (some [false, true]) [] [4] [] (startC E 4 ([Value.int IntKind.u8 a, Value.string s]) ([])) = some (and ((decide (200 < (↑(slen s) : Int))) == true) (and (eqA [] []) (and (eqH [] []) (and (pdec awake_S0) (true)))), Value.bool true, []) := by kernel_rfl
theorem ccodes_p0_1 (a : Int) (s : ByteArray) : goNilB E KD4 2000 28 (some [false, false]) [] [] [] [0, 1, 5] [] [] [] (startC E 4 ([Value.int IntKind.u8 a, Value.string s]) ([])) = some (and ((decide (200 < (↑(slen s) : Int))) == false) (and (eqA [] []) (and (eqH [] []) (and (pdec awake_S0) (true)))), ccodes_h1 a s (0)) := by kernel_rfl
def ccodes_t0 (a : Int) (s : ByteArray) : ccodes_R :=
  bif decide (200 < (↑(slen s) : Int)) then .inr (())
  else .inl (0)
def ccodes_S0 (a : Int) (s : ByteArray) : Prop :=
  ((decide (200 < (↑(slen s) : Int))) = true → awake_S0) ∧
  ((decide (200 < (↑(slen s) : Int))) = false → awake_S0)
theorem ccodes_ok0 (a : Int) (s : ByteArray) (hS : ccodes_S0 a s) : ccodes_Q a s (startC E 4 ([Value.int IntKind.u8 a, Value.string s]) ([])) (ccodes_t0 a s) := by
  unfold ccodes_S0 at hS
  unfold ccodes_t0
  refine cond_intro (P := ccodes_Q a s (startC E 4 ([Value.int IntKind.u8 a, Value.string s]) ([]))) _ (fun h1 => ?_) (fun h1 => ?_)
  · skip
    exact ends_ofB KD4_ok (ccodes_p0_0 a s) (andI (dT h1) (andI (eqA_self _) (andI (eqH_self _) (andI (pdec_iff.2 (hS.1 h1)) (rfl))))) (by kernel_rfl) (Nat.le_of_ble_eq_true (by kernel_rfl)) (fun i hi => absurd hi (Nat.not_lt_zero _)) (fun i hi => absurd hi (Nat.not_lt_zero _))
  · skip
    show Gets E 0 _ (ccodes_h1 a s (0))
    exact reach_gb KD4_ok (ccodes_p0_1 a s) (andI (dF h1) (andI (eqA_self _) (andI (eqH_self _) (andI (pdec_iff.2 (hS.2 h1)) (rfl))))) (Nat.le_of_ble_eq_true (by kernel_rfl)) (fun i hi => absurd hi (Nat.not_lt_zero _)) (fun i hi => absurd hi (Nat.not_lt_zero _)) (Nat.le_of_ble_eq_true (by kernel_rfl))
theorem ccodes_p1_0 (a : Int) (s : ByteArray) (t5 : Int) : goNilB E KD4 2000 37 (some [true, false]) [] [] [] [0, 1, 5] [] [] [] (ccodes_h1 a s t5) = some (and (eqA [Value.string (cat (bytesOf [Value.int IntKind.u8 a, Value.int IntKind.u8 (IntKind.u8.wrap t5)]) s), Value.string s, Value.int IntKind.i64 (IntKind.i64.wrap (IntKind.i64.wrap (256 * IntKind.i64.wrap a) + t5))] [Value.string (cat (bytesOf [Value.int IntKind.u8 a, Value.int IntKind.u8 (IntKind.u8.wrap t5)]) s), Value.string s, Value.int IntKind.i64 (IntKind.i64.wrap (IntKind.i64.wrap (256 * IntKind.i64.wrap a) + t5))]) (and (eqH [] []) (and (pdec (creadsc_pre (cat (bytesOf [Value.int IntKind.u8 a, Value.int IntKind.u8 (IntKind.u8.wrap t5)]) s) s (IntKind.i64.wrap (IntKind.i64.wrap (256 * IntKind.i64.wrap a) + t5)))) (and (decide (slen (bytesOf [Value.int IntKind.u8 a, Value.int IntKind.u8 (IntKind.u8.wrap t5)]) + slen s ≤ 9223372036854775807)) (and ((decide (t5 < 256)) == true) (true))))), ccodes_h1 a s (IntKind.i64.wrap (t5 + 1))) := by kernel_rfl
theorem ccodes_p1_1 (a : Int) (s : ByteArray) (t5 : Int) : goFinB E KD4 2000 12 (some [false]) [] [4] [] (ccodes_h1 a s t5) = some (and ((decide (t5 < 256)) == false) (true), Value.bool true, []) := by kernel_rfl
def ccodes_t1 (a : Int) (s : ByteArray) (t5 : Int) : ccodes_R :=
  bif decide (t5 < 256) then .inl (IntKind.i64.wrap (t5 + 1))
  else .inr (())
def ccodes_S1 (a : Int) (s : ByteArray) (t5 : Int) : Prop :=
  ((decide (t5 < 256)) = true → (creadsc_pre (cat (bytesOf [Value.int IntKind.u8 a, Value.int IntKind.u8 (IntKind.u8.wrap t5)]) s) s (IntKind.i64.wrap (IntKind.i64.wrap (256 * IntKind.i64.wrap a) + t5))) ∧ (slen (bytesOf [Value.int IntKind.u8 a, Value.int IntKind.u8 (IntKind.u8.wrap t5)]) + slen s ≤ 9223372036854775807)) ∧
  ((decide (t5 < 256)) = false → True)
theorem ccodes_ok1 (a : Int) (s : ByteArray) (t5 : Int) (hS : ccodes_S1 a s t5) : ccodes_Q a s (ccodes_h1 a s t5) (ccodes_t1 a s t5) := by
  unfold ccodes_S1 at hS
  unfold ccodes_t1
  refine cond_intro (P := ccodes_Q a s (ccodes_h1 a s t5)) _ (fun h0 => ?_) (fun h0 => ?_)
  · skip
    show Gets E 0 _ (ccodes_h1 a s (IntKind.i64.wrap (t5 + 1)))
    exact reach_gb KD4_ok (ccodes_p1_0 a s t5) (andI (eqA_self _) (andI (eqH_self _) (andI (pdec_iff.2 (hS.1 h0).1) (andI (decide_eq_true (hS.1 h0).2) (andI (dT h0) (rfl)))))) (Nat.le_of_ble_eq_true (by kernel_rfl)) (fun i hi => absurd hi (Nat.not_lt_zero _)) (fun i hi => absurd hi (Nat.not_lt_zero _)) (Nat.le_of_ble_eq_true (by kernel_rfl))
  · skip
    exact ends_ofB KD4_ok (ccodes_p1_1 a s t5) (andI (dF h0) (rfl)) (by kernel_rfl) (Nat.le_of_ble_eq_true (by kernel_rfl)) (fun i hi => absurd hi (Nat.not_lt_zero _)) (fun i hi => absurd hi (Nat.not_lt_zero _))


end Go.Proofs.Ytnimmocgnimdiaa
