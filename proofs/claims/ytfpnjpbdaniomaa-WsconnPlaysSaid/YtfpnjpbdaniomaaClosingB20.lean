/-
  What a Close's data say: the program's, as a contract.
-/
import Derived.Test.YtfpnjpbdaniomaaAmSlim
import Derived.Test.YtfpnjpbdaniomaaUtfBb20
import Derived.Test.YtfpnjpbdaniomaaFrameD20
set_option linter.unusedVariables false
set_option linter.unusedSimpArgs false
open Go Go.Am
namespace Go.Proofs.Ytfpnjpbdaniomaa

def valid_ex (a : List Value) (h : Heap) : ByteArray := (toStr (a.getD 0 undef))
noncomputable def valid_k : Ct := kS valid_ex [.str] [] (fun x => valid_pre x) (fun x => valid_v x) (fun x => valid_h x)
theorem valid_k_ok : KFor E 11 valid_k := kS_ok (fun x hx => valid_call x hx) (fun _ _ => rfl) (fun _ _ => rfl)


abbrev cmay_R : Type := Bool
def cmay_V (c : Int) (r : Bool) : Value := .bool r
def cmay_H (c : Int) (r : Bool) : Heap := []
noncomputable def cmay_Q (c : Int) (C : Cfg) (r : cmay_R) : Prop :=
 let p := r
 AEnds E 64 0 C (cmay_V c p) (cmay_H c p)
noncomputable def cmay_t0 (c : Int) : cmay_R :=
 bif decide (1000 ≤ c) then bif decide (c ≤ 1003) then true
  else bif decide (1007 ≤ c) then bif decide (c ≤ 1014) then true
    else bif decide (3000 ≤ c) then bif decide (c ≤ 4999) then true
      else false
     else false
   else bif decide (3000 ≤ c) then bif decide (c ≤ 4999) then true
     else false
    else false
 else bif decide (1007 ≤ c) then bif decide (c ≤ 1014) then true
   else bif decide (3000 ≤ c) then bif decide (c ≤ 4999) then true
     else false
    else false
  else bif decide (3000 ≤ c) then bif decide (c ≤ 4999) then true
    else false
   else false
def cmay_S0 (c : Int) : Prop :=
 True
theorem cmay_ok0 (c : Int) (hS : cmay_S0 c) : cmay_Q c (startC E 64 ([.int .i64 c]) ([])) (cmay_t0 c) := by
 unfold cmay_S0 at hS
 unfold cmay_t0
 refine cond_intro (P := cmay_Q c (startC E 64 ([.int .i64 c]) ([]))) _ (fun h0 => ?_) (fun h0 => ?_)
 ·skip
  refine cond_intro (P := cmay_Q c (startC E 64 ([.int .i64 c]) ([]))) _ (fun h1 => ?_) (fun h1 => ?_)
  ·skip
   exact ends_q noK_ok 2000 24 (bs 3 7) [] [2] [] (andI (dT h1) (andI (dT h1) (andI (dT h0) rfl)))
  ·skip
   refine cond_intro (P := cmay_Q c (startC E 64 ([.int .i64 c]) ([]))) _ (fun h2 => ?_) (fun h2 => ?_)
   ·skip
    refine cond_intro (P := cmay_Q c (startC E 64 ([.int .i64 c]) ([]))) _ (fun h3 => ?_) (fun h3 => ?_)
    ·skip
     exact ends_q noK_ok 2000 35 (bs 5 29) [] [2] [] (andI (dT h3) (and4 (dT h3) (dT h2) (dF h1) (dT h0) rfl))
    ·skip
     refine cond_intro (P := cmay_Q c (startC E 64 ([.int .i64 c]) ([]))) _ (fun h4 => ?_) (fun h4 => ?_)
     ·skip
      refine cond_intro (P := cmay_Q c (startC E 64 ([.int .i64 c]) ([]))) _ (fun h5 => ?_) (fun h5 => ?_)
      ·skip
       exact ends_q noK_ok 2000 43 (bs 6 53) [] [2] [] (andI (dT h5) (andI (dT h4) (and4 (dF h3) (dT h2) (dF h1) (dT h0) rfl)))
      ·skip
       exact ends_q noK_ok 2000 45 (bs 6 21) [] [2] [] (andI (dF h5) (andI (dT h4) (and4 (dF h3) (dT h2) (dF h1) (dT h0) rfl)))
     ·skip
      exact ends_q noK_ok 2000 45 (bs 6 5) [] [2] [] (andI (dF h4) (and4 (dF h3) (dT h2) (dF h1) (dT h0) rfl))
   ·skip
    refine cond_intro (P := cmay_Q c (startC E 64 ([.int .i64 c]) ([]))) _ (fun h4 => ?_) (fun h4 => ?_)
    ·skip
     refine cond_intro (P := cmay_Q c (startC E 64 ([.int .i64 c]) ([]))) _ (fun h5 => ?_) (fun h5 => ?_)
     ·skip
      exact ends_q noK_ok 2000 43 (bs 6 49) [] [2] [] (andI (dT h5) (and4 (dT h4) (dF h2) (dF h1) (dT h0) rfl))
     ·skip
      exact ends_q noK_ok 2000 45 (bs 6 17) [] [2] [] (andI (dF h5) (and4 (dT h4) (dF h2) (dF h1) (dT h0) rfl))
    ·skip
     exact ends_q noK_ok 2000 45 (bs 6 1) [] [2] [] (and4 (dF h4) (dF h2) (dF h1) (dT h0) rfl)
 ·skip
  refine cond_intro (P := cmay_Q c (startC E 64 ([.int .i64 c]) ([]))) _ (fun h2 => ?_) (fun h2 => ?_)
  ·skip
   refine cond_intro (P := cmay_Q c (startC E 64 ([.int .i64 c]) ([]))) _ (fun h3 => ?_) (fun h3 => ?_)
   ·skip
    exact ends_q noK_ok 2000 35 (bs 5 28) [] [2] [] (and4 (dT h3) (dT h3) (dT h2) (dF h0) rfl)
   ·skip
    refine cond_intro (P := cmay_Q c (startC E 64 ([.int .i64 c]) ([]))) _ (fun h4 => ?_) (fun h4 => ?_)
    ·skip
     refine cond_intro (P := cmay_Q c (startC E 64 ([.int .i64 c]) ([]))) _ (fun h5 => ?_) (fun h5 => ?_)
     ·skip
      exact ends_q noK_ok 2000 43 (bs 6 52) [] [2] [] (andI (dT h5) (and4 (dT h4) (dF h3) (dT h2) (dF h0) rfl))
     ·skip
      exact ends_q noK_ok 2000 45 (bs 6 20) [] [2] [] (andI (dF h5) (and4 (dT h4) (dF h3) (dT h2) (dF h0) rfl))
    ·skip
     exact ends_q noK_ok 2000 45 (bs 6 4) [] [2] [] (and4 (dF h4) (dF h3) (dT h2) (dF h0) rfl)
  ·skip
   refine cond_intro (P := cmay_Q c (startC E 64 ([.int .i64 c]) ([]))) _ (fun h4 => ?_) (fun h4 => ?_)
   ·skip
    refine cond_intro (P := cmay_Q c (startC E 64 ([.int .i64 c]) ([]))) _ (fun h5 => ?_) (fun h5 => ?_)
    ·skip
     exact ends_q noK_ok 2000 43 (bs 6 48) [] [2] [] (and4 (dT h5) (dT h4) (dF h2) (dF h0) rfl)
    ·skip
     exact ends_q noK_ok 2000 45 (bs 6 16) [] [2] [] (and4 (dF h5) (dT h4) (dF h2) (dF h0) rfl)
   ·skip
    exact ends_q noK_ok 2000 45 (bs 6 0) [] [2] [] (andI (dF h4) (andI (dF h2) (andI (dF h0) rfl)))
theorem cmay_call (c : Int) (hS : cmay_S0 c) : CallOk E 64 ([.int .i64 c]) ([]) (cmay_V c (cmay_t0 c)) (cmay_H c (cmay_t0 c)) := callOk_of_ends (cmay_ok0 c hS) (by kernel_rfl) (Nat.le_of_ble_eq_true (by kernel_rfl))
def cmay_ex (a : List Value) (h : Heap) : Int := (toInt (a.getD 0 undef))
noncomputable def cmay_k : Ct := kS cmay_ex [.int .i64] [] (fun x => cmay_S0 x) (fun x => cmay_V x (cmay_t0 x)) (fun x => cmay_H x (cmay_t0 x))
theorem cmay_k_ok : KFor E 64 cmay_k := kS_ok (fun x hx => cmay_call x hx) (fun _ _ => rfl) (fun _ _ => rfl)


noncomputable def KCl : Ctr := ctrOf E [(11, anyA, valid_k), (64, anyA, cmay_k)]
theorem KCl_ok : KOk E KCl := ctr_cons valid_k_ok (ctr_cons cmay_k_ok ctr_nil)

abbrev cread_R : Type := Int × ByteArray × Int
def cread_V (s : ByteArray) (r : Int × ByteArray × Int) : Value := .tuple #[.int .i64 r.1, .string r.2.1, .int .i64 r.2.2]
def cread_H (s : ByteArray) (r : Int × ByteArray × Int) : Heap := []
noncomputable def cread_Q (s : ByteArray) (C : Cfg) (r : cread_R) : Prop :=
 let p := r
 AEnds E 57 0 C (cread_V s p) (cread_H s p)
noncomputable def cread_t0 (s : ByteArray) : cread_R :=
 bif ((slen s) : Int) == 0 then (1005, { data := #[] }, 0)
 else bif ((slen s) : Int) == 1 then (0, { data := #[] }, 1002)
  else bif !cmay_t0 (ior IntKind.i64 (ishl IntKind.i64 (IntKind.i64.wrap (chr s 0)) 8) (IntKind.i64.wrap (chr s 1))) then (0, { data := #[] }, 1002)
   else bif !wholeD (0, 0, 0, 0) (toL (sub s 2 (slen s))) then (0, { data := #[] }, 1007)
    else (ior IntKind.i64 (ishl IntKind.i64 (IntKind.i64.wrap (chr s 0)) 8) (IntKind.i64.wrap (chr s 1)), sub s 2 (slen s), 0)
def cread_S0 (s : ByteArray) : Prop :=
 ((((slen s) : Int) == 0) = true → True) ∧
 ((((slen s) : Int) == 0) = false → ((((slen s) : Int) == 1) = true → True) ∧
  ((((slen s) : Int) == 1) = false → ((!cmay_t0 (ior IntKind.i64 (ishl IntKind.i64 (IntKind.i64.wrap (chr s 0)) 8) (IntKind.i64.wrap (chr s 1)))) = true → (cmay_S0 (ior IntKind.i64 (ishl IntKind.i64 (IntKind.i64.wrap (chr s 0)) 8) (IntKind.i64.wrap (chr s 1)))) ∧ (2 ≤ slen s) ∧ (1 < ((slen s) : Int)) ∧ (0 < ((slen s) : Int))) ∧
   ((!cmay_t0 (ior IntKind.i64 (ishl IntKind.i64 (IntKind.i64.wrap (chr s 0)) 8) (IntKind.i64.wrap (chr s 1)))) = false → ((!wholeD (0, 0, 0, 0) (toL (sub s 2 (slen s)))) = true → (valid_pre (sub s 2 (slen s))) ∧ (cmay_S0 (ior IntKind.i64 (ishl IntKind.i64 (IntKind.i64.wrap (chr s 0)) 8) (IntKind.i64.wrap (chr s 1)))) ∧ (2 ≤ slen s) ∧ (1 < ((slen s) : Int)) ∧ (0 < ((slen s) : Int))) ∧
    ((!wholeD (0, 0, 0, 0) (toL (sub s 2 (slen s)))) = false → (valid_pre (sub s 2 (slen s))) ∧ (cmay_S0 (ior IntKind.i64 (ishl IntKind.i64 (IntKind.i64.wrap (chr s 0)) 8) (IntKind.i64.wrap (chr s 1)))) ∧ (2 ≤ slen s) ∧ (1 < ((slen s) : Int)) ∧ (0 < ((slen s) : Int))))))
theorem cread_ok0 (s : ByteArray) (hS : cread_S0 s) : cread_Q s (startC E 57 ([.string s]) ([])) (cread_t0 s) := by
 unfold cread_S0 at hS
 unfold cread_t0
 refine cond_intro (P := cread_Q s (startC E 57 ([.string s]) ([]))) _ (fun h0 => ?_) (fun h0 => ?_)
 ·skip
  exact ends_q KCl_ok 2000 25 (bs 1 1) [] [2, 3, 4] [] (andI (dT h0) rfl)
 ·skip
  refine cond_intro (P := cread_Q s (startC E 57 ([.string s]) ([]))) _ (fun h1 => ?_) (fun h1 => ?_)
  ·skip
   exact ends_q KCl_ok 2000 31 (bs 2 2) [] [2, 3, 4] [] (andI (dT h1) (andI (dF h0) rfl))
  ·skip
   refine cond_intro (P := cread_Q s (startC E 57 ([.string s]) ([]))) _ (fun h2 => ?_) (fun h2 => ?_)
   ·skip
    have z0 := ((hS.2 h0).2 h1).1 h2; exact ends_q KCl_ok 2000 45 (bs 3 4) [] [2, 3, 4] [] (andI (dT h2) (andI (pdec_iff.2 z0.1) (andI (decide_eq_true z0.2.1) (and4 (decide_eq_true z0.2.2.1) (decide_eq_true z0.2.2.2) (dF h1) (dF h0) rfl))))
   ·skip
    refine cond_intro (P := cread_Q s (startC E 57 ([.string s]) ([]))) _ (fun h3 => ?_) (fun h3 => ?_)
    ·skip
     have z0 := (((hS.2 h0).2 h1).2 h2).1 h3; exact ends_q KCl_ok 2000 53 (bs 4 8) [] [2, 3, 4] [] (and8 (dT h3) (pdec_iff.2 z0.1) (dF h2) (pdec_iff.2 z0.2.1) (decide_eq_true z0.2.2.1) (decide_eq_true z0.2.2.2.1) (decide_eq_true z0.2.2.2.2) (dF h1) (andI (dF h0) rfl))
    ·skip
     have z0 := (((hS.2 h0).2 h1).2 h2).2 h3; exact ends_q KCl_ok 2000 57 (bs 4 0) [] [2, 3, 4] [] (and8 (dF h3) (pdec_iff.2 z0.1) (dF h2) (pdec_iff.2 z0.2.1) (decide_eq_true z0.2.2.1) (decide_eq_true z0.2.2.2.1) (decide_eq_true z0.2.2.2.2) (dF h1) (andI (dF h0) rfl))
theorem cread_call (s : ByteArray) (hS : cread_S0 s) : CallOk E 57 ([.string s]) ([]) (cread_V s (cread_t0 s)) (cread_H s (cread_t0 s)) := callOk_of_ends (cread_ok0 s hS) (by kernel_rfl) (Nat.le_of_ble_eq_true (by kernel_rfl))
noncomputable def mayP (c : Int) : Bool := decide ((1000 ≤ c ∧ c ≤ 1003) ∨ (1007 ≤ c ∧ c ≤ 1014) ∨ (3000 ≤ c ∧ c ≤ 4999))
theorem cmay_val (c : Int) : cmay_t0 c = mayP c := by
 unfold cmay_t0 mayP
 simp only [Bool.cond_decide]
 rw [Bool.eq_iff_iff]
 simp only [decide_eq_true_eq]
 repeat' split
 all_goals simp
 all_goals omega
theorem code_or (a b : Int) (h0 : 0 ≤ a) (h1 : a < 256) (h2 : 0 ≤ b) (h3 : b < 256) : ior .i64 (ishl .i64 a 8) b = 256 * a + b := by
 have e : ishl .i64 a 8 = a * 256 := by
  unfold ishl
  rw [show min (8 : Int).toNat IntKind.i64.bits = 8 by decide, show (2 : Int) ^ 8 = 256 by decide, wrap64_in (by omega) (by omega)]
 rw [e]
 unfold ior
 rw [BitVec.toNat_or, show IntKind.i64.bits = 64 from rfl, BitVec.toNat_ofInt, BitVec.toNat_ofInt]
 obtain ⟨n, rfl⟩ : ∃ n : Nat, a = n := ⟨a.toNat, by omega⟩
 obtain ⟨m, rfl⟩ : ∃ n : Nat, b = n := ⟨b.toNat, by omega⟩
 have e1 : (((n : Int) * 256) % ((2 ^ 64 : Nat) : Int)).toNat = 2 ^ 8 * n := by
  rw [show ((2 ^ 64 : Nat) : Int) = 18446744073709551616 by decide]; omega
 have e2 : ((m : Int) % ((2 ^ 64 : Nat) : Int)).toNat = m := by
  rw [show ((2 ^ 64 : Nat) : Int) = 18446744073709551616 by decide]; omega
 rw [e1, e2, ← Nat.two_pow_add_eq_or_of_lt (by omega), wrap64_in (by omega) (by omega)]
 omega
noncomputable def textD (s : ByteArray) : Bool := wholeD (0, 0, 0, 0) (toL s)
noncomputable def codeOf (s : ByteArray) : Int := 256 * chr s 0 + chr s 1
noncomputable def cdT (s : ByteArray) : cread_R :=
 if slen s = 0 then (1005, ⟨#[]⟩, 0) else if slen s = 1 then (0, ⟨#[]⟩, 1002)
 else bif mayP (codeOf s) then bif textD (sub s 2 (slen s)) then (codeOf s, sub s 2 (slen s), 0) else (0, ⟨#[]⟩, 1007) else (0, ⟨#[]⟩, 1002)
theorem cread_val (s : ByteArray) (hs : slen s ≤ 1000000) : cread_S0 s ∧ cread_t0 s = cdT s := by
 have h0 := chr_bd s 0
 have h1 := chr_bd s 1
 have e0 : IntKind.i64.wrap (chr s 0) = chr s 0 := wrap64_in (by omega) (by omega)
 have e1 : IntKind.i64.wrap (chr s 1) = chr s 1 := wrap64_in (by omega) (by omega)
 have v : valid_pre (sub s 2 (slen s)) := by unfold valid_pre; rw [slen_sub]; omega
 have m (c : Int) : cmay_S0 c := trivial
 unfold cread_S0 cread_t0 cdT
 simp only [e0, e1, code_or _ _ h0.1 h0.2 h1.1 h1.2, cmay_val, v, m]
 by_cases c0 : slen s = 0
 ·simp [c0]
 by_cases c1 : slen s = 1
 ·simp [c1]
 have d0 : ((slen s : Int) == 0) = false := by simp; omega
 have d1 : ((slen s : Int) == 1) = false := by simp; omega
 rw [if_neg c0, if_neg c1, d0, d1]
 unfold codeOf textD
 refine ⟨by simp; omega, ?_⟩
 cases mayP (256 * chr s 0 + chr s 1) <;> cases wholeD (0, 0, 0, 0) (toL (sub s 2 (slen s))) <;> rfl

def creadc_pre (s : ByteArray) : Prop := slen s ≤ 1000000
noncomputable def creadc_v (s : ByteArray) : Value := cread_V s (cdT s)
def creadc_h (s : ByteArray) : Heap := []
theorem creadc_call (s : ByteArray) (h : creadc_pre s) : CallOk E 57 [.string s] [] (creadc_v s) (creadc_h s) := by
 have := cread_call s (cread_val s h).1
 unfold creadc_v creadc_h
 rw [← (cread_val s h).2]
 exact this

def creadc_ex (a : List Value) (h : Heap) : ByteArray := (toStr (a.getD 0 undef))
noncomputable def creadc_k : Ct := kS creadc_ex [.str] [] (fun x => creadc_pre x) (fun x => creadc_v x) (fun x => creadc_h x)
theorem creadc_k_ok : KFor E 57 creadc_k := kS_ok (fun x hx => creadc_call x hx) (fun _ _ => rfl) (fun _ _ => rfl)


end Go.Proofs.Ytfpnjpbdaniomaa
