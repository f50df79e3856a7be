/-
  Plain laws of a reader's step.
-/
import Derived.Test.YtfmcohbagbafmaaFramesB
set_option linter.unusedVariables false
set_option linter.unusedSimpArgs false
open Go Go.Am
namespace Go.Proofs.Ytfmcohbagbafmaa

theorem hN_bd (s : ByteArray) : 2 ≤ hN s ∧ hN s ≤ 14 := by
 unfold hN wd
 repeat' split
 all_goals omega
theorem hLen_bd (s : ByteArray) : 0 ≤ hLen s ∧ hLen s ≤ 18446744073709551615 := by
 have b2 := big2_bd s
 have b8 := big8_bd s
 have c := chr_bd s 1
 unfold hLen
 repeat' split
 all_goals omega
theorem hOk_le {s : ByteArray} (h : hOk s = true) : hN s ≤ slen s := by
 unfold hOk at h
 simp at h
 exact h.2
def opD (n : Int) : Bool := decide (n = 0 ∨ n = 1 ∨ n = 2 ∨ n = 8 ∨ n = 9 ∨ n = 10)
theorem op_val (n : Int) : op_t0 n = opD n := by
 unfold op_t0 opD
 by_cases h0 : n = 0
 ·simp [h0]
 by_cases h1 : n = 1
 ·simp [h1]
 by_cases h2 : n = 2
 ·simp [h2]
 by_cases h3 : n = 8
 ·simp [h3]
 by_cases h4 : n = 9
 ·simp [h4]
 by_cases h5 : n = 10
 ·simp [h5]
 have e0 : (n == 0) = false := by simpa using h0
 have e1 : (n == 1) = false := by simpa using h1
 have e2 : (n == 2) = false := by simpa using h2
 have e3 : (n == 8) = false := by simpa using h3
 have e4 : (n == 9) = false := by simpa using h4
 have e5 : (n == 10) = false := by simpa using h5
 rw [e0, e1, e2, e3, e4, e5]
 simp [h0, h1, h2, h3, h4, h5]
def mayD (masked ff : Bool) (fr fo : Int) (fm : Bool) (fl : Int) (flst : Bool) : Bool :=
 decide (fr = 0) && (opD fo && ((fm == masked) && ((decide (fo < 8) || (ff && decide (fl ≤ 125))) && (flst && decide (fl ≤ 9223372036854775807)))))
theorem may_val (masked : Bool) (state : Int) (inn : ByteArray) (hf : Bool) (hr ho : Int) (hm : Bool) (k0 k1 k2 k3 hl : Int) (hlst : Bool) (told : Int) (ff : Bool) (fr fo : Int) (fm : Bool) (f0 f1 f2 f3 fl : Int) (flst : Bool) :
  may_t0 masked state inn hf hr ho hm k0 k1 k2 k3 hl hlst told ff fr fo fm f0 f1 f2 f3 fl flst = mayD masked ff fr fo fm fl flst := by
 unfold may_t0 mayD
 have e0 : (fr == 0) = decide (fr = 0) := by by_cases h : fr = 0 <;> simp [h]
 simp only [op_val, e0]
 generalize decide (fr = 0) = a
 generalize opD fo = b
 generalize (fm == masked) = c
 generalize decide (fo < 8) = d
 generalize decide (fl ≤ 125) = e
 generalize decide (fl ≤ 9223372036854775807) = f
 cases a <;> cases b <;> cases c <;> cases d <;> cases e <;> cases f <;> cases ff <;> cases flst <;> rfl
def mayS (masked : Bool) (s : ByteArray) : Bool := mayD masked (decide (128 ≤ chr s 0)) (chr s 0 / 16 % 8) (chr s 0 % 16) (hMask s) (hLen s) (hLeast s)

abbrev RX : Type := Int × ByteArray × Bool × Int × Int × Bool × Int × Int × Int × Int × Int × Bool × Int
def xSt (x : RX) : Int := x.1
def xIn (x : RX) : ByteArray := x.2.1
def xHl (x : RX) : Int := x.2.2.2.2.2.2.2.2.2.2.1
def xTold (x : RX) : Int := x.2.2.2.2.2.2.2.2.2.2.2.2
def xKey (x : RX) : List Int := [x.2.2.2.2.2.2.1, x.2.2.2.2.2.2.2.1, x.2.2.2.2.2.2.2.2.1, x.2.2.2.2.2.2.2.2.2.1]
def xSet (x : RX) (st : Int) (inn : ByteArray) (told : Int) : RX := (st, inn, x.2.2.1, x.2.2.2.1, x.2.2.2.2.1, x.2.2.2.2.2.1, x.2.2.2.2.2.2.1, x.2.2.2.2.2.2.2.1, x.2.2.2.2.2.2.2.2.1, x.2.2.2.2.2.2.2.2.2.1, x.2.2.2.2.2.2.2.2.2.2.1, x.2.2.2.2.2.2.2.2.2.2.2.1, told)
def stp (m : Bool) (x : RX) : rstep_R := rstep_t0 m x.1 x.2.1 x.2.2.1 x.2.2.2.1 x.2.2.2.2.1 x.2.2.2.2.2.1 x.2.2.2.2.2.2.1 x.2.2.2.2.2.2.2.1 x.2.2.2.2.2.2.2.2.1 x.2.2.2.2.2.2.2.2.2.1 x.2.2.2.2.2.2.2.2.2.2.1 x.2.2.2.2.2.2.2.2.2.2.2.1 x.2.2.2.2.2.2.2.2.2.2.2.2
def stS (m : Bool) (x : RX) : Prop := rstep_S0 m x.1 x.2.1 x.2.2.1 x.2.2.2.1 x.2.2.2.2.1 x.2.2.2.2.2.1 x.2.2.2.2.2.2.1 x.2.2.2.2.2.2.2.1 x.2.2.2.2.2.2.2.2.1 x.2.2.2.2.2.2.2.2.2.1 x.2.2.2.2.2.2.2.2.2.2.1 x.2.2.2.2.2.2.2.2.2.2.2.1 x.2.2.2.2.2.2.2.2.2.2.2.2
def mkR (k o : Int) (f : Bool) (l : Int) (t : ByteArray) (ok : Bool) (x : RX) : rstep_R := (k, o, f, l, t, ok, x)
def xHead (s : ByteArray) : RX := (1, sub s (hN s).toNat (slen s), decide (128 ≤ chr s 0), chr s 0 / 16 % 8, chr s 0 % 16, hMask s, hKey s 0, hKey s 1, hKey s 2, hKey s 3, hLen s, hLeast s, 0)
def nOf (x : RX) : Nat := min (slen (xIn x)) (xHl x - xTold x).toNat
def stepT (m : Bool) (x : RX) : rstep_R :=
 if xSt x = 2 then mkR 0 0 false 0 ⟨#[]⟩ false x
 else if xSt x = 0 then
  bif !hOk (xIn x) then mkR 0 0 false 0 ⟨#[]⟩ false x
  else bif !mayS m (xIn x) then mkR 4 0 false 0 ⟨#[]⟩ true (xSet x 2 ⟨#[]⟩ (xTold x))
  else mkR 1 (chr (xIn x) 0 % 16) (decide (128 ≤ chr (xIn x) 0)) (hLen (xIn x)) ⟨#[]⟩ true (xHead (xIn x))
 else if xHl x = xTold x then mkR 3 0 false 0 ⟨#[]⟩ true (xSet x 0 (xIn x) (xTold x))
 else if slen (xIn x) = 0 then mkR 0 0 false 0 ⟨#[]⟩ false x
 else mkR 2 0 false 0 (maskD (xKey x) (xTold x) (sub (xIn x) 0 (nOf x))) true (xSet x (xSt x) (sub (xIn x) (nOf x) (slen (xIn x))) (xTold x + nOf x))
structure Inv (x : RX) : Prop where
 st : xSt x = 2 ∨ xSt x = 0 ∨ (xSt x = 1 ∧ 0 ≤ xTold x ∧ xTold x ≤ xHl x ∧ xHl x ≤ 9223372036854775807)
 len : slen (xIn x) ≤ 1000000
theorem mayS_len {m : Bool} {s : ByteArray} (h : mayS m s = true) : hLen s ≤ 9223372036854775807 := by
 unfold mayS mayD at h
 simp at h
 exact h.2.2.2.2.2
theorem may_safe (masked : Bool) (state : Int) (inn : ByteArray) (hf : Bool) (hr ho : Int) (hm : Bool) (k0 k1 k2 k3 hl : Int) (hlst : Bool) (told : Int) (ff : Bool) (fr fo : Int) (fm : Bool) (f0 f1 f2 f3 fl : Int) (flst : Bool) :
  may_S0 masked state inn hf hr ho hm k0 k1 k2 k3 hl hlst told ff fr fo fm f0 f1 f2 f3 fl flst := by
 unfold may_S0 op_S0
 simp
theorem stepT_2 {m : Bool} {x : RX} (h : xSt x = 2) : stepT m x = mkR 0 0 false 0 ⟨#[]⟩ false x := by unfold stepT; rw [if_pos h]
theorem stepT_0 {m : Bool} {x : RX} (h : xSt x = 0) : stepT m x = (bif !hOk (xIn x) then mkR 0 0 false 0 ⟨#[]⟩ false x
  else bif !mayS m (xIn x) then mkR 4 0 false 0 ⟨#[]⟩ true (xSet x 2 ⟨#[]⟩ (xTold x))
  else mkR 1 (chr (xIn x) 0 % 16) (decide (128 ≤ chr (xIn x) 0)) (hLen (xIn x)) ⟨#[]⟩ true (xHead (xIn x))) := by unfold stepT; rw [if_neg (by omega), if_pos h]
theorem stepT_e {m : Bool} {x : RX} (h : xSt x = 1) (h1 : xHl x = xTold x) : stepT m x = mkR 3 0 false 0 ⟨#[]⟩ true (xSet x 0 (xIn x) (xTold x)) := by
 unfold stepT; rw [if_neg (by omega), if_neg (by omega), if_pos h1]
theorem stepT_n {m : Bool} {x : RX} (h : xSt x = 1) (h1 : ¬ xHl x = xTold x) (h2 : slen (xIn x) = 0) : stepT m x = mkR 0 0 false 0 ⟨#[]⟩ false x := by
 unfold stepT; rw [if_neg (by omega), if_neg (by omega), if_neg h1, if_pos h2]
theorem stepT_p {m : Bool} {x : RX} (h : xSt x = 1) (h1 : ¬ xHl x = xTold x) (h2 : ¬ slen (xIn x) = 0) : stepT m x = mkR 2 0 false 0 (maskD (xKey x) (xTold x) (sub (xIn x) 0 (nOf x))) true (xSet x (xSt x) (sub (xIn x) (nOf x) (slen (xIn x))) (xTold x + nOf x)) := by
 unfold stepT; rw [if_neg (by omega), if_neg (by omega), if_neg h1, if_neg h2]
theorem step_val (m : Bool) (x : RX) (h : Inv x) : stS m x ∧ stp m x = stepT m x := by
 obtain ⟨h1, h2⟩ := h
 rcases h1 with h1 | h1 | ⟨h1, t0, t1, t2⟩
 ·rw [stepT_2 h1]
  obtain ⟨st, inn, hf, hr, ho, hm, k0, k1, k2, k3, hl, hlst, told⟩ := x
  have h1 : st = 2 := h1
  subst h1
  unfold stS stp rstep_S0 rstep_t0
  simp [mkR]
 ·rw [stepT_0 h1]
  obtain ⟨st, inn, hf, hr, ho, hm, k0, k1, k2, k3, hl, hlst, told⟩ := x
  have h1 : st = 0 := h1
  subst h1
  have hc : headc_pre inn := trivial
  have h2 : slen inn ≤ 1000000 := h2
  have n1 := hN_bd inn
  have n2 := hLen_bd inn
  show _ ∧ _ = (bif !hOk inn then _ else bif !mayS m inn then _ else _)
  unfold stS stp rstep_S0 rstep_t0
  simp only [may_val]
  cases ho : hOk inn with
  | false =>
   have e : headT inn = (false, 0, 0, false, 0, 0, 0, 0, 0, false, 0, false) := by unfold headT; rw [ho]; rfl
   simp [e, hc, mkR]
  | true =>
   have n3 := hOk_le ho
   have e : headT inn = (decide (128 ≤ chr inn 0), chr inn 0 / 16 % 8, chr inn 0 % 16, hMask inn, hKey inn 0, hKey inn 1, hKey inn 2, hKey inn 3, hLen inn, hLeast inn, hN inn, true) := by unfold headT; rw [ho]; rfl
   rw [e]
   dsimp only
   rw [show mayD m (decide (128 ≤ chr inn 0)) (chr inn 0 / 16 % 8) (chr inn 0 % 16) (hMask inn) (hLen inn) (hLeast inn) = mayS m inn from rfl]
   cases hmm : mayS m inn with
   | false => simp [hc, mkR, xSet, may_safe, xTold]
   | true =>
    have := mayS_len hmm
    rw [wrap64_in (x := hLen inn) (by omega) (by omega)]
    refine ⟨?_, rfl⟩
    simp [hc, may_safe]
    omega
 ·obtain ⟨st, inn, hf, hr, ho, hm, k0, k1, k2, k3, hl, hlst, told⟩ := x
  have h1 : st = 1 := h1
  subst h1
  have h2 : slen inn ≤ 1000000 := h2
  have t0 : 0 ≤ told := t0
  have t1 : told ≤ hl := t1
  have t2 : hl ≤ 9223372036854775807 := t2
  have e1 : IntKind.i64.wrap hl = hl := wrap64_in (by omega) (by omega)
  have e2 : IntKind.i64.wrap (hl - told) = hl - told := wrap64_in (by omega) (by omega)
  have e3 : (bif decide ((slen inn : Int) < hl - told) then (slen inn : Int) else hl - told) = ((min (slen inn) (hl - told).toNat : Nat) : Int) := by
   by_cases c : (slen inn : Int) < hl - told
   ·rw [decide_eq_true c, cond_true]; omega
   ·rw [decide_eq_false c, cond_false]; omega
  by_cases c1 : hl = told
  ·rw [stepT_e (x := (1, inn, hf, hr, ho, hm, k0, k1, k2, k3, hl, hlst, told)) rfl c1]
   have : ((hl - told) == 0) = true := by simp; omega
   unfold stS stp rstep_S0 rstep_t0
   simp only [may_val, e1, e2, this]
   simp [mkR, xSet, xIn, xTold]
  ·have d1 : ((hl - told) == 0) = false := by simp; omega
   by_cases c2 : slen inn = 0
   ·rw [stepT_n (x := (1, inn, hf, hr, ho, hm, k0, k1, k2, k3, hl, hlst, told)) rfl c1 c2]
    have : ((((min (slen inn) (hl - told).toNat : Nat) : Int)) == 0) = true := by simp; omega
    unfold stS stp rstep_S0 rstep_t0
    simp only [may_val, e1, e2, e3, d1, this]
    simp [mkR]
   ·rw [stepT_p (x := (1, inn, hf, hr, ho, hm, k0, k1, k2, k3, hl, hlst, told)) rfl c1 c2]
    have d2 : ((((min (slen inn) (hl - told).toNat : Nat) : Int)) == 0) = false := by simp; omega
    have p : mask_pre k0 k1 k2 k3 told (sub inn 0 (min (slen inn) (hl - told).toNat)) := by
     unfold mask_pre; rw [slen_sub]; omega
    have w : IntKind.i64.wrap (told + ((min (slen inn) (hl - told).toNat : Nat) : Int)) = told + ((min (slen inn) (hl - told).toNat : Nat) : Int) := wrap64_in (by omega) (by omega)
    unfold stS stp rstep_S0 rstep_t0
    simp only [may_val, e1, e2, e3, d1, d2, w, Int.toNat_natCast]
    refine ⟨?_, rfl⟩
    simp [p]
    omega
end Go.Proofs.Ytfmcohbagbafmaa
