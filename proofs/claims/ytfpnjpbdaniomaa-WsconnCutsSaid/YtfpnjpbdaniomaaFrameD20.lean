/-
  Heads: the program's and the document's are the same; contracts.
-/
import Derived.Test.YtfpnjpbdaniomaaFrameC20
set_option linter.unusedVariables false
set_option linter.unusedSimpArgs false
open Go Go.Am
namespace Go.Proofs.Ytfpnjpbdaniomaa

theorem chr_bd (s : ByteArray) (i : Nat) : 0 ≤ chr s i ∧ chr s i < 256 := by
 unfold chr
 have := ((toL s).getD i 0).toNat_lt
 omega
theorem iandn128 (b : Int) (h0 : 0 ≤ b) (h1 : b < 256) : iandn .u8 b 128 = b % 128 := by
 have : ∀ n : Fin 256, iandn .u8 ((n.val : Nat) : Int) 128 = ((n.val : Nat) : Int) % 128 := by decide +kernel
 have := this ⟨b.toNat, by omega⟩
 simpa [Int.toNat_of_nonneg h0] using this
theorem fand15 (b : Int) (h0 : 0 ≤ b) (h1 : b < 256) : iand .u8 b 15 = b % 16 := by
 have : ∀ n : Fin 256, iand .u8 ((n.val : Nat) : Int) 15 = ((n.val : Nat) : Int) % 16 := by decide +kernel
 have := this ⟨b.toNat, by omega⟩
 simpa [Int.toNat_of_nonneg h0] using this
theorem rsvP (b : Int) (h0 : 0 ≤ b) (h1 : b < 256) : iand .i64 (IntKind.i64.wrap (ishr .u8 b 4)) 7 = b / 16 % 8 := by
 have : ∀ n : Fin 256, iand .i64 (IntKind.i64.wrap (ishr .u8 ((n.val : Nat) : Int) 4)) 7 = ((n.val : Nat) : Int) / 16 % 8 := by decide +kernel
 have := this ⟨b.toNat, by omega⟩
 simpa [Int.toNat_of_nonneg h0] using this
theorem toL_sub (s : ByteArray) (l h : Nat) : toL (sub s l h) = ((toL s).drop l).take (h - l) := by
 simp [sub, toL, ofL]
theorem slen_sub (s : ByteArray) (l h : Nat) : slen (sub s l h) = min (h - l) (slen s - l) := by
 unfold slen
 rw [toL_sub, List.length_take, List.length_drop]
theorem take_ge2 (l : List UInt8) (h : 2 ≤ l.length) : l.take 2 = [l.getD 0 0, l.getD 1 0] := by
 match l, h with
 | a :: b :: r, _ => rfl
theorem take_ge4 (l : List UInt8) (h : 4 ≤ l.length) : l.take 4 = [l.getD 0 0, l.getD 1 0, l.getD 2 0, l.getD 3 0] := by
 match l, h with
 | a :: b :: c :: d :: r, _ => rfl
theorem take_ge8 (l : List UInt8) (h : 8 ≤ l.length) : l.take 8 = [l.getD 0 0, l.getD 1 0, l.getD 2 0, l.getD 3 0, l.getD 4 0, l.getD 5 0, l.getD 6 0, l.getD 7 0] := by
 match l, h with
 | a :: b :: c :: d :: e :: f :: g :: i :: r, _ => rfl
theorem drop_getD (l : List UInt8) (a j : Nat) : (l.drop a).getD j 0 = l.getD (a + j) 0 := by
 simp [List.getD_eq_getElem?_getD, List.getElem?_drop]
noncomputable def big2 (s : ByteArray) : Int := chr s 2 * 256 + chr s 3
noncomputable def big8 (s : ByteArray) : Int := ((((((chr s 2 * 256 + chr s 3) * 256 + chr s 4) * 256 + chr s 5) * 256 + chr s 6) * 256 + chr s 7) * 256 + chr s 8) * 256 + chr s 9
theorem big2_sub (s : ByteArray) (h : 4 ≤ slen s) : bigN 0 (toL (sub s 2 4)) = big2 s := by
 rw [toL_sub, take_ge2 _ (by rw [List.length_drop]; unfold slen at h; omega)]
 simp only [drop_getD, bigN]
 unfold big2 chr
 simp
theorem big8_sub (s : ByteArray) (h : 10 ≤ slen s) : bigN 0 (toL (sub s 2 10)) = big8 s := by
 rw [toL_sub, take_ge8 _ (by rw [List.length_drop]; unfold slen at h; omega)]
 simp only [drop_getD, bigN]
 unfold big8 chr
 simp
theorem big2_bd (s : ByteArray) : 0 ≤ big2 s ∧ big2 s ≤ 65535 := by
 have h1 := chr_bd s 2; have h2 := chr_bd s 3
 unfold big2; omega
theorem big8_bd (s : ByteArray) : 0 ≤ big8 s ∧ big8 s ≤ 18446744073709551615 := by
 have h1 := chr_bd s 2; have h2 := chr_bd s 3; have h3 := chr_bd s 4; have h4 := chr_bd s 5
 have h5 := chr_bd s 6; have h6 := chr_bd s 7; have h7 := chr_bd s 8; have h8 := chr_bd s 9
 unfold big8; omega
theorem key_sub (s : ByteArray) (a : Nat) (h : a + 4 ≤ slen s) : ofBytes (sub s a (a + 4)) = [.int .u8 (chr s a), .int .u8 (chr s (a + 1)), .int .u8 (chr s (a + 2)), .int .u8 (chr s (a + 3))] := by
 unfold ofBytes
 rw [toL_sub, show a + 4 - a = 4 by omega, take_ge4 _ (by rw [List.length_drop]; unfold slen at h; omega)]
 simp only [drop_getD, chr]
 rfl
noncomputable def wd (c : Int) : Int := if c % 128 = 126 then 2 else if c % 128 = 127 then 8 else 0
noncomputable def hLen (s : ByteArray) : Int := if chr s 1 % 128 = 126 then big2 s else if chr s 1 % 128 = 127 then big8 s else chr s 1 % 128
noncomputable def hLeast (s : ByteArray) : Bool := if chr s 1 % 128 = 126 then decide (125 < big2 s) else if chr s 1 % 128 = 127 then decide (65535 < big8 s) else true
noncomputable def hMask (s : ByteArray) : Bool := decide (128 ≤ chr s 1)
noncomputable def hN (s : ByteArray) : Int := 2 + wd (chr s 1) + (if 128 ≤ chr s 1 then 4 else 0)
noncomputable def hOk (s : ByteArray) : Bool := decide (2 ≤ (slen s : Int)) && decide (hN s ≤ slen s)
noncomputable def hKey (s : ByteArray) (j : Nat) : Int := if 128 ≤ chr s 1 then chr s (2 + (wd (chr s 1)).toNat + j) else 0
noncomputable def headT (s : ByteArray) : head_R :=
 bif hOk s then (decide (128 ≤ chr s 0), chr s 0 / 16 % 8, chr s 0 % 16, hMask s, hKey s 0, hKey s 1, hKey s 2, hKey s 3, hLen s, hLeast s, hN s, true) else (false, 0, 0, false, 0, 0, 0, 0, 0, false, 0, false)
theorem head_val (s : ByteArray) : head_S0 s ∧ head_t0 s = headT s := by
 have hc0 := chr_bd s 0
 have hc1 := chr_bd s 1
 have b2 := big2_bd s
 have b8 := big8_bd s
 by_cases h2 : (slen s : Int) < 2
 ·have e : hOk s = false := by unfold hOk; rw [decide_eq_false (by omega)]; rfl
  unfold head_S0 head_t0 headT
  rw [decide_eq_true h2, e]
  simp
 have s22 : slen (sub s 2 2) = 0 := by rw [slen_sub]; omega
 have s44 : slen (sub s 4 4) = 0 := by rw [slen_sub]; omega
 have s1010 : slen (sub s 10 10) = 0 := by rw [slen_sub]; omega
 have e1 : IntKind.i64.wrap (iandn IntKind.u8 (chr s 1) 128) = chr s 1 % 128 := by rw [iandn128 _ hc1.1 hc1.2, wrap64_in (by omega) (by omega)]
 have e2 : IntKind.u64.wrap (chr s 1 % 128) = chr s 1 % 128 := wrapU64 (by omega) (by omega)
 have e3 : IntKind.i64.wrap (iand IntKind.u8 (chr s 0) 15) = chr s 0 % 16 := by rw [fand15 _ hc0.1 hc0.2, wrap64_in (by omega) (by omega)]
 unfold head_S0 head_t0 headT hOk hN hKey hLen hLeast hMask wd
 rw [e1, e2, e3, rsvP _ hc0.1 hc0.2, decide_eq_false h2, s22, s44, s1010, decide_eq_true (show 2 ≤ (slen s : Int) by omega)]
 by_cases c1 : chr s 1 % 128 = 126
 ·rw [if_pos c1, if_pos c1, if_pos c1, show ((chr s 1 % 128 == 126) : Bool) = true by simp [c1]]
  by_cases c2 : 128 ≤ chr s 1
  ·rw [if_pos c2, if_pos c2, decide_eq_true c2]
   by_cases c3 : (slen s : Int) < 8
   ·rw [decide_eq_true c3, decide_eq_false (show ¬ (2 + 2 + 4 ≤ (slen s : Int)) by omega)]
    simp; omega
   ·have k := key_sub s 4 (by omega)
    have l : slen (sub s 4 8) = 4 := by rw [slen_sub]; omega
    have p : big_pre (sub s 2 4) := by unfold big_pre; rw [slen_sub]; omega
    rw [decide_eq_false c3, decide_eq_true (show (2 + 2 + 4 ≤ (slen s : Int)) by omega), k, big2_sub s (by omega), l]
    by_cases c4 : big2 s ≤ 125 <;> simp [c4, p, one, isInt, toInt, show (big2 s ≤ 65535) by omega, show 8 ≤ (slen s : Int) by omega, show 8 ≤ slen s by omega, show 4 ≤ slen s by omega, show 1 < slen s by omega, show 0 < slen s by omega] <;> (try omega)
  ·rw [if_neg c2, if_neg c2, decide_eq_false c2]
   by_cases c3 : (slen s : Int) < 4
   ·rw [decide_eq_true c3, decide_eq_false (show ¬ (2 + 2 + 0 ≤ (slen s : Int)) by omega)]
    simp; omega
   ·have p : big_pre (sub s 2 4) := by unfold big_pre; rw [slen_sub]; omega
    rw [decide_eq_false c3, decide_eq_true (show (2 + 2 + 0 ≤ (slen s : Int)) by omega), big2_sub s (by omega)]
    by_cases c4 : big2 s ≤ 125 <;> simp [c4, p, one, isInt, toInt, show (big2 s ≤ 65535) by omega, show 4 ≤ (slen s : Int) by omega, show 4 ≤ slen s by omega, show 1 < slen s by omega, show 0 < slen s by omega] <;> (try omega)
 ·rw [if_neg c1, if_neg c1, if_neg c1, show ((chr s 1 % 128 == 126) : Bool) = false by simp [c1]]
  by_cases d1 : chr s 1 % 128 = 127
  ·rw [if_pos d1, if_pos d1, if_pos d1, show ((chr s 1 % 128 == 127) : Bool) = true by simp [d1]]
   by_cases c2 : 128 ≤ chr s 1
   ·rw [if_pos c2, if_pos c2, decide_eq_true c2]
    by_cases c3 : (slen s : Int) < 14
    ·rw [decide_eq_true c3, decide_eq_false (show ¬ (2 + 8 + 4 ≤ (slen s : Int)) by omega)]
     simp; omega
    ·have k := key_sub s 10 (by omega)
     have l : slen (sub s 10 14) = 4 := by rw [slen_sub]; omega
     have p : big_pre (sub s 2 10) := by unfold big_pre; rw [slen_sub]; omega
     rw [decide_eq_false c3, decide_eq_true (show (2 + 8 + 4 ≤ (slen s : Int)) by omega), k, big8_sub s (by omega), l]
     by_cases c4 : big8 s ≤ 125
     ·simp [c4, p, one, isInt, toInt, show (big8 s ≤ 65535) by omega, show 14 ≤ slen s by omega, show 10 ≤ slen s by omega, show 1 < slen s by omega, show 0 < slen s by omega] <;> (try omega)
     ·by_cases c5 : big8 s ≤ 65535 <;> simp [c4, c5, p, one, isInt, toInt, show 14 ≤ slen s by omega, show 10 ≤ slen s by omega, show 1 < slen s by omega, show 0 < slen s by omega] <;> (try omega)
   ·rw [if_neg c2, if_neg c2, decide_eq_false c2]
    by_cases c3 : (slen s : Int) < 10
    ·rw [decide_eq_true c3, decide_eq_false (show ¬ (2 + 8 + 0 ≤ (slen s : Int)) by omega)]
     simp; omega
    ·have p : big_pre (sub s 2 10) := by unfold big_pre; rw [slen_sub]; omega
     rw [decide_eq_false c3, decide_eq_true (show (2 + 8 + 0 ≤ (slen s : Int)) by omega), big8_sub s (by omega)]
     by_cases c4 : big8 s ≤ 125
     ·simp [c4, p, one, isInt, toInt, show (big8 s ≤ 65535) by omega, show 10 ≤ slen s by omega, show 1 < slen s by omega, show 0 < slen s by omega] <;> (try omega)
     ·by_cases c5 : big8 s ≤ 65535 <;> simp [c4, c5, p, one, isInt, toInt, show 10 ≤ slen s by omega, show 1 < slen s by omega, show 0 < slen s by omega] <;> (try omega)
  ·rw [if_neg d1, if_neg d1, if_neg d1, show ((chr s 1 % 128 == 127) : Bool) = false by simp [d1]]
   by_cases c2 : 128 ≤ chr s 1
   ·rw [if_pos c2, if_pos c2, decide_eq_true c2]
    by_cases c3 : (slen s : Int) < 6
    ·rw [decide_eq_true c3, decide_eq_false (show ¬ (2 + 0 + 4 ≤ (slen s : Int)) by omega)]
     simp; omega
    ·have k := key_sub s 2 (by omega)
     have l : slen (sub s 2 6) = 4 := by rw [slen_sub]; omega
     rw [decide_eq_false c3, decide_eq_true (show (2 + 0 + 4 ≤ (slen s : Int)) by omega), k, l, decide_eq_true (show chr s 1 % 128 ≤ 125 by omega)]
     simp [one, isInt, toInt, show 6 ≤ slen s by omega, show 1 < slen s by omega, show 0 < slen s by omega] <;> (try omega)
   ·rw [if_neg c2, if_neg c2, decide_eq_false c2, decide_eq_true (show (2 + 0 + 0 ≤ (slen s : Int)) by omega), decide_eq_true (show chr s 1 % 128 ≤ 125 by omega)]
    simp [one, isInt, toInt, show 2 ≤ slen s by omega, show 1 < slen s by omega, show 0 < slen s by omega] <;> (try omega)

theorem w2 (t b : Int) (h0 : 0 ≤ t) (h1 : t < 72057594037927936) (b0 : 0 ≤ b) (b1 : b < 256) : IntKind.u64.wrap (IntKind.u64.wrap (t * 256) + b) = t * 256 + b := by
 rw [wrapU64 (x := t * 256) (by omega) (by omega), wrapU64 (by omega) (by omega)]
def headc_pre (s : ByteArray) : Prop := True
noncomputable def headc_v (s : ByteArray) : Value := head_V s (headT s)
noncomputable def headc_h (s : ByteArray) : Heap := []
theorem headc_call (s : ByteArray) (h : headc_pre s) : CallOk E 73 [.string s] [] (headc_v s) (headc_h s) := by
 have := head_call s (head_val s).1
 unfold headc_v headc_h
 rw [← (head_val s).2]
 exact this

def headc_ex (a : List Value) (h : Heap) : ByteArray := (toStr (a.getD 0 undef))
noncomputable def headc_k : Ct := kS headc_ex [.str] [] (fun x => headc_pre x) (fun x => headc_v x) (fun x => headc_h x)
theorem headc_k_ok : KFor E 73 headc_k := kS_ok (fun x hx => headc_call x hx) (fun _ _ => rfl) (fun _ _ => rfl)


end Go.Proofs.Ytfpnjpbdaniomaa
