/-
  A connection, plain: what a frame tells.
-/
import Derived.Test.YtfpnjpbdaniomaaWsconnV
import Derived.Test.YtfpnjpbdaniomaaFrameE20
set_option linter.unusedVariables false
set_option linter.unusedSimpArgs false
open Go Go.Am
namespace Go.Proofs.Ytfpnjpbdaniomaa

theorem xb_back (k : Int) (h : k = 1 ∨ k = 2 ∨ k = 3 ∨ k = 4) (b : UInt8) : xb (xb b k) k = b := by
 have e : ∀ n : Fin 256, xb (xb (UInt8.ofNat n.val) 1) 1 = UInt8.ofNat n.val ∧ xb (xb (UInt8.ofNat n.val) 2) 2 = UInt8.ofNat n.val ∧ xb (xb (UInt8.ofNat n.val) 3) 3 = UInt8.ofNat n.val ∧ xb (xb (UInt8.ofNat n.val) 4) 4 = UInt8.ofNat n.val := by decide +kernel
 have e := e ⟨b.toNat, b.toNat_lt⟩
 have hb : UInt8.ofNat b.toNat = b := by simp
 rw [hb] at e
 rcases h with rfl | rfl | rfl | rfl
 ·exact e.1
 ·exact e.2.1
 ·exact e.2.2.1
 ·exact e.2.2.2
theorem maskL_back : ∀ (l : List UInt8) (a : Nat), maskL [1, 2, 3, 4] a (maskL [1, 2, 3, 4] a l) = l
 | [], a => rfl
 | b :: r, a => by
  have hk : [(1 : Int), 2, 3, 4].getD (a % 4) 0 = 1 ∨ [(1 : Int), 2, 3, 4].getD (a % 4) 0 = 2 ∨ [(1 : Int), 2, 3, 4].getD (a % 4) 0 = 3 ∨ [(1 : Int), 2, 3, 4].getD (a % 4) 0 = 4 := by
   have h4 := Nat.mod_lt a (show 0 < 4 by omega)
   rcases (show a % 4 = 0 ∨ a % 4 = 1 ∨ a % 4 = 2 ∨ a % 4 = 3 by omega) with e | e | e | e <;> rw [e] <;> decide
  rw [maskL, maskL, maskL_back r, xb_back _ hk]
theorem maskD_toL (d : ByteArray) : toL (maskD [1, 2, 3, 4] 0 d) = maskL [1, 2, 3, 4] 0 (toL d) := by
 unfold maskD
 rw [show decide ((0 : Int) < 0) = false from rfl, cond_false]
 rfl
theorem maskD_back (d : ByteArray) : maskD [1, 2, 3, 4] 0 (maskD [1, 2, 3, 4] 0 d) = d := bext (by rw [maskD_toL, maskD_toL, maskL_back])
structure FrOk (fin : Bool) (op : Int) (d : ByteArray) : Prop where
 op : (op = 0 ∨ op = 1 ∨ op = 2) ∨ ((op = 8 ∨ op = 9 ∨ op = 10) ∧ fin = true ∧ slen d ≤ 125)
 len : slen d ≤ 1000
section
variable {fin : Bool} {op : Int} {d : ByteArray}
theorem FrOk.bd (h : FrOk fin op d) : 0 ≤ op ∧ op ≤ 15 := by have := h.op; omega
noncomputable def hn (n : Nat) : Nat := if n ≤ 125 then 6 else 8
theorem frH_len (fin : Bool) (op : Int) (n : Nat) : (frH fin op n).length = hn n := by
 unfold frH hn
 split <;> rfl
theorem frB_len (fin : Bool) (op : Int) (d : ByteArray) : slen (frB fin op d) = hn (slen d) + slen d := by
 unfold frB
 rw [slen_cat, slen_mask]
 show (frH fin op (slen d)).length + _ = _
 rw [frH_len]
theorem frB_toL (fin : Bool) (op : Int) (d : ByteArray) : toL (frB fin op d) = frH fin op (slen d) ++ toL (maskD [1, 2, 3, 4] 0 d) := by
 unfold frB
 rw [toL_cat]
 rfl
theorem frB_chr (fin : Bool) (op : Int) (d : ByteArray) (i : Nat) (hi : i < hn (slen d)) : chr (frB fin op d) i = (((frH fin op (slen d)).getD i 0).toNat : Int) := by
 unfold chr
 rw [frB_toL, List.getD_eq_getElem?_getD, List.getElem?_append_left (by rw [frH_len]; exact hi), List.getD_eq_getElem?_getD]
theorem frB_0 (h : FrOk fin op d) : chr (frB fin op d) 0 = op + bif fin then 128 else 0 := by
 have hb := h.bd
 rw [frB_chr _ _ _ 0 (by unfold hn; split <;> omega)]
 show ((UInt8.ofNat (op + bif fin then 128 else 0).toNat).toNat : Int) = _
 rw [UInt8.toNat_ofNat']
 cases fin <;> simp only [cond_true, cond_false] <;> omega
theorem frB_1 (h : FrOk fin op d) : chr (frB fin op d) 1 = if slen d ≤ 125 then 128 + (slen d : Int) else 254 := by
 rw [frB_chr _ _ _ 1 (by unfold hn; split <;> omega)]
 unfold frH
 by_cases c : slen d ≤ 125
 ·rw [if_pos c, if_pos c]
  show ((UInt8.ofNat (128 + slen d)).toNat : Int) = _
  rw [UInt8.toNat_ofNat']
  omega
 ·rw [if_neg c, if_neg c]
  rfl
theorem frB_big (h : FrOk fin op d) (c : ¬ slen d ≤ 125) : big2 (frB fin op d) = slen d := by
 have hl := h.len
 have e : hn (slen d) = 8 := by unfold hn; rw [if_neg c]
 unfold big2
 rw [frB_chr _ _ _ 2 (by omega), frB_chr _ _ _ 3 (by omega)]
 unfold frH
 rw [if_neg c]
 show ((UInt8.ofNat (slen d / 256)).toNat : Int) * 256 + ((UInt8.ofNat (slen d % 256)).toNat : Int) = _
 rw [UInt8.toNat_ofNat', UInt8.toNat_ofNat']
 omega
theorem fr_wd (h : FrOk fin op d) : wd (chr (frB fin op d) 1) = if slen d ≤ 125 then 0 else 2 := by
 rw [frB_1 h]
 unfold wd
 by_cases c : slen d ≤ 125
 ·rw [if_pos c, if_pos c, if_neg (by omega), if_neg (by omega)]
 ·rw [if_neg c, if_neg c, if_pos (by omega)]
theorem fr_m (h : FrOk fin op d) : 128 ≤ chr (frB fin op d) 1 := by
 rw [frB_1 h]; split <;> omega
theorem fr_hN (h : FrOk fin op d) : hN (frB fin op d) = hn (slen d) := by
 unfold hN
 rw [fr_wd h, if_pos (fr_m h)]
 unfold hn
 split <;> rfl
theorem fr_hOk (h : FrOk fin op d) : hOk (frB fin op d) = true := by
 unfold hOk
 rw [fr_hN h, frB_len, decide_eq_true (by unfold hn; split <;> omega), decide_eq_true (by omega)]
 rfl
theorem fr_hLen (h : FrOk fin op d) : hLen (frB fin op d) = slen d := by
 unfold hLen
 by_cases c : slen d ≤ 125
 ·rw [frB_1 h, if_pos c, if_neg (by omega), if_neg (by omega)]; omega
 ·rw [frB_1 h, if_neg c, if_pos (by omega), frB_big h c]
theorem fr_hLeast (h : FrOk fin op d) : hLeast (frB fin op d) = true := by
 unfold hLeast
 by_cases c : slen d ≤ 125
 ·rw [frB_1 h, if_pos c, if_neg (by omega), if_neg (by omega)]
 ·rw [frB_1 h, if_neg c, if_pos (by omega), frB_big h c]
  exact decide_eq_true (by omega)
theorem fr_hMask (h : FrOk fin op d) : hMask (frB fin op d) = true := decide_eq_true (fr_m h)
theorem fr_key (h : FrOk fin op d) (j : Nat) (hj : j < 4) : hKey (frB fin op d) j = j + 1 := by
 unfold hKey
 rw [if_pos (fr_m h), fr_wd h]
 by_cases c : slen d ≤ 125
 ·have e : hn (slen d) = 6 := by unfold hn; rw [if_pos c]
  rw [if_pos c, frB_chr _ _ _ _ (by rw [e]; simp; omega)]
  unfold frH
  rw [if_pos c]
  rcases (show j = 0 ∨ j = 1 ∨ j = 2 ∨ j = 3 by omega) with rfl | rfl | rfl | rfl <;> rfl
 ·have e : hn (slen d) = 8 := by unfold hn; rw [if_neg c]
  rw [if_neg c, frB_chr _ _ _ _ (by rw [e]; show 2 + 2 + j < 8; omega)]
  unfold frH
  rw [if_neg c]
  rcases (show j = 0 ∨ j = 1 ∨ j = 2 ∨ j = 3 by omega) with rfl | rfl | rfl | rfl <;> rfl
theorem fr_op (h : FrOk fin op d) : chr (frB fin op d) 0 % 16 = op ∧ chr (frB fin op d) 0 / 16 % 8 = 0 ∧ decide (128 ≤ chr (frB fin op d) 0) = fin := by
 have hb := h.bd
 rw [frB_0 h]
 cases fin with
 | true => rw [cond_true]; exact ⟨by omega, by omega, decide_eq_true (by omega)⟩
 | false => rw [cond_false]; exact ⟨by omega, by omega, decide_eq_false (by omega)⟩
theorem fr_may (h : FrOk fin op d) : mayS true (frB fin op d) = true := by
 obtain ⟨a1, a2, a3⟩ := fr_op h
 unfold mayS mayD opD
 rw [a1, a2, a3, fr_hMask h, fr_hLen h, fr_hLeast h]
 have hl := h.len
 have ho := h.op
 simp only [Bool.and_eq_true, decide_eq_true_eq, Bool.or_eq_true]
 refine ⟨trivial, by omega, rfl, ?_, trivial, by omega⟩
 rcases ho with ho | ⟨ho, hf, hn⟩
 ·exact .inl (by omega)
 ·exact .inr ⟨hf, by omega⟩
theorem fr_tail (h : FrOk fin op d) : sub (frB fin op d) (hN (frB fin op d)).toNat (slen (frB fin op d)) = maskD [1, 2, 3, 4] 0 d := bext (by
 rw [fr_hN h, toL_sub, frB_len, frB_toL, Int.toNat_natCast, List.drop_left' (frH_len _ _ _), List.take_of_length_le]
 have : (toL (maskD [1, 2, 3, 4] 0 d)).length = slen d := slen_mask _ _ _
 rw [this]; omega)
end
end Go.Proofs.Ytfpnjpbdaniomaa

/-
  A connection, plain: what frames that may be tell, one by one.
-/
set_option linter.unusedVariables false
set_option linter.unusedSimpArgs false
open Go Go.Am
namespace Go.Proofs.Ytfpnjpbdaniomaa

theorem emp_of {t : ByteArray} (h : slen t = 0) : t = ⟨#[]⟩ := bext (toL_nil h)
theorem tlc_go {c c' : CS} {x x' : RX} {k o l : Int} {f : Bool} {t : ByteArray} {e : Option EvT} (hI : Inv x) (hs : ¬ c.st = 3) (ho : stepT true x = mkR k o f l t true x') (ht : takesF c k o f l t = (e, c')) :
  tlc (setR c x) = (e.toList ++ (tlc (setR c' x')).1, (tlc (setR c' x')).2) := by
 have w := tlc_ok (c := setR c x) hI hs (by rw [setR_r, ho]; rfl)
 rw [setR_r, ho, evR_mk, rx_mk] at w
 have e2 : takeR (setR c x) (k, o, f, l, t, true) x' = (e, setR c' x') := by
  show takesF (setR c x') k o f l t = _
  rw [takesF_set, ht]
 rw [e2] at w
 exact w
theorem fr_tlc {fin : Bool} {op : Int} {d : ByteArray} {c c1 c2 c3 : CS} {e3 : Option EvT} (hI : Inv c.r) (hs0 : xSt c.r = 0) (hi0 : xIn c.r = ⟨#[]⟩) (h3 : ¬ c.st = 3) (hf : FrOk fin op d)
  (h1 : takesF c 1 op fin (slen d) ⟨#[]⟩ = (none, c1)) (s1 : ¬ c1.st = 3) (h2 : if slen d = 0 then c2 = c1 else takesF c1 2 0 false 0 d = (none, c2)) (s2 : ¬ c2.st = 3)
  (h4 : takesF c2 3 0 false 0 ⟨#[]⟩ = (e3, c3)) : ∃ y : RX, xSt y = 0 ∧ xIn y = ⟨#[]⟩ ∧ Inv y ∧ tlc (fdC c (frB fin op d)) = (e3.toList, setR c3 y) := by
 have hl := frB_len fin op d
 have hn8 : hn (slen d) ≤ 8 := by unfold hn; split <;> omega
 have hfl := hf.len
 obtain ⟨a1, a2, a3⟩ := fr_op hf
 have hb0 : fd c.r (frB fin op d) = xSet c.r 0 (frB fin op d) (xTold c.r) := by rw [fd_n (by omega), hs0, hi0, cat_nil]
 have i0 : Inv (xSet c.r 0 (frB fin op d) (xTold c.r)) := ⟨.inr (.inl rfl), by show slen (frB fin op d) ≤ _; omega⟩
 have o0 : stepT true (xSet c.r 0 (frB fin op d) (xTold c.r)) = mkR 1 op fin (slen d) ⟨#[]⟩ true (xHead (frB fin op d)) := by
  rw [stepT_0 rfl, xIn_set, fr_hOk hf, fr_may hf, a1, a3, fr_hLen hf]
  rfl
 have e1 : xIn (xHead (frB fin op d)) = maskD [1, 2, 3, 4] 0 d := fr_tail hf
 have e2 : xHl (xHead (frB fin op d)) = slen d := fr_hLen hf
 have e3' : xTold (xHead (frB fin op d)) = 0 := rfl
 have e4 : xKey (xHead (frB fin op d)) = [1, 2, 3, 4] := by
  show [hKey _ 0, hKey _ 1, hKey _ 2, hKey _ 3] = _
  rw [fr_key hf 0 (by omega), fr_key hf 1 (by omega), fr_key hf 2 (by omega), fr_key hf 3 (by omega)]
  rfl
 have e5 : xSt (xHead (frB fin op d)) = 1 := rfl
 have i1 : Inv (xHead (frB fin op d)) := ⟨.inr (.inr ⟨e5, by rw [e3']; omega, by rw [e2, e3']; omega, by rw [e2]; omega⟩), by rw [e1, slen_mask]; omega⟩
 rw [fdC_n h3, hb0, tlc_go i0 h3 o0 h1]
 have fin3 : ∀ (x : RX), Inv x → xSt x = 1 → xHl x = xTold x → xIn x = ⟨#[]⟩ → ∃ y : RX, xSt y = 0 ∧ xIn y = ⟨#[]⟩ ∧ Inv y ∧ tlc (setR c2 x) = (e3.toList, setR c3 y) := by
  intro x ix hx1 hx2 hx3
  have o2 : stepT true x = mkR 3 0 false 0 ⟨#[]⟩ true (xSet x 0 (xIn x) (xTold x)) := stepT_e hx1 hx2
  refine ⟨xSet x 0 (xIn x) (xTold x), rfl, hx3, ⟨.inr (.inl rfl), by show slen (xIn x) ≤ _; rw [hx3]; decide⟩, ?_⟩
  rw [tlc_go ix s2 o2 h4]
  have dry : Dry (setR c3 (xSet x 0 (xIn x) (xTold x))) := by
   refine .inr ?_
   rw [setR_r, stepT_0 rfl, xIn_set, hx3]
   have : hOk ⟨#[]⟩ = false := by unfold hOk; rfl
   rw [this]
   rfl
  rw [tlc_dry dry, List.append_nil]
 by_cases hd : slen d = 0
 ·rw [if_pos hd] at h2
  subst h2
  obtain ⟨y, y1, y2, y3, y4⟩ := fin3 (xHead (frB fin op d)) i1 e5 (by rw [e2, e3', hd]; rfl) (by rw [e1]; exact emp_of (by rw [slen_mask]; exact hd))
  exact ⟨y, y1, y2, y3, by rw [y4]; rfl⟩
 ·rw [if_neg hd] at h2
  have hno : nOf (xHead (frB fin op d)) = slen d := by unfold nOf; rw [e1, slen_mask, e2, e3']; omega
  have hsd : slen (maskD [1, 2, 3, 4] 0 d) = slen d := slen_mask _ _ _
  have o1 : stepT true (xHead (frB fin op d)) = mkR 2 0 false 0 d true (xSet (xHead (frB fin op d)) 1 ⟨#[]⟩ (slen d)) := by
   rw [stepT_p e5 (by rw [e2, e3']; omega) (by rw [e1, slen_mask]; exact hd), hno, e1, e4, e3', e5, hsd]
   have q1 : sub (maskD [1, 2, 3, 4] 0 d) 0 (slen d) = maskD [1, 2, 3, 4] 0 d := by
    have := sub_self (maskD [1, 2, 3, 4] 0 d)
    rw [hsd] at this
    exact this
   have q2 : sub (maskD [1, 2, 3, 4] 0 d) (slen d) (slen d) = ⟨#[]⟩ := by
    have := sub_end (maskD [1, 2, 3, 4] 0 d)
    rw [hsd] at this
    exact this
   rw [q1, q2, maskD_back, Int.zero_add]
  rw [tlc_go i1 s1 o1 h2]
  have i2 : Inv (xSet (xHead (frB fin op d)) 1 ⟨#[]⟩ (slen d)) := ⟨.inr (.inr ⟨rfl, by rw [xTold_set]; omega, by rw [xTold_set]; exact Int.le_of_eq e2.symm, by show xHl (xHead (frB fin op d)) ≤ _; rw [e2]; omega⟩), by rw [xIn_set]; decide⟩
  obtain ⟨y, y1, y2, y3, y4⟩ := fin3 _ i2 rfl (by rw [xTold_set]; exact e2) rfl
  exact ⟨y, y1, y2, y3, by rw [y4]; rfl⟩
structure Rst (c : CS) : Prop where
 r : Inv c.r
 st : c.st = 1
 ctl : c.ctl = 0
 s0 : xSt c.r = 0
 i0 : xIn c.r = ⟨#[]⟩
theorem tk_ctl (c : CS) {o : Int} (h : 8 ≤ o) (f : Bool) (l : Int) (t : ByteArray) : takesF c 1 o f l t = (none, { c with ctl := o, data := ⟨#[]⟩ }) := by
 unfold takesF; rw [if_neg (by omega), if_pos ⟨rfl, h⟩]
theorem tk_cpiece {c : CS} (h : ¬ c.ctl = 0) (o : Int) (f : Bool) (l : Int) (t : ByteArray) : takesF c 2 o f l t = (none, { c with data := cat c.data t }) := by
 unfold takesF; rw [if_neg (by omega), if_neg (by omega), if_pos h, if_pos rfl]
theorem tk_ping {c : CS} (h : c.ctl = 9) (h1 : c.st = 1) (o : Int) (f : Bool) (l : Int) (t : ByteArray) : takesF c 3 o f l t = (some (2, 0, 0, c.data), { c with ctl := 0 }) := by
 unfold takesF; rw [if_neg (by omega), if_neg (by omega), if_pos (by omega), if_neg (by omega), if_neg (by omega), if_pos ⟨h, h1⟩]
theorem tk_pong {c : CS} (h : c.ctl = 10) (o : Int) (f : Bool) (l : Int) (t : ByteArray) : takesF c 3 o f l t = (none, { c with ctl := 0 }) := by
 unfold takesF; rw [if_neg (by omega), if_neg (by omega), if_pos (by omega), if_neg (by omega), if_neg (by omega), if_neg (by omega)]
theorem tk_close {c : CS} (h : c.ctl = 8) (o : Int) (f : Bool) (l : Int) (t : ByteArray) : takesF c 3 o f l t = (some (if ¬ (cdT c.data).2.2 = 0 then (4, 0, (cdT c.data).2.2, ⟨#[]⟩) else (3, 0, (cdT c.data).1, ⟨#[]⟩)), { c with st := 3, ctl := 0 }) := by
 unfold takesF; rw [if_neg (by omega), if_neg (by omega), if_pos (by omega), if_neg (by omega), if_pos h]
 split <;> rfl
theorem tk_begin {c : CS} (h : c.ctl = 0) (h1 : c.st = 1) {o : Int} (ho : o < 8) {f : Bool} {l : Int} (t : ByteArray) {j : JS} (hb : beginF c.j f o l = (0, j)) : takesF c 1 o f l t = (none, { c with j := j }) := by
 unfold takesF; rw [if_neg (by omega), if_neg (by omega), if_neg (by omega), if_neg (by omega), if_pos rfl, hb, if_neg (by simp)]
theorem tk_piece {c : CS} (h : c.ctl = 0) (h1 : c.st = 1) (o : Int) (f : Bool) (l : Int) {t : ByteArray} {j : JS} (hb : pieceF c.j t = (0, j)) : takesF c 2 o f l t = (none, { c with j := j }) := by
 unfold takesF; rw [if_neg (by omega), if_neg (by omega), if_neg (by omega), if_neg (by omega), if_neg (by omega), if_pos rfl, hb, if_neg (by simp)]
theorem tk_end {c : CS} (h : c.ctl = 0) (h1 : c.st = 1) (o : Int) (f : Bool) (l : Int) (t : ByteArray) {p : Int} {u : ByteArray} {b : Bool} {j : JS} (hb : endF c.j = (p, u, b, 0, j)) : takesF c 3 o f l t = (if b = true then some (1, p, 0, u) else none, { c with j := j }) := by
 unfold takesF; rw [if_neg (by omega), if_neg (by omega), if_neg (by omega), if_neg (by omega), if_neg (by omega), if_neg (by omega), if_pos rfl, hb, if_neg (by simp)]
 cases b <;> rfl
theorem ctl_mid (c : CS) {o : Int} (ho : 8 ≤ o) (d : ByteArray) : if slen d = 0 then ({ c with ctl := o, data := d } : CS) = { c with ctl := o, data := ⟨#[]⟩ } else takesF { c with ctl := o, data := ⟨#[]⟩ } 2 0 false 0 d = (none, { c with ctl := o, data := d }) := by
 split
 ·rename_i h; rw [emp_of h]
 ·rw [tk_cpiece (c := { c with ctl := o, data := ⟨#[]⟩ }) (by show ¬ o = 0; omega)]
  show (none, ({ c with ctl := o, data := cat ⟨#[]⟩ d } : CS)) = _
  rw [cat_nil]
theorem ping_tlc {c : CS} (h : Rst c) {d : ByteArray} (hd : slen d ≤ 125) : ∃ c', Rst c' ∧ c'.j = c.j ∧ tlc (fdC c (frB true 9 d)) = ([(2, 0, 0, d)], c') := by
 obtain ⟨y, y1, y2, y3, y4⟩ := fr_tlc (fin := true) (op := 9) (d := d) h.r h.s0 h.i0 (by rw [h.st]; decide) ⟨.inr ⟨.inr (.inl rfl), rfl, hd⟩, by omega⟩ (tk_ctl c (by omega) _ _ _) (by show ¬ c.st = 3; rw [h.st]; decide) (ctl_mid c (by omega) d) (by show ¬ c.st = 3; rw [h.st]; decide) (tk_ping (c := { c with ctl := 9, data := d }) rfl h.st 0 false 0 ⟨#[]⟩)
 exact ⟨setR { c with ctl := 0, data := d } y, ⟨y3, h.st, rfl, y1, y2⟩, rfl, y4⟩
theorem pong_tlc {c : CS} (h : Rst c) {d : ByteArray} (hd : slen d ≤ 125) : ∃ c', Rst c' ∧ c'.j = c.j ∧ tlc (fdC c (frB true 10 d)) = ([], c') := by
 obtain ⟨y, y1, y2, y3, y4⟩ := fr_tlc (fin := true) (op := 10) (d := d) h.r h.s0 h.i0 (by rw [h.st]; decide) ⟨.inr ⟨.inr (.inr rfl), rfl, hd⟩, by omega⟩ (tk_ctl c (by omega) _ _ _) (by show ¬ c.st = 3; rw [h.st]; decide) (ctl_mid c (by omega) d) (by show ¬ c.st = 3; rw [h.st]; decide) (tk_pong (c := { c with ctl := 10, data := d }) rfl 0 false 0 ⟨#[]⟩)
 exact ⟨setR { c with ctl := 0, data := d } y, ⟨y3, h.st, rfl, y1, y2⟩, rfl, y4⟩
theorem close_tlc {c : CS} (h : Rst c) {d : ByteArray} (hd : slen d ≤ 125) : ∃ c', c'.st = 3 ∧ tlc (fdC c (frB true 8 d)) = ([if ¬ (cdT d).2.2 = 0 then (4, 0, (cdT d).2.2, ⟨#[]⟩) else (3, 0, (cdT d).1, ⟨#[]⟩)], c') := by
 obtain ⟨y, y1, y2, y3, y4⟩ := fr_tlc (fin := true) (op := 8) (d := d) h.r h.s0 h.i0 (by rw [h.st]; decide) ⟨.inr ⟨.inl rfl, rfl, hd⟩, by omega⟩ (tk_ctl c (by omega) _ _ _) (by show ¬ c.st = 3; rw [h.st]; decide) (ctl_mid c (by omega) d) (by show ¬ c.st = 3; rw [h.st]; decide) (tk_close (c := { c with ctl := 8, data := d }) rfl 0 false 0 ⟨#[]⟩)
 exact ⟨_, rfl, y4⟩
def Jz (j : JS) : Prop := j.lim = 1000 ∧ j.op = 0 ∧ j.sum = 0 ∧ j.txt = none
structure Jm (j : JS) (o : Int) (u : ByteArray) : Prop where
 lim : j.lim = 1000
 op : j.op = o
 sum : j.sum = slen u
 txt : txtB j.txt = u
 len : slen u ≤ 1000
 chk : o = 1 → chkG j.chk = fedC fresh u
theorem txtB_catO (t : Option ByteArray) (u : ByteArray) : txtB (some (catO t u)) = cat (txtB t) u := by
 cases t with
 | none => exact (cat_nil u).symm
 | some b => rfl
theorem good_pre {u v : ByteArray} (h : (fedC fresh (cat u v)).2.2 = false) : (fedC fresh u).2.2 = false := by
 cases e : (fedC fresh u).2.2 with
 | false => rfl
 | true => rw [fedC_cat, fedC_bad e] at h; cases h
theorem w64 {x : Int} (h0 : 0 ≤ x) (h1 : x ≤ 1000000) : IntKind.i64.wrap x = x := wrap64_in (by omega) (by omega)
theorem begin_first {j : JS} (hj : Jz j) {o : Int} (ho : o = 1 ∨ o = 2) (last : Bool) {n : Nat} (hn : n ≤ 1000) : ∃ j', beginF j last o n = (0, j') ∧ j'.lim = 1000 ∧ j'.op = o ∧ j'.sum = n ∧ j'.txt = none ∧ j'.lacks = n ∧ j'.last = last ∧ chkG j'.chk = fresh := by
 obtain ⟨h1, h2, h3, h4⟩ := hj
 unfold beginF
 have e1 : (o == 0) = false := by rcases ho with rfl | rfl <;> rfl
 rw [h1, h2, h3, decide_eq_false (by omega), e1, w64 (by omega) (by omega), decide_eq_false (by omega), w64 (by omega) (by omega), Int.zero_add]
 exact ⟨_, rfl, rfl, rfl, rfl, h4, rfl, rfl, rfl⟩
theorem begin_more {j : JS} {o : Int} {u : ByteArray} (hj : Jm j o u) (ho : o = 1 ∨ o = 2) (last : Bool) {n : Nat} (hn : slen u + n ≤ 1000) : ∃ j', beginF j last 0 n = (0, j') ∧ j'.lim = 1000 ∧ j'.op = o ∧ j'.sum = ((slen u + n : Nat) : Int) ∧ txtB j'.txt = u ∧ j'.lacks = n ∧ j'.last = last ∧ (o = 1 → chkG j'.chk = fedC fresh u) := by
 unfold beginF
 have e1 : (j.op != 0) = true := by rw [hj.op]; rcases ho with rfl | rfl <;> rfl
 rw [e1, hj.lim, hj.sum, decide_eq_false (by omega), w64 (by omega) (by omega), decide_eq_false (by omega), w64 (by omega) (by omega)]
 exact ⟨_, rfl, rfl, hj.op, by show (slen u : Int) + (n : Int) = _; omega, hj.txt, rfl, rfl, hj.chk⟩
theorem mid_tk {c : CS} {j j' : JS} (h0 : c.ctl = 0) (h1 : c.st = 1) {t : ByteArray} (h : if slen t = 0 then j' = j else pieceF j t = (0, j')) : if slen t = 0 then ({ c with j := j' } : CS) = { c with j := j } else takesF { c with j := j } 2 0 false 0 t = (none, { c with j := j' }) := by
 by_cases e : slen t = 0
 ·rw [if_pos e] at h ⊢; rw [h]
 ·rw [if_neg e] at h ⊢
  exact tk_piece (c := { c with j := j }) h0 h1 0 false 0 h
theorem first_tlc {c : CS} (h : Rst c) (hj : Jz c.j) {o : Int} (ho : o = 1 ∨ o = 2) {t : ByteArray} (hn : slen t ≤ 1000) (hb : o = 1 → (fedC fresh t).2.2 = false) : ∃ c', Rst c' ∧ Jm c'.j o t ∧ tlc (fdC c (frB false o t)) = ([], c') := by
 obtain ⟨j1, b1, b2, b3, b4, b5, b6, b7, b8⟩ := begin_first hj ho false hn
 have cn : cat ⟨#[]⟩ t = t := cat_nil t
 have hm1 : ∃ j2, (if slen t = 0 then j2 = j1 else pieceF j1 t = (0, j2)) ∧ j2.lim = 1000 ∧ j2.op = o ∧ j2.sum = slen t ∧ j2.last = false ∧ txtB j2.txt = t ∧ (o = 1 → chkG j2.chk = fedC fresh t) := by
  by_cases h0 : slen t = 0
  ·exact ⟨j1, by rw [if_pos h0], b2, b3, b4, b7, by rw [b5, emp_of h0]; rfl, fun _ => by rw [b8, emp_of h0]; rfl⟩
  ·simp only [if_neg h0]
   unfold pieceF
   rw [decide_eq_false (by omega), cond_false]
   by_cases h1 : o = 1
   ·have e : (j1.op == 1) = true := by rw [b3, h1]; rfl
    rw [e, cond_true, b8, hb h1]
    exact ⟨_, rfl, b2, b3, b4, b7, by show txtB (some (catO j1.txt t)) = _; rw [b5]; rfl, fun _ => rfl⟩
   ·have e : (j1.op == 1) = false := by rw [b3]; simpa using h1
    rw [e, cond_false]
    exact ⟨_, rfl, b2, b3, b4, b7, by show txtB (some (catO j1.txt t)) = _; rw [b5]; rfl, fun hh => absurd hh h1⟩
 obtain ⟨j2, p1, p2, p3, p4, p5, p6, p7⟩ := hm1
 have he : endF j2 = (0, ⟨#[]⟩, false, 0, { j2 with begun := false }) := by unfold endF; rw [p5]; rfl
 obtain ⟨y, y1, y2, y3, y4⟩ := fr_tlc (fin := false) (op := o) (d := t) h.r h.s0 h.i0 (by rw [h.st]; decide) ⟨.inl (by omega), hn⟩ (tk_begin h.ctl h.st (by omega) _ b1) (by show ¬ c.st = 3; rw [h.st]; decide) (mid_tk h.ctl h.st p1) (by show ¬ c.st = 3; rw [h.st]; decide) (tk_end (c := { c with j := j2 }) h.ctl h.st 0 false 0 ⟨#[]⟩ he)
 exact ⟨setR { c with j := { j2 with begun := false } } y, ⟨y3, h.st, h.ctl, y1, y2⟩, ⟨p2, p3, p4, p6, hn, p7⟩, y4⟩
theorem more_mid {c : CS} (h : Rst c) {o : Int} {u : ByteArray} (hj : Jm c.j o u) (ho : o = 1 ∨ o = 2) (last : Bool) {t : ByteArray} (hn : slen u + slen t ≤ 1000) (hb : o = 1 → (fedC fresh (cat u t)).2.2 = false) :
  ∃ j1 j2, beginF c.j last 0 (slen t) = (0, j1) ∧ (if slen t = 0 then j2 = j1 else pieceF j1 t = (0, j2)) ∧ j2.lim = 1000 ∧ j2.op = o ∧ j2.sum = slen (cat u t) ∧ j2.last = last ∧ txtB j2.txt = cat u t ∧ (o = 1 → chkG j2.chk = fedC fresh (cat u t)) := by
 obtain ⟨j1, b1, b2, b3, b4, b5, b6, b7, b8⟩ := begin_more hj ho last hn
 refine ⟨j1, ?_⟩
 by_cases h0 : slen t = 0
 ·refine ⟨j1, b1, by rw [if_pos h0], b2, b3, by rw [b4, slen_cat], b7, by rw [b5, emp_of h0, cat_none], fun hh => by rw [b8 hh, emp_of h0, cat_none]⟩
 ·simp only [if_neg h0]
  unfold pieceF
  rw [decide_eq_false (by omega), cond_false]
  by_cases h1 : o = 1
  ·have e : (j1.op == 1) = true := by rw [b3, h1]; rfl
   have hc : fedC (chkG j1.chk) t = fedC fresh (cat u t) := by rw [b8 h1, fedC_cat]
   rw [e, cond_true, hc, hb h1]
   exact ⟨_, b1, rfl, b2, b3, by rw [slen_cat]; exact b4, b7, by show txtB (some (catO j1.txt t)) = _; rw [txtB_catO, b5], fun _ => rfl⟩
  ·have e : (j1.op == 1) = false := by rw [b3]; simpa using h1
   rw [e, cond_false]
   exact ⟨_, b1, rfl, b2, b3, by rw [slen_cat]; exact b4, b7, by show txtB (some (catO j1.txt t)) = _; rw [txtB_catO, b5], fun hh => absurd hh h1⟩
theorem more_tlc {c : CS} (h : Rst c) {o : Int} {u : ByteArray} (hj : Jm c.j o u) (ho : o = 1 ∨ o = 2) {t : ByteArray} (hn : slen u + slen t ≤ 1000) (hb : o = 1 → (fedC fresh (cat u t)).2.2 = false) : ∃ c', Rst c' ∧ Jm c'.j o (cat u t) ∧ tlc (fdC c (frB false 0 t)) = ([], c') := by
 obtain ⟨j1, j2, b1, p1, p2, p3, p4, p5, p6, p7⟩ := more_mid h hj ho false hn hb
 have he : endF j2 = (0, ⟨#[]⟩, false, 0, { j2 with begun := false }) := by unfold endF; rw [p5]; rfl
 obtain ⟨y, y1, y2, y3, y4⟩ := fr_tlc (fin := false) (op := 0) (d := t) h.r h.s0 h.i0 (by rw [h.st]; decide) ⟨.inl (by omega), by omega⟩ (tk_begin h.ctl h.st (by omega) _ b1) (by show ¬ c.st = 3; rw [h.st]; decide) (mid_tk h.ctl h.st p1) (by show ¬ c.st = 3; rw [h.st]; decide) (tk_end (c := { c with j := j2 }) h.ctl h.st 0 false 0 ⟨#[]⟩ he)
 exact ⟨setR { c with j := { j2 with begun := false } } y, ⟨y3, h.st, h.ctl, y1, y2⟩, ⟨p2, p3, p4, p6, by rw [slen_cat]; exact hn, p7⟩, y4⟩
theorem last_tlc {c : CS} (h : Rst c) {o : Int} {u : ByteArray} (hj : Jm c.j o u) (ho : o = 1 ∨ o = 2) {t : ByteArray} (hn : slen u + slen t ≤ 1000) (hb : o = 1 → wholeD (0, 0, 0, 0) (toL (cat u t)) = true) : ∃ c', Rst c' ∧ Jz c'.j ∧ tlc (fdC c (frB true 0 t)) = ([(1, o, 0, cat u t)], c') := by
 have hw : o = 1 → (fedC fresh (cat u t)).2.2 = false ∧ (fedC fresh (cat u t)).1.1 = 0 := fun hh => by
  have := hb hh
  rw [wholeD_feed (at' := 0)] at this
  simp only [Bool.and_eq_true, Bool.not_eq_true', beq_iff_eq] at this
  exact this
 obtain ⟨j1, j2, b1, p1, p2, p3, p4, p5, p6, p7⟩ := more_mid h hj ho true hn (fun hh => (hw hh).1)
 have he : endF j2 = (o, cat u t, true, 0, { j2 with op := 0, sum := 0, begun := false, txt := none }) := by
  unfold endF
  rw [p5, p3, p6]
  by_cases h1 : o = 1
  ·rw [p7 h1, (hw h1).1, (hw h1).2, h1]; rfl
  ·have e : (o == 1) = false := by simpa using h1
   rw [e]; rfl
 obtain ⟨y, y1, y2, y3, y4⟩ := fr_tlc (fin := true) (op := 0) (d := t) h.r h.s0 h.i0 (by rw [h.st]; decide) ⟨.inl (by omega), by omega⟩ (tk_begin h.ctl h.st (by omega) _ b1) (by show ¬ c.st = 3; rw [h.st]; decide) (mid_tk h.ctl h.st p1) (by show ¬ c.st = 3; rw [h.st]; decide) (tk_end (c := { c with j := j2 }) h.ctl h.st 0 false 0 ⟨#[]⟩ he)
 exact ⟨setR { c with j := { j2 with op := 0, sum := 0, begun := false, txt := none } } y, ⟨y3, h.st, h.ctl, y1, y2⟩, ⟨p2, rfl, rfl, rfl⟩, y4⟩
end Go.Proofs.Ytfpnjpbdaniomaa

/-
  A connection, plain: what a stream of parts tells.
-/
set_option linter.unusedVariables false
set_option linter.unusedSimpArgs false
open Go Go.Am
namespace Go.Proofs.Ytfpnjpbdaniomaa

abbrev Prt : Type := ByteArray × ByteArray × Bool × Int × Int × Bool
noncomputable def tnV (k m : Int) : Int := turn_t0 k m
theorem turn_bd (k : Int) {m : Int} (h0 : 0 < m) (h1 : m ≤ 1000) : 0 ≤ tnV k m ∧ tnV k m < m := by
 have hb : -m < k.tmod m ∧ k.tmod m < m := by
  rcases Int.le_total 0 k with hk | hk
  ·rw [Int.tmod_eq_emod_of_nonneg hk]
   have := Int.emod_nonneg k (show m ≠ 0 by omega)
   have := Int.emod_lt_of_pos k h0
   omega
  ·obtain ⟨n, rfl⟩ : ∃ n, k = -n := ⟨-k, by omega⟩
   rw [Int.neg_tmod, Int.tmod_eq_emod_of_nonneg (by omega)]
   have := Int.emod_nonneg n (show m ≠ 0 by omega)
   have := Int.emod_lt_of_pos n h0
   omega
 have e : tnV k m = bif decide (k.tmod m < 0) then IntKind.i64.wrap (k.tmod m + m) else k.tmod m := rfl
 rw [e]
 by_cases c : k.tmod m < 0
 ·rw [decide_eq_true c, cond_true, wrap64_in (by omega) (by omega)]; omega
 ·rw [decide_eq_false c, cond_false]; omega
theorem turn_ok (k : Int) {m : Int} (h0 : 0 < m) : turn_S0 k m := by
 have : (m != 0) = true := by simp; omega
 exact ⟨fun _ => this, fun _ => this⟩
noncomputable def pOp (p : Prt) : Int := bif p.2.2.1 && wholeD (0, 0, 0, 0) (toL p.1) then 1 else 2
noncomputable def pA (p : Prt) : Int := tnV p.2.2.2.1 ((slen p.1 : Int) + 1)
noncomputable def pB (p : Prt) : Int := tnV p.2.2.2.2.1 ((slen p.1 : Int) - pA p + 1)
structure PrtOk (p : Prt) : Prop where
 t : slen p.1 ≤ 200
 g : slen p.2.1 ≤ 125
theorem p_bd {p : Prt} (h : PrtOk p) : 0 ≤ pA p ∧ pA p ≤ slen p.1 ∧ 0 ≤ pB p ∧ pA p + pB p ≤ slen p.1 := by
 have ht := h.t
 have a := turn_bd p.2.2.2.1 (m := (slen p.1 : Int) + 1) (by omega) (by omega)
 have e : pA p = tnV p.2.2.2.1 ((slen p.1 : Int) + 1) := rfl
 rw [← e] at a
 have b := turn_bd p.2.2.2.2.1 (m := (slen p.1 : Int) - pA p + 1) (by omega) (by omega)
 have e2 : pB p = tnV p.2.2.2.2.1 ((slen p.1 : Int) - pA p + 1) := rfl
 rw [← e2] at b
 omega
noncomputable def pF1 (p : Prt) : ByteArray := frB false (pOp p) (sub p.1 0 (pA p).toNat)
noncomputable def pFg (p : Prt) : ByteArray := bif p.2.2.2.2.2 then frB true 9 p.2.1 else frB true 10 p.2.1
noncomputable def pF2 (p : Prt) : ByteArray := frB false 0 (sub p.1 (pA p).toNat (pA p + pB p).toNat)
noncomputable def pF3 (p : Prt) : ByteArray := frB true 0 (sub p.1 (pA p + pB p).toNat (slen p.1))
noncomputable def pAdd (s : ByteArray) (p : Prt) : ByteArray := cat (cat (cat (cat s (pF1 p)) (pFg p)) (pF2 p)) (pF3 p)
noncomputable def pEv (p : Prt) : List EvT := (bif p.2.2.2.2.2 then [(2, 0, 0, p.2.1)] else []) ++ [(1, pOp p, 0, p.1)]
def Told (s : ByteArray) (l : List EvT) (c : CS) : Prop := tlc (fdC (c0 1000) s) = (l, c)
theorem told_inv {s : ByteArray} (hs : slen s ≤ 1000000) : CW (slen s) (fdC (c0 1000) s) := by
 have := fdC_inv (c0_inv 1000) (s := s) (k := slen s) (Nat.le_refl _) (by omega)
 rw [Nat.zero_add] at this
 exact this
theorem told_snoc3 {s f : ByteArray} {l l' : List EvT} {c c' : CS} (h : Told s l c) (hl : slen s + slen f ≤ 1000000) (h' : tlc (fdC c f) = (l', c')) : Eq3 (tlc (fdC (c0 1000) (cat s f))) (l ++ l', c') := by
 have w := tlc_feed f (B := slen s) (by omega) (mu (fdC (c0 1000) s).r + 1) (fdC (c0 1000) s) (Nat.lt_succ_self _) (told_inv (by omega))
 rw [fdC_fdC, show tlc (fdC (c0 1000) s) = (l, c) from h] at w
 dsimp only at w
 rw [h'] at w
 exact w
theorem told_snoc {s f : ByteArray} {l l' : List EvT} {c c' : CS} (h : Told s l c) (hl : slen s + slen f ≤ 1000000) (h' : tlc (fdC c f) = (l', c')) (hs : ¬ c'.st = 3) : Told (cat s f) (l ++ l') c' := by
 have w := told_snoc3 h hl h'
 have e : ¬ (tlc (fdC (c0 1000) (cat s f))).2.st = 3 := by rw [w.2.1]; exact hs
 exact Prod.ext w.1 (w.2.2 e)
theorem fr_le (fin : Bool) (op : Int) (d : ByteArray) : slen (frB fin op d) ≤ slen d + 8 := by
 rw [frB_len]
 have : hn (slen d) ≤ 8 := by unfold hn; split <;> omega
 omega
theorem sub_parts (s : ByteArray) {a b : Nat} (h : a ≤ b) (hb : b ≤ slen s) : cat (sub s 0 a) (sub s a b) = sub s 0 b := bext (by
 rw [toL_cat, toL_sub, toL_sub, toL_sub, List.drop_zero, Nat.sub_zero, Nat.sub_zero, ← List.drop_take]
 have : List.take a (toL s) = List.take a (List.take b (toL s)) := by rw [List.take_take, Nat.min_eq_left h]
 rw [this, List.take_append_drop])
theorem sub_full (s : ByteArray) {b : Nat} (hb : b ≤ slen s) : cat (sub s 0 b) (sub s b (slen s)) = s := by
 rw [sub_parts s hb (Nat.le_refl _), sub_self]
theorem part_told {s : ByteArray} {l : List EvT} {c : CS} {p : Prt} (h : Told s l c) (hr : Rst c) (hj : Jz c.j) (hp : PrtOk p) (hs : slen s ≤ 100000) :
  ∃ c', Told (pAdd s p) (l ++ pEv p) c' ∧ Rst c' ∧ Jz c'.j ∧ slen (pAdd s p) ≤ slen s + 1000 := by
 obtain ⟨a0, a1, b0, b1⟩ := p_bd hp
 have ht := hp.t
 have hg := hp.g
 have ho : pOp p = 1 ∨ pOp p = 2 := by unfold pOp; cases (p.2.2.1 && wholeD (0, 0, 0, 0) (toL p.1)) <;> simp
 have hw : pOp p = 1 → wholeD (0, 0, 0, 0) (toL p.1) = true := by
  unfold pOp
  cases e : (p.2.2.1 && wholeD (0, 0, 0, 0) (toL p.1)) with
  | true => intro _; simp only [Bool.and_eq_true] at e; exact e.2
  | false => intro h; exact absurd h (by decide)
 have hgood : pOp p = 1 → (fedC fresh p.1).2.2 = false := fun hh => by
  have := hw hh
  rw [wholeD_feed (at' := 0)] at this
  simp only [Bool.and_eq_true, Bool.not_eq_true', beq_iff_eq] at this
  exact this.1
 have l1 : slen (sub p.1 0 (pA p).toNat) = (pA p).toNat := by rw [slen_sub]; omega
 have l2 : slen (sub p.1 (pA p).toNat (pA p + pB p).toNat) = (pB p).toNat := by rw [slen_sub]; omega
 have l3 : slen (sub p.1 (pA p + pB p).toNat (slen p.1)) = slen p.1 - (pA p + pB p).toNat := by rw [slen_sub]; omega
 have c1 : cat (sub p.1 0 (pA p).toNat) (sub p.1 (pA p).toNat (pA p + pB p).toNat) = sub p.1 0 (pA p + pB p).toNat := sub_parts _ (by omega) (by omega)
 have c2 : cat (sub p.1 0 (pA p + pB p).toNat) (sub p.1 (pA p + pB p).toNat (slen p.1)) = p.1 := sub_full _ (by omega)
 have g2 : pOp p = 1 → (fedC fresh (sub p.1 0 (pA p + pB p).toNat)).2.2 = false := fun hh => good_pre (v := sub p.1 (pA p + pB p).toNat (slen p.1)) (by rw [c2]; exact hgood hh)
 have g1 : pOp p = 1 → (fedC fresh (sub p.1 0 (pA p).toNat)).2.2 = false := fun hh => good_pre (v := sub p.1 (pA p).toNat (pA p + pB p).toNat) (by rw [c1]; exact g2 hh)
 have f1 := fr_le false (pOp p) (sub p.1 0 (pA p).toNat)
 have f2 := fr_le false 0 (sub p.1 (pA p).toNat (pA p + pB p).toNat)
 have f3 := fr_le true 0 (sub p.1 (pA p + pB p).toNat (slen p.1))
 have fg : slen (pFg p) ≤ 133 := by
  unfold pFg
  cases p.2.2.2.2.2 with
  | true => have := fr_le true 9 p.2.1; rw [cond_true]; omega
  | false => have := fr_le true 10 p.2.1; rw [cond_false]; omega
 have k1 : slen (pF1 p) ≤ 208 := by unfold pF1; omega
 have k2 : slen (pF2 p) ≤ 208 := by unfold pF2; omega
 have k3 : slen (pF3 p) ≤ 208 := by unfold pF3; omega
 obtain ⟨x1, r1, m1, t1⟩ := first_tlc hr hj ho (t := sub p.1 0 (pA p).toNat) (by omega) g1
 have w1 := told_snoc h (by unfold pF1 at k1; omega) t1 (by rw [r1.st]; decide)
 rw [List.append_nil] at w1
 obtain ⟨x2, r2, m2, t2⟩ : ∃ c', Rst c' ∧ Jm c'.j (pOp p) (sub p.1 0 (pA p).toNat) ∧ tlc (fdC x1 (pFg p)) = ((bif p.2.2.2.2.2 then [(2, 0, 0, p.2.1)] else []), c') := by
  unfold pFg
  cases p.2.2.2.2.2 with
  | true =>
   obtain ⟨x2, r2, e2, t2⟩ := ping_tlc r1 hg
   exact ⟨x2, r2, by rw [e2]; exact m1, t2⟩
  | false =>
   obtain ⟨x2, r2, e2, t2⟩ := pong_tlc r1 hg
   exact ⟨x2, r2, by rw [e2]; exact m1, t2⟩
 have s1 : slen (cat s (pF1 p)) = slen s + slen (pF1 p) := slen_cat _ _
 have w2 := told_snoc w1 (by show slen (cat s (pF1 p)) + slen (pFg p) ≤ _; omega) t2 (by rw [r2.st]; decide)
 have s2 : slen (cat (cat s (pF1 p)) (pFg p)) = slen (cat s (pF1 p)) + slen (pFg p) := slen_cat _ _
 obtain ⟨x3, r3, m3, t3⟩ := more_tlc r2 m2 ho (t := sub p.1 (pA p).toNat (pA p + pB p).toNat) (by omega) (by rw [c1]; exact g2)
 have w3 := told_snoc w2 (by show slen (cat (cat s (pF1 p)) (pFg p)) + slen (pF2 p) ≤ _; omega) t3 (by rw [r3.st]; decide)
 rw [List.append_nil] at w3
 rw [c1] at m3
 have s3 : slen (cat (cat (cat s (pF1 p)) (pFg p)) (pF2 p)) = slen (cat (cat s (pF1 p)) (pFg p)) + slen (pF2 p) := slen_cat _ _
 have l4 : slen (sub p.1 0 (pA p + pB p).toNat) = (pA p + pB p).toNat := by rw [slen_sub]; omega
 obtain ⟨x4, r4, m4, t4⟩ := last_tlc r3 m3 ho (t := sub p.1 (pA p + pB p).toNat (slen p.1)) (by omega) (by rw [c2]; exact hw)
 have w4 := told_snoc w3 (by show slen (cat (cat (cat s (pF1 p)) (pFg p)) (pF2 p)) + slen (pF3 p) ≤ _; omega) t4 (by rw [r4.st]; decide)
 rw [c2, List.append_assoc] at w4
 refine ⟨x4, w4, r4, m4, ?_⟩
 have s4 : slen (pAdd s p) = slen (cat (cat (cat s (pF1 p)) (pFg p)) (pF2 p)) + slen (pF3 p) := slen_cat _ _
 omega
noncomputable def strm (l : List Prt) : ByteArray := l.foldl pAdd ⟨#[]⟩
noncomputable def wnt (l : List Prt) : List EvT := l.flatMap pEv
theorem strm_snoc (l : List Prt) (p : Prt) : strm (l ++ [p]) = pAdd (strm l) p := by unfold strm; rw [List.foldl_append]; rfl
theorem wnt_snoc (l : List Prt) (p : Prt) : wnt (l ++ [p]) = wnt l ++ pEv p := by unfold wnt; simp
theorem strm_told : ∀ (n : Nat) (l : List Prt), l.length = n → n ≤ 8 → (∀ p ∈ l, PrtOk p) → ∃ c, Told (strm l) (wnt l) c ∧ Rst c ∧ Jz c.j ∧ slen (strm l) ≤ n * 1000
 | 0, l, hn, _, _ => by
  obtain rfl := List.length_eq_zero_iff.1 hn
  have e : fdC (c0 1000) ⟨#[]⟩ = c0 1000 := by
   unfold fdC
   rw [if_neg (show ¬ (c0 1000).st = 3 from (by decide : ¬ (1 : Int) = 3)), fd_nil]
  refine ⟨c0 1000, ?_, ⟨(c0_inv 1000).r, rfl, rfl, rfl, rfl⟩, ⟨rfl, rfl, rfl, rfl⟩, by decide⟩
  show tlc (fdC (c0 1000) ⟨#[]⟩) = _
  rw [e]
  exact tlc_dry (.inr rfl)
 | n + 1, l, hn, hl, hp => by
  have hne : l ≠ [] := fun h => by rw [h] at hn; cases hn
  have e := List.dropLast_concat_getLast hne
  obtain ⟨c, h1, h2, h3, h4⟩ := strm_told n l.dropLast (by rw [List.length_dropLast]; omega) (by omega) (fun q hq => hp q (List.dropLast_subset _ hq))
  obtain ⟨c', k1, k2, k3, k4⟩ := part_told h1 h2 h3 (hp _ (List.getLast_mem hne)) (by omega)
  refine ⟨c', ?_, k2, k3, ?_⟩
  ·rw [← e, strm_snoc, wnt_snoc]; exact k1
  ·rw [← e, strm_snoc]; omega
noncomputable def cdD (code : Int) : ByteArray := bytesOf [.int .u8 (IntKind.u8.wrap (ishr .u16 code 8)), .int .u8 (IntKind.u8.wrap code)]
noncomputable def endE (code : Int) : EvT := bif mayP code then (3, 0, code, ⟨#[]⟩) else (4, 0, 1002, ⟨#[]⟩)
theorem cdD_T {code : Int} (h0 : 0 ≤ code) (h1 : code ≤ 65535) : cdT (cdD code) = bif mayP code then (code, ⟨#[]⟩, 0) else (0, ⟨#[]⟩, 1002) := by
 have e1 : IntKind.u8.wrap (ishr .u16 code 8) = code / 256 := by
  unfold ishr
  rw [show (2 : Int) ^ (min (8 : Int).toNat IntKind.u16.bits) = 256 from rfl, Int.fdiv_eq_ediv_of_nonneg _ (by omega), w8_in (by omega) (by omega)]
 have e2 : IntKind.u8.wrap code = code % 256 := by simp [IntKind.wrap, IntKind.bits, IntKind.signed]
 have e3 : codeOf (cdD code) = code := by
  unfold codeOf cdD
  rw [e1, e2]
  show 256 * ((UInt8.ofNat (code / 256).toNat).toNat : Int) + ((UInt8.ofNat (code % 256).toNat).toNat : Int) = code
  rw [UInt8.toNat_ofNat', UInt8.toNat_ofNat']
  omega
 have e4 : slen (cdD code) = 2 := rfl
 have e5 : sub (cdD code) 2 (slen (cdD code)) = ⟨#[]⟩ := by rw [e4]; exact bext (by rw [toL_sub]; rfl)
 unfold cdT
 rw [if_neg (by rw [e4]; decide), if_neg (by rw [e4]; decide), e3, e5]
 rfl
noncomputable def allS (l : List Prt) (code : Int) (late : ByteArray) : ByteArray := cat (cat (strm l) (frB true 8 (cdD code))) (frB true 9 late)
theorem all_told {l : List Prt} (hl : l.length ≤ 8) (hp : ∀ p ∈ l, PrtOk p) {code : Int} (h0 : 0 ≤ code) (h1 : code ≤ 65535) {late : ByteArray} (h2 : slen late ≤ 125) :
  (tlc (fdC (c0 1000) (allS l code late))).1 = wnt l ++ [endE code] ∧ (tlc (fdC (c0 1000) (allS l code late))).2.st = 3 ∧ slen (allS l code late) ≤ 9000 := by
 obtain ⟨c, k1, k2, k3, k4⟩ := strm_told l.length l rfl hl hp
 have e4 : slen (cdD code) = 2 := rfl
 have f1 := fr_le true 8 (cdD code)
 have f2 := fr_le true 9 late
 obtain ⟨c', s3, t1⟩ := close_tlc k2 (d := cdD code) (by omega)
 have ee : (if ¬ (cdT (cdD code)).2.2 = 0 then ((4, 0, (cdT (cdD code)).2.2, ⟨#[]⟩) : EvT) else (3, 0, (cdT (cdD code)).1, ⟨#[]⟩)) = endE code := by
  rw [cdD_T h0 h1]
  unfold endE
  cases mayP code <;> rfl
 rw [ee] at t1
 have w := told_snoc3 k1 (by omega) t1
 have sl : slen (cat (strm l) (frB true 8 (cdD code))) = slen (strm l) + slen (frB true 8 (cdD code)) := slen_cat _ _
 have sl2 : slen (allS l code late) = slen (cat (strm l) (frB true 8 (cdD code))) + slen (frB true 9 late) := slen_cat _ _
 have hst : (tlc (fdC (c0 1000) (cat (strm l) (frB true 8 (cdD code))))).2.st = 3 := by rw [w.2.1]; exact s3
 have t2 : tlc (fdC (tlc (fdC (c0 1000) (cat (strm l) (frB true 8 (cdD code))))).2 (frB true 9 late)) = ([], (tlc (fdC (c0 1000) (cat (strm l) (frB true 8 (cdD code))))).2) := by
  rw [fdC_3 hst, tlc_3 hst]
 have w2 := told_snoc3 (s := cat (strm l) (frB true 8 (cdD code))) (f := frB true 9 late) (l := (tlc (fdC (c0 1000) (cat (strm l) (frB true 8 (cdD code))))).1) (c := (tlc (fdC (c0 1000) (cat (strm l) (frB true 8 (cdD code))))).2) rfl (by omega) t2
 refine ⟨?_, ?_, by omega⟩
 ·have := w2.1
  rw [w.1, List.append_nil] at this
  exact this
 ·have := w2.2.1
  rw [hst] at this
  exact this
end Go.Proofs.Ytfpnjpbdaniomaa
