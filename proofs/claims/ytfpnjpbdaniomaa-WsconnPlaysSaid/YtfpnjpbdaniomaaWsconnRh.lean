/-
  The document's connection beside the program's, plain: what it does phase by phase, and that the program's does the same.
-/
import Derived.Test.YtfpnjpbdaniomaaWsconnRa
import Derived.Test.YtfpnjpbdaniomaaFramesG20
import Derived.Test.YtfpnjpbdaniomaaWsconnRc
import Derived.Test.YtfpnjpbdaniomaaAmSlim
import Derived.Test.YtfpnjpbdaniomaaEnv
import Derived.Test.YtfpnjpbdaniomaaMessageE20
set_option linter.unusedVariables false
set_option linter.unusedSimpArgs false
open Go Go.Am
namespace Go.Proofs.Ytfpnjpbdaniomaa

structure DC where
 inp : ByteArray
 st : Int
 bg : Bool
 fin : Bool
 masked : Bool
 least : Bool
 rsv : Int
 op : Int
 k0 : Int
 k1 : Int
 k2 : Int
 k3 : Int
 len : Int
 at' : Int
 data : ByteArray
 lim : Int
 j : DJt
noncomputable def hD (w : DC) : Heap := [some (.cells [.string w.inp, .pointer (some ⟨1, 0, none⟩), .int .i64 w.st, .bool w.bg, .bool w.fin, .bool w.masked, .bool w.least, .int .i64 w.rsv, .int .i64 w.op, .int .u8 w.k0, .int .u8 w.k1, .int .u8 w.k2, .int .u8 w.k3, .int .u64 w.len, .int .i64 w.at', .string w.data] 57 none), some (djO w.lim w.j)]
structure JSim (j : JS) (lim : Int) (q : DJt) (inF : Bool) : Prop where
 lm : j.lim = lim ∧ 0 ≤ lim ∧ lim ≤ 1099511627776
 bad : j.bad = 0 ∧ q.1 = 0
 op : j.op = q.2.1 ∧ (q.2.1 = 0 ∨ q.2.1 = 1 ∨ q.2.1 = 2)
 sum : j.sum = q.2.2.1 ∧ 0 ≤ q.2.2.1 ∧ q.2.2.1 ≤ lim
 txt : txtB j.txt = q.2.2.2.1
 emp : q.2.1 = 0 → q.2.2.2.1 = ⟨#[]⟩
 opn : inF = true → ¬ q.2.1 = 0
 begun : q.2.2.2.2.1 = inF
 last : inF = true → j.last = q.2.2.2.2.2.1 ∧ j.lacks = q.2.2.2.2.2.2
 chk : q.2.1 = 1 → chkG j.chk = feedL (0, 0, 0, 0) 0 false (toL q.2.2.2.1) ∧ badD q.2.2.2.1 = false
structure Fr (c : CS) (w : DC) : Prop where
 s1 : xSt c.r = 1
 key : xKey c.r = [w.k0, w.k1, w.k2, w.k3]
 len : xHl c.r = w.len
 told : xTold c.r = w.at'
 op : w.op = 0 ∨ w.op = 1 ∨ w.op = 2 ∨ w.op = 8 ∨ w.op = 9 ∨ w.op = 10
 ctl : c.ctl = if 8 ≤ w.op then w.op else 0
 data : 8 ≤ w.op → c.data = w.data
structure Sim (c : CS) (w : DC) : Prop where
 st : c.st = w.st
 inp : ¬ w.st = 3 → xIn c.r = w.inp
 head : ¬ w.st = 3 → w.bg = false → xSt c.r = 0
 fram : ¬ w.st = 3 → w.bg = true → Fr c w
 jn : w.st = 1 → JSim c.j w.lim w.j (w.bg && decide (w.op < 8))

/-! the joiners -/
theorem feedL_ap : ∀ (l m : List UInt8) (q : Q) (a : Int) (b : Bool), feedL q a b (l ++ m) = feedL (feedL q a b l).1 (feedL q a b l).2.1 (feedL q a b l).2.2 m
 | [], m, q, a, b => rfl
 | x :: l, m, q, a, true => by
  rw [feedL_bad, feedL_bad]
  show (q, a, true) = feedL q a true m
  rw [feedL_bad]
 | x :: l, m, q, a, false => by
  have e1 : ∀ r, feedL q a false (x :: r) = feedL (sst q x.toNat).2 (bif (sst q x.toNat).1 then a + 1 else a) (!(sst q x.toNat).1) r := fun _ => rfl
  rw [List.cons_append, e1, e1]
  exact feedL_ap l m _ _ _
theorem catO_txtB (o : Option ByteArray) (t : ByteArray) : catO o t = cat (txtB o) t := by
 cases o with
 | none => exact (cat_nil t).symm
 | some b => rfl
noncomputable def qBg (lim : Int) (q : DJt) (l : Bool) (o n : Int) : Int × DJt := dB lim q.2.1 q.2.2.1 q.2.2.2.1 q.2.2.2.2.2.1 q.2.2.2.2.2.2 l o n
noncomputable def qPc (q : DJt) (t : ByteArray) : Int × DJt := dP q.2.1 q.2.2.1 q.2.2.2.1 q.2.2.2.2.2.1 q.2.2.2.2.2.2 t
noncomputable def qEn (q : DJt) : (Int × ByteArray × Bool × Int) × DJt := dE q.2.1 q.2.2.1 q.2.2.2.1 q.2.2.2.2.2.1 q.2.2.2.2.2.2
theorem begin_sim {j : JS} {lim : Int} {q : DJt} (h : JSim j lim q false) {o n : Int} {l : Bool} (hn : 0 ≤ n) (ho : o = 0 ∨ o = 1 ∨ o = 2) :
  (beginF j l o n).1 = (qBg lim q l o n).1 ∧ ((qBg lim q l o n).1 = 0 → JSim (beginF j l o n).2 lim (qBg lim q l o n).2 true) := by
 obtain ⟨jlim, jop, jsum, jbad, jlacks, jbegun, jlast, jchk, jtxt⟩ := j
 obtain ⟨bad, op, sum, d, begun, last, left⟩ := q
 obtain ⟨⟨lm, l0, l1⟩, ⟨b0, b1⟩, ⟨p0, p1⟩, ⟨s0, s1, s2⟩, tx, em, on, bg, la, ch⟩ := h
 dsimp only at lm l0 l1 b0 b1 p0 p1 s0 s1 s2 tx em on bg la ch
 subst lm p0 s0 b0 b1 bg
 unfold beginF qBg dB
 dsimp only
 rw [decide_eq_false (show ¬ n < 0 by omega)]
 cases c2 : !((o == 0) == (jop != 0)) with
 | true => exact ⟨rfl, fun h => absurd (show (1002 : Int) = 0 from h) (by decide)⟩
 | false =>
  rw [wrap64_in (x := jlim - jsum) (by omega) (by omega)]
  by_cases c3 : jlim - jsum < n
  ·rw [decide_eq_true c3]
   exact ⟨rfl, fun h => absurd (show (1009 : Int) = 0 from h) (by decide)⟩
  ·rw [decide_eq_false c3]
   rw [wrap64_in (x := jsum + n) (by omega) (by omega)]
   by_cases h0 : o = 0
   ·subst h0
    have hop : ¬ jop = 0 := fun hz => by
     rw [hz] at c2; cases c2
    exact ⟨rfl, fun _ => ⟨⟨rfl, l0, l1⟩, ⟨rfl, rfl⟩, ⟨rfl, p1⟩, ⟨rfl, by show 0 ≤ jsum + n; omega, by show jsum + n ≤ jlim; omega⟩, tx, em, fun _ => hop, rfl, fun _ => ⟨rfl, rfl⟩, ch⟩⟩
   ·have e : (o == 0) = false := by simpa using h0
    have hop : jop = 0 := by
     rw [e] at c2
     by_cases hz : jop = 0
     ·exact hz
     ·have : (jop != 0) = true := by simpa using hz
      rw [this] at c2; cases c2
    rw [e]
    exact ⟨rfl, fun _ => ⟨⟨rfl, l0, l1⟩, ⟨rfl, rfl⟩, ⟨rfl, ho⟩, ⟨rfl, by show 0 ≤ jsum + n; omega, by show jsum + n ≤ jlim; omega⟩, tx.trans (em hop), fun h => absurd h h0, fun _ => h0, rfl, fun _ => ⟨rfl, rfl⟩, fun _ => ⟨rfl, rfl⟩⟩⟩
theorem piece_sim {j : JS} {lim : Int} {q : DJt} (h : JSim j lim q true) {t : ByteArray} (ht : (slen t : Int) ≤ j.lacks) :
  (pieceF j t).1 = (qPc q t).1 ∧ ((qPc q t).1 = 0 → JSim (pieceF j t).2 lim (qPc q t).2 true) := by
 obtain ⟨jlim, jop, jsum, jbad, jlacks, jbegun, jlast, jchk, jtxt⟩ := j
 obtain ⟨bad, op, sum, d, begun, last, left⟩ := q
 obtain ⟨⟨lm, l0, l1⟩, ⟨b0, b1⟩, ⟨p0, p1⟩, ⟨s0, s1, s2⟩, tx, em, on, bg, la, ch⟩ := h
 dsimp only at lm l0 l1 b0 b1 p0 p1 s0 s1 s2 tx em on bg la ch ht
 obtain ⟨la1, la2⟩ := la rfl
 subst lm p0 s0 b0 b1 bg la1 la2
 have hf : jop = 1 → fedC (chkG jchk) t = feedL (0, 0, 0, 0) 0 false (toL (cat d t)) := fun h1 => by
  rw [(ch h1).1, toL_cat, feedL_ap]
  rfl
 unfold pieceF qPc dP
 dsimp only
 rw [decide_eq_false (show ¬ jlacks < (slen t : Int) by omega), catO_txtB, tx]
 cases c1 : jop == 1 with
 | false =>
  have n1 : ¬ jop = 1 := by simpa using c1
  exact ⟨rfl, fun _ => ⟨⟨rfl, l0, l1⟩, ⟨rfl, rfl⟩, ⟨rfl, p1⟩, ⟨rfl, s1, s2⟩, rfl, fun h => absurd h (on rfl), on, rfl, fun _ => ⟨rfl, rfl⟩, fun h => absurd h n1⟩⟩
 | true =>
  have e1 : jop = 1 := by simpa using c1
  rw [hf e1]
  cases c2 : badD (cat d t) with
  | true =>
   have c3 : (feedL (0, 0, 0, 0) 0 false (toL (cat d t))).2.2 = true := c2
   rw [c3]
   exact ⟨rfl, fun h => absurd (show (1007 : Int) = 0 from h) (by decide)⟩
  | false =>
   have c3 : (feedL (0, 0, 0, 0) 0 false (toL (cat d t))).2.2 = false := c2
   rw [c3]
   exact ⟨rfl, fun _ => ⟨⟨rfl, l0, l1⟩, ⟨rfl, rfl⟩, ⟨rfl, p1⟩, ⟨rfl, s1, s2⟩, rfl, fun h => absurd h (on rfl), on, rfl, fun _ => ⟨rfl, rfl⟩, fun _ => ⟨rfl, c2⟩⟩⟩
theorem end_sim {j : JS} {lim : Int} {q : DJt} (h : JSim j lim q true) :
  (endF j).1 = (qEn q).1.1 ∧ (endF j).2.1 = (qEn q).1.2.1 ∧ (endF j).2.2.1 = (qEn q).1.2.2.1 ∧ (endF j).2.2.2.1 = (qEn q).1.2.2.2 ∧ ((qEn q).1.2.2.2 = 0 → JSim (endF j).2.2.2.2 lim (qEn q).2 false) := by
 obtain ⟨jlim, jop, jsum, jbad, jlacks, jbegun, jlast, jchk, jtxt⟩ := j
 obtain ⟨bad, op, sum, d, begun, last, left⟩ := q
 obtain ⟨⟨lm, l0, l1⟩, ⟨b0, b1⟩, ⟨p0, p1⟩, ⟨s0, s1, s2⟩, tx, em, on, bg, la, ch⟩ := h
 dsimp only at lm l0 l1 b0 b1 p0 p1 s0 s1 s2 tx em on bg la ch
 obtain ⟨la1, la2⟩ := la rfl
 subst lm p0 s0 b0 b1 bg la1 la2
 have hf : jop = 1 → (!(chkG jchk).1.1 == 0 || (chkG jchk).2.2) = !textD d := fun h1 => by
  have hw : textD d = (!(feedL (0, 0, 0, 0) 0 false (toL d)).2.2 && (feedL (0, 0, 0, 0) 0 false (toL d)).1.1 == 0) := by unfold textD; rw [wholeD_feed (at' := 0)]
  rw [(ch h1).1, hw]
  cases (feedL (0, 0, 0, 0) 0 false (toL d)).2.2 <;> cases ((feedL (0, 0, 0, 0) 0 false (toL d)).1.1 == 0) <;> rfl
 unfold endF qEn dE
 dsimp only
 rw [tx]
 cases c1 : !jlast with
 | true => exact ⟨rfl, rfl, rfl, rfl, fun _ => ⟨⟨rfl, l0, l1⟩, ⟨rfl, rfl⟩, ⟨rfl, p1⟩, ⟨rfl, s1, s2⟩, tx, em, fun h => (by cases h), rfl, fun h => (by cases h), ch⟩⟩
 | false =>
  have hok : JSim ⟨jlim, 0, 0, 0, jlacks, false, jlast, jchk, none⟩ jlim (0, 0, 0, ⟨#[]⟩, false, jlast, jlacks) false :=
   ⟨⟨rfl, l0, l1⟩, ⟨rfl, rfl⟩, ⟨rfl, .inl rfl⟩, ⟨rfl, Int.le_refl _, l0⟩, rfl, fun _ => rfl, fun h => (by cases h), rfl, fun h => (by cases h), fun h => absurd (show (0 : Int) = 1 from h) (by decide)⟩
  cases c2 : jop == 1 with
  | false =>
   exact ⟨rfl, rfl, rfl, rfl, fun _ => hok⟩
  | true =>
   rw [hf (by simpa using c2)]
   cases c3 : !textD d with
   | true => exact ⟨rfl, rfl, rfl, rfl, fun h => absurd (show (1007 : Int) = 0 from h) (by decide)⟩
   | false => exact ⟨rfl, rfl, rfl, rfl, fun _ => hok⟩

/-! the document's connection: the phases -/
noncomputable def hdA (w : DC) : DC := { w with inp := sub w.inp (hN w.inp).toNat (slen w.inp), bg := true, fin := decide (128 ≤ chr w.inp 0), masked := hMask w.inp, least := hLeast w.inp, rsv := chr w.inp 0 / 16 % 8, op := chr w.inp 0 % 16, k0 := hKey w.inp 0, k1 := hKey w.inp 1, k2 := hKey w.inp 2, k3 := hKey w.inp 3, len := hLen w.inp, at' := 0, data := ⟨#[]⟩ }
noncomputable def qB (w : DC) : Int × DJt := qBg w.lim w.j (decide (128 ≤ chr w.inp 0)) (chr w.inp 0 % 16) (hLen w.inp)
noncomputable def dA (w : DC) : Option (Option EvT) × DC :=
 if w.bg = true then (none, w)
 else if hOk w.inp = false then (some none, w)
 else if mayS true w.inp = false then (some (some (4, 0, 1002, ⟨#[]⟩)), { w with inp := sub w.inp (hN w.inp).toNat (slen w.inp), st := 3 })
 else if 8 ≤ chr w.inp 0 % 16 ∨ ¬ w.st = 1 then (none, hdA w)
 else if ¬ (qB w).1 = 0 then (some (some (4, 0, (qB w).1, ⟨#[]⟩)), { hdA w with st := 3, j := (qB w).2 })
 else (none, { hdA w with j := (qB w).2 })
noncomputable def nD (w : DC) : Nat := min (slen w.inp) (w.len - w.at').toNat
noncomputable def msD (w : DC) : ByteArray := maskD [w.k0, w.k1, w.k2, w.k3] w.at' (sub w.inp 0 (nD w))
noncomputable def cutD (w : DC) : DC := { w with inp := sub w.inp (nD w) (slen w.inp), at' := w.at' + nD w }
noncomputable def dBt (w : DC) : Option (Option EvT) × DC :=
 if 8 ≤ w.op then (none, { cutD w with data := cat w.data (msD w) })
 else if ¬ (w.st = 1 ∧ 0 < nD w) then (none, cutD w)
 else if ¬ (qPc w.j (msD w)).1 = 0 then (some (some (4, 0, (qPc w.j (msD w)).1, ⟨#[]⟩)), { cutD w with st := 3, j := (qPc w.j (msD w)).2 })
 else (none, { cutD w with j := (qPc w.j (msD w)).2 })
noncomputable def dEt (w : DC) : Option (Option EvT) × DC :=
 if w.at' < w.len then (some none, w)
 else if w.op = 8 then
  if ¬ (cdT w.data).2.2 = 0 then (some (some (4, 0, (cdT w.data).2.2, ⟨#[]⟩)), { w with bg := false, st := 3 })
  else (some (some (3, 0, (cdT w.data).1, ⟨#[]⟩)), { w with bg := false, st := 3 })
 else if ¬ w.st = 1 ∨ w.op = 10 then (none, { w with bg := false })
 else if w.op = 9 then (some (some (2, 0, 0, w.data)), { w with bg := false })
 else if ¬ (qEn w.j).1.2.2.2 = 0 then (some (some (4, 0, (qEn w.j).1.2.2.2, ⟨#[]⟩)), { w with bg := false, st := 3, j := (qEn w.j).2 })
 else if (qEn w.j).1.2.2.1 = true then (some (some (1, (qEn w.j).1.1, 0, (qEn w.j).1.2.1)), { w with bg := false, j := (qEn w.j).2 })
 else (none, { w with bg := false, j := (qEn w.j).2 })
noncomputable def dNx : Nat → DC → Option EvT × DC
 | 0, w => (none, w)
 | n + 1, w => if w.st = 3 then (none, w) else
  match dA w with
  | (some r, w') => (r, w')
  | (none, w1) =>
   match dBt w1 with
   | (some r, w') => (r, w')
   | (none, w2) =>
    match dEt w2 with
    | (some r, w') => (r, w')
    | (none, w3) => dNx n w3
def Stp (c : CS) (e : Option EvT) (c' : CS) : Prop := rOk (stepT true c.r) = true ∧ takeR c (evR (stepT true c.r)) (rx (stepT true c.r)) = (e, c')
def PhR (c : CS) (q : Option (Option EvT) × DC) (P : CS → DC → Prop) : Prop :=
 match q with
 | (some none, w') => rOk (stepT true c.r) = false ∧ Sim c w'
 | (some (some e), w') => ∃ c', Stp c (some e) c' ∧ Sim c' w'
 | (none, w') => ∃ c', (c' = c ∨ Stp c none c') ∧ Sim c' w' ∧ P c' w'
theorem sim3 {c : CS} {w : DC} (h : c.st = 3) (h' : w.st = 3) : Sim c w := ⟨h.trans h'.symm, fun n => absurd h' n, fun n => absurd h' n, fun n => absurd h' n, fun n => by omega⟩
theorem phA {B : Nat} {c : CS} {w : DC} (h : CW B c) (s : Sim c w) (hs : ¬ w.st = 3) : PhR c (dA w) (fun _ w => w.bg = true ∧ ¬ w.st = 3) := by
 unfold dA
 by_cases hb : w.bg = true
 ·rw [if_pos hb]
  exact ⟨c, .inl rfl, s, hb, hs⟩
 rw [if_neg hb]
 have hb : w.bg = false := by simpa using hb
 have x0 := s.head hs hb
 have xi := s.inp hs
 have hc : c.ctl = 0 := Classical.byContradiction fun hc => by have := h.ctl hc; omega
 have est := stepT_0 (m := true) x0
 rw [xi] at est
 by_cases ho : hOk w.inp = false
 ·rw [if_pos ho]
  refine ⟨?_, s⟩
  rw [est, ho]; rfl
 rw [if_neg ho]
 have ho : hOk w.inp = true := by simpa using ho
 by_cases hm : mayS true w.inp = false
 ·rw [if_pos hm]
  rw [ho, hm] at est
  have est : stepT true c.r = mkR 4 0 false 0 ⟨#[]⟩ true (xSet c.r 2 ⟨#[]⟩ (xTold c.r)) := est
  refine ⟨{ c with r := xSet c.r 2 ⟨#[]⟩ (xTold c.r), st := 3 }, ⟨by rw [est]; rfl, ?_⟩, sim3 rfl rfl⟩
  rw [est]
  show takesF { c with r := xSet c.r 2 ⟨#[]⟩ (xTold c.r) } 4 0 false 0 ⟨#[]⟩ = _
  unfold takesF
  rw [if_pos rfl]
 rw [if_neg hm]
 have hm : mayS true w.inp = true := by simpa using hm
 rw [ho, hm] at est
 have est : stepT true c.r = mkR 1 (chr w.inp 0 % 16) (decide (128 ≤ chr w.inp 0)) (hLen w.inp) ⟨#[]⟩ true (xHead w.inp) := est
 have key : ∀ q, takesF { c with r := xHead w.inp } 1 (chr w.inp 0 % 16) (decide (128 ≤ chr w.inp 0)) (hLen w.inp) ⟨#[]⟩ = q → Stp c q.1 q.2 := fun q hq => by
  refine ⟨by rw [est]; rfl, ?_⟩
  rw [est]
  exact hq
 have opb := may_op hm
 have n2 := hLen_bd w.inp
 by_cases c8 : 8 ≤ chr w.inp 0 % 16
 ·rw [if_pos (.inl c8)]
  refine ⟨{ c with r := xHead w.inp, ctl := chr w.inp 0 % 16, data := ⟨#[]⟩ }, .inr (key (none, _) ?_), ⟨s.st, fun _ => rfl, fun _ hb => (by cases hb), fun _ _ => ⟨rfl, rfl, rfl, rfl, opb, (if_pos c8).symm, fun _ => rfl⟩, fun h1 => ?_⟩, rfl, hs⟩
  ·unfold takesF
   rw [if_neg (by omega), if_pos ⟨rfl, c8⟩]
  ·have j := s.jn h1
   rw [hb] at j
   show JSim c.j w.lim w.j (true && decide (chr w.inp 0 % 16 < 8))
   rw [decide_eq_false (by omega)]
   exact j
 have ho3 : chr w.inp 0 % 16 = 0 ∨ chr w.inp 0 % 16 = 1 ∨ chr w.inp 0 % 16 = 2 := by omega
 by_cases c1 : w.st = 1
 ·rw [if_neg (by omega)]
  have j := s.jn c1
  rw [hb] at j
  obtain ⟨b1, b2⟩ := begin_sim (l := decide (128 ≤ chr w.inp 0)) (n := hLen w.inp) j n2.1 ho3
  have tk : takesF { c with r := xHead w.inp } 1 (chr w.inp 0 % 16) (decide (128 ≤ chr w.inp 0)) (hLen w.inp) ⟨#[]⟩ = if ¬ (qB w).1 = 0 then (some (4, 0, (qB w).1, ⟨#[]⟩), { c with r := xHead w.inp, st := 3, j := (beginF c.j (decide (128 ≤ chr w.inp 0)) (chr w.inp 0 % 16) (hLen w.inp)).2 }) else (none, { c with r := xHead w.inp, j := (beginF c.j (decide (128 ≤ chr w.inp 0)) (chr w.inp 0 % 16) (hLen w.inp)).2 }) := by
   unfold takesF qB
   rw [if_neg (by omega), if_neg (fun hh => c8 hh.2), if_neg (fun hh => hh hc), if_neg (fun hh => hh (s.st.trans c1)), if_pos rfl]
   dsimp only
   rw [b1]
  by_cases cb : (qB w).1 = 0
  ·rw [if_neg (fun hh => hh cb)]
   rw [if_neg (fun hh => hh cb)] at tk
   refine ⟨_, .inr (key _ tk), ⟨s.st, fun _ => rfl, fun _ hb => (by cases hb), fun _ _ => ⟨rfl, rfl, rfl, rfl, opb, ?_, fun hh => absurd hh c8⟩, fun h1 => ?_⟩, rfl, hs⟩
   ·show c.ctl = if 8 ≤ chr w.inp 0 % 16 then _ else 0
    rw [if_neg c8]; exact hc
   ·show JSim _ w.lim (qB w).2 (true && decide (chr w.inp 0 % 16 < 8))
    rw [decide_eq_true (show chr w.inp 0 % 16 < 8 by omega)]
    exact b2 cb
  ·rw [if_pos cb]
   rw [if_pos cb] at tk
   exact ⟨_, key _ tk, sim3 rfl rfl⟩
 ·rw [if_pos (.inr c1)]
  refine ⟨{ c with r := xHead w.inp }, .inr (key (none, _) ?_), ⟨s.st, fun _ => rfl, fun _ hb => (by cases hb), fun _ _ => ⟨rfl, rfl, rfl, rfl, opb, ?_, fun hh => absurd hh c8⟩, fun h1 => absurd h1 c1⟩, rfl, hs⟩
  ·unfold takesF
   rw [if_neg (by omega), if_neg (fun hh => c8 hh.2), if_neg (fun hh => hh hc), if_pos (fun hh => c1 (s.st.symm.trans hh))]
  ·show c.ctl = if 8 ≤ chr w.inp 0 % 16 then _ else 0
   rw [if_neg c8]; exact hc
theorem cutD_0 {w : DC} (h : nD w = 0) : cutD w = w ∧ msD w = ⟨#[]⟩ := by
 have e2 : sub w.inp 0 0 = ⟨#[]⟩ := bext (by rw [toL_sub]; rfl)
 have e3 : msD w = ⟨#[]⟩ := by
  unfold msD
  rw [h, e2]
  unfold maskD
  cases decide (w.at' < 0) <;> rfl
 refine ⟨?_, e3⟩
 unfold cutD
 rw [h, sub_self]
 show ({ w with at' := w.at' + (0 : Int) } : DC) = w
 rw [Int.add_zero]
theorem fr_bd {B : Nat} {c : CS} {w : DC} (h : CW B c) (f : Fr c w) : 0 ≤ w.at' ∧ w.at' ≤ w.len ∧ w.len ≤ 9223372036854775807 := by
 rcases h.r.st with q | q | q
 ·have := f.s1; omega
 ·have := f.s1; omega
 ·have := f.told; have := f.len; omega
theorem fr_n {c : CS} {w : DC} (s : Sim c w) (hs : ¬ w.st = 3) (f : Fr c w) : nOf c.r = nD w := by
 unfold nOf nD
 rw [s.inp hs, f.len, f.told]
theorem fr_ms {w : DC} : slen (msD w) = nD w := by
 unfold msD
 rw [slen_mask, slen_sub]
 unfold nD
 omega
theorem phB {B : Nat} {c : CS} {w : DC} (h : CW B c) (s : Sim c w) (hs : ¬ w.st = 3) (hb : w.bg = true) : PhR c (dBt w) (fun _ w => w.bg = true ∧ ¬ w.st = 3 ∧ (w.at' < w.len → slen w.inp = 0)) := by
 have f := s.fram hs hb
 have xi := s.inp hs
 have hn := fr_n s hs f
 have hI := fr_bd h f
 have post : w.at' + nD w < w.len → slen (sub w.inp (nD w) (slen w.inp)) = 0 := fun _ => by
  rw [slen_sub]; unfold nD at *; omega
 by_cases n0 : nD w = 0
 ·obtain ⟨e1, e2⟩ := cutD_0 n0
  have ed : dBt w = (none, w) := by
   unfold dBt
   by_cases c8 : 8 ≤ w.op
   ·rw [if_pos c8, e2, cat_none, e1]
   ·rw [if_neg c8, if_pos (fun hh => by omega), e1]
  rw [ed]
  exact ⟨c, .inl rfl, s, hb, hs, fun hlt => by unfold nD at n0; omega⟩
 have hx : ¬ xHl c.r = xTold c.r := fun hh => n0 (by rw [f.len, f.told] at hh; unfold nD; omega)
 have hz : ¬ slen (xIn c.r) = 0 := fun hh => n0 (by rw [xi] at hh; unfold nD; omega)
 have est : stepT true c.r = mkR 2 0 false 0 (msD w) true (xSet c.r 1 (sub w.inp (nD w) (slen w.inp)) (w.at' + nD w)) := by
  rw [stepT_p f.s1 hx hz, hn, xi, f.key, f.told, f.s1]
  rfl
 have key : ∀ q, takesF { c with r := xSet c.r 1 (sub w.inp (nD w) (slen w.inp)) (w.at' + nD w) } 2 0 false 0 (msD w) = q → Stp c q.1 q.2 := fun q hq => by
  refine ⟨by rw [est]; rfl, ?_⟩
  rw [est]
  exact hq
 unfold dBt
 by_cases c8 : 8 ≤ w.op
 ·have hc : ¬ c.ctl = 0 := by rw [f.ctl, if_pos c8]; omega
  rw [if_pos c8]
  refine ⟨{ c with r := xSet c.r 1 (sub w.inp (nD w) (slen w.inp)) (w.at' + nD w), data := cat c.data (msD w) }, .inr (key (none, _) ?_), ⟨s.st, fun _ => rfl, fun _ hh => (by rw [show (cutD w).bg = w.bg from rfl, hb] at hh; cases hh), fun _ _ => ⟨rfl, f.key, f.len, rfl, f.op, f.ctl, fun _ => ?_⟩, s.jn⟩, hb, hs, post⟩
  ·unfold takesF
   rw [if_neg (by omega), if_neg (fun hh => absurd hh.1 (by decide)), if_pos hc, if_pos rfl]
  ·show cat c.data (msD w) = cat w.data (msD w)
   rw [f.data c8]
 rw [if_neg c8]
 have hc : c.ctl = 0 := by rw [f.ctl, if_neg c8]
 by_cases c1 : w.st = 1
 ·rw [if_neg (fun hh => hh ⟨c1, by omega⟩)]
  have j := s.jn c1
  rw [hb, decide_eq_true (show w.op < 8 by omega)] at j
  have jl := h.jl (s.st.trans c1)
  have hlk := jl.lk (jl.bg.2 ⟨f.s1, hc⟩)
  obtain ⟨p1, p2⟩ := piece_sim (t := msD w) j (by rw [fr_ms, hlk, f.len, f.told]; unfold nD; omega)
  have tk : takesF { c with r := xSet c.r 1 (sub w.inp (nD w) (slen w.inp)) (w.at' + nD w) } 2 0 false 0 (msD w) = if ¬ (qPc w.j (msD w)).1 = 0 then (some (4, 0, (qPc w.j (msD w)).1, ⟨#[]⟩), { c with r := xSet c.r 1 (sub w.inp (nD w) (slen w.inp)) (w.at' + nD w), st := 3, j := (pieceF c.j (msD w)).2 }) else (none, { c with r := xSet c.r 1 (sub w.inp (nD w) (slen w.inp)) (w.at' + nD w), j := (pieceF c.j (msD w)).2 }) := by
   unfold takesF
   rw [if_neg (by omega), if_neg (fun hh => absurd hh.1 (by decide)), if_neg (fun hh => hh hc), if_neg (fun hh => hh (s.st.trans c1)), if_neg (by omega), if_pos rfl]
   dsimp only
   rw [p1]
  by_cases cb : (qPc w.j (msD w)).1 = 0
  ·rw [if_neg (fun hh => hh cb)]
   rw [if_neg (fun hh => hh cb)] at tk
   refine ⟨_, .inr (key _ tk), ⟨s.st, fun _ => rfl, fun _ hh => (by rw [show (cutD w).bg = w.bg from rfl, hb] at hh; cases hh), fun _ _ => ⟨rfl, f.key, f.len, rfl, f.op, f.ctl, fun hh => absurd hh c8⟩, fun _ => ?_⟩, hb, hs, post⟩
   show JSim _ w.lim (qPc w.j (msD w)).2 (w.bg && decide (w.op < 8))
   rw [hb, decide_eq_true (by omega)]
   exact p2 cb
  ·rw [if_pos cb]
   rw [if_pos cb] at tk
   exact ⟨_, key _ tk, sim3 rfl rfl⟩
 ·rw [if_pos (fun hh => c1 hh.1)]
  refine ⟨{ c with r := xSet c.r 1 (sub w.inp (nD w) (slen w.inp)) (w.at' + nD w) }, .inr (key (none, _) ?_), ⟨s.st, fun _ => rfl, fun _ hh => (by rw [show (cutD w).bg = w.bg from rfl, hb] at hh; cases hh), fun _ _ => ⟨rfl, f.key, f.len, rfl, f.op, f.ctl, fun hh => absurd hh c8⟩, fun hh => absurd hh c1⟩, hb, hs, post⟩
  unfold takesF
  rw [if_neg (by omega), if_neg (fun hh => absurd hh.1 (by decide)), if_neg (fun hh => hh hc), if_pos (fun hh => c1 (s.st.symm.trans hh))]
theorem phC {B : Nat} {c : CS} {w : DC} (h : CW B c) (s : Sim c w) (hs : ¬ w.st = 3) (hb : w.bg = true) (he : w.at' < w.len → slen w.inp = 0) : PhR c (dEt w) (fun c' _ => Stp c none c') := by
 have f := s.fram hs hb
 have xi := s.inp hs
 have hI := fr_bd h f
 unfold dEt
 by_cases c0 : w.at' < w.len
 ·rw [if_pos c0]
  refine ⟨?_, s⟩
  rw [stepT_n f.s1 (by rw [f.len, f.told]; omega) (by rw [xi]; exact he c0)]
  rfl
 rw [if_neg c0]
 have est : stepT true c.r = mkR 3 0 false 0 ⟨#[]⟩ true (xSet c.r 0 (xIn c.r) (xTold c.r)) := stepT_e f.s1 (by rw [f.len, f.told]; omega)
 have key : ∀ q, takesF { c with r := xSet c.r 0 (xIn c.r) (xTold c.r) } 3 0 false 0 ⟨#[]⟩ = q → Stp c q.1 q.2 := fun q hq => by
  refine ⟨by rw [est]; rfl, ?_⟩
  rw [est]
  exact hq
 have hop := f.op
 by_cases c8 : 8 ≤ w.op
 ·have hctl : c.ctl = w.op := by rw [f.ctl, if_pos c8]
  have hc : ¬ c.ctl = 0 := by omega
  have jk : w.st = 1 → JSim c.j w.lim w.j (false && decide (w.op < 8)) := fun h1 => by
   have j := s.jn h1
   rw [hb, decide_eq_false (by omega)] at j
   exact j
  have sim : ∀ c', c'.st = c.st → c'.r = xSet c.r 0 (xIn c.r) (xTold c.r) → c'.j = c.j → Sim c' { w with bg := false } := fun c' e1 e2 e3 => ⟨e1.trans s.st, fun _ => by rw [e2]; exact xi, fun _ _ => by rw [e2]; rfl, fun _ hh => (by cases hh), fun h1 => by rw [e3]; exact jk h1⟩
  have tk : takesF { c with r := xSet c.r 0 (xIn c.r) (xTold c.r) } 3 0 false 0 ⟨#[]⟩ = if w.op = 8 then
    if ¬ (cdT w.data).2.2 = 0 then (some (4, 0, (cdT w.data).2.2, ⟨#[]⟩), { c with r := xSet c.r 0 (xIn c.r) (xTold c.r), st := 3, ctl := 0 })
    else (some (3, 0, (cdT w.data).1, ⟨#[]⟩), { c with r := xSet c.r 0 (xIn c.r) (xTold c.r), st := 3, ctl := 0 })
   else if w.op = 9 ∧ w.st = 1 then (some (2, 0, 0, w.data), { c with r := xSet c.r 0 (xIn c.r) (xTold c.r), ctl := 0 })
   else (none, { c with r := xSet c.r 0 (xIn c.r) (xTold c.r), ctl := 0 }) := by
   rw [← f.data c8, ← hctl, ← s.st]
   unfold takesF
   rw [if_neg (by omega), if_neg (fun hh => absurd hh.1 (by decide)), if_pos hc, if_neg (by omega)]
  by_cases o8 : w.op = 8
  ·rw [if_pos o8]
   rw [if_pos o8] at tk
   by_cases cd : ¬ (cdT w.data).2.2 = 0
   ·rw [if_pos cd]
    rw [if_pos cd] at tk
    exact ⟨_, key _ tk, sim3 rfl rfl⟩
   ·rw [if_neg cd]
    rw [if_neg cd] at tk
    exact ⟨_, key _ tk, sim3 rfl rfl⟩
  ·rw [if_neg o8]
   rw [if_neg o8] at tk
   by_cases c1 : ¬ w.st = 1 ∨ w.op = 10
   ·rw [if_pos c1]
    rw [if_neg (by omega)] at tk
    exact ⟨_, .inr (key _ tk), sim _ rfl rfl rfl, key _ tk⟩
   ·rw [if_neg c1, if_pos (by omega)]
    rw [if_pos (by omega)] at tk
    exact ⟨_, key _ tk, sim _ rfl rfl rfl⟩
 have hc : c.ctl = 0 := by rw [f.ctl, if_neg c8]
 rw [if_neg (by omega)]
 by_cases c1 : w.st = 1
 ·rw [if_neg (by omega), if_neg (by omega)]
  have j := s.jn c1
  rw [hb, decide_eq_true (show w.op < 8 by omega)] at j
  obtain ⟨e1, e2, e3, e4, e5⟩ := end_sim j
  have tk : takesF { c with r := xSet c.r 0 (xIn c.r) (xTold c.r) } 3 0 false 0 ⟨#[]⟩ = if ¬ (qEn w.j).1.2.2.2 = 0 then (some (4, 0, (qEn w.j).1.2.2.2, ⟨#[]⟩), { c with r := xSet c.r 0 (xIn c.r) (xTold c.r), st := 3, j := (endF c.j).2.2.2.2 })
   else if (qEn w.j).1.2.2.1 = true then (some (1, (qEn w.j).1.1, 0, (qEn w.j).1.2.1), { c with r := xSet c.r 0 (xIn c.r) (xTold c.r), j := (endF c.j).2.2.2.2 })
   else (none, { c with r := xSet c.r 0 (xIn c.r) (xTold c.r), j := (endF c.j).2.2.2.2 }) := by
   unfold takesF
   rw [if_neg (by omega), if_neg (fun hh => absurd hh.1 (by decide)), if_neg (fun hh => hh hc), if_neg (fun hh => hh (s.st.trans c1)), if_neg (by omega), if_neg (by omega), if_pos rfl]
   dsimp only
   rw [e1, e2, e3, e4]
  have sim : (qEn w.j).1.2.2.2 = 0 → Sim { c with r := xSet c.r 0 (xIn c.r) (xTold c.r), j := (endF c.j).2.2.2.2 } { w with bg := false, j := (qEn w.j).2 } := fun hz => ⟨s.st, fun _ => xi, fun _ _ => rfl, fun _ hh => (by cases hh), fun _ => e5 hz⟩
  by_cases ce : ¬ (qEn w.j).1.2.2.2 = 0
  ·rw [if_pos ce]
   rw [if_pos ce] at tk
   exact ⟨_, key _ tk, sim3 rfl rfl⟩
  ·rw [if_neg ce]
   rw [if_neg ce] at tk
   by_cases cw : (qEn w.j).1.2.2.1 = true
   ·rw [if_pos cw]
    rw [if_pos cw] at tk
    exact ⟨_, key _ tk, sim (by omega)⟩
   ·rw [if_neg cw]
    rw [if_neg cw] at tk
    exact ⟨_, .inr (key _ tk), sim (by omega), key _ tk⟩
 ·rw [if_pos (.inl c1)]
  have tk : takesF { c with r := xSet c.r 0 (xIn c.r) (xTold c.r) } 3 0 false 0 ⟨#[]⟩ = (none, { c with r := xSet c.r 0 (xIn c.r) (xTold c.r) }) := by
   unfold takesF
   rw [if_neg (by omega), if_neg (fun hh => absurd hh.1 (by decide)), if_neg (fun hh => hh hc), if_pos (fun hh => c1 (s.st.symm.trans hh))]
  exact ⟨_, .inr (key _ tk), ⟨s.st, fun _ => xi, fun _ _ => rfl, fun _ hh => (by cases hh), fun hh => absurd hh c1⟩, key _ tk⟩

/-! Next -/
theorem nextF_fuel : ∀ (n n' : Nat) (c : CS), Inv c.r → mu c.r < n → mu c.r < n' → nextF n c = nextF n' c
 | 0, _, c, _, h, _ => absurd h (Nat.not_lt_zero _)
 | n + 1, 0, c, _, _, h => absurd h (Nat.not_lt_zero _)
 | n + 1, n' + 1, c, hI, h, h' => by
  unfold nextF
  by_cases hs : c.st = 3
  ·rw [if_pos hs, if_pos hs]
  rw [if_neg hs, if_neg hs]
  cases ho : rOk (stepT true c.r) with
  | false => rw [if_pos rfl, if_pos rfl]
  | true =>
   rw [if_neg (by simp), if_neg (by simp)]
   obtain ⟨i1, i2⟩ := step_inv hI ho
   have hr := takeR_r c (evR (stepT true c.r)) (rx (stepT true c.r))
   generalize takeR c (evR (stepT true c.r)) (rx (stepT true c.r)) = q at hr
   obtain ⟨e, c'⟩ := q
   have hr : c'.r = rx (stepT true c.r) := hr
   cases e with
   | some e => rfl
   | none => exact nextF_fuel n n' c' (by rw [hr]; exact i1) (by rw [hr]; omega) (by rw [hr]; omega)
theorem stp_facts {B : Nat} {c c' : CS} {e : Option EvT} (h : CW B c) (hs : ¬ c.st = 3) (st : Stp c e c') : CW B c' ∧ mu c'.r < mu c.r := by
 obtain ⟨ho, ht⟩ := st
 have w := takeR_inv h hs ho
 have hr := takeR_r c (evR (stepT true c.r)) (rx (stepT true c.r))
 have hm := (step_inv h.r ho).2
 rw [ht] at w hr
 have hr : c'.r = rx (stepT true c.r) := hr
 exact ⟨w, by rw [hr]; exact hm⟩
noncomputable def afterE (c' : CS) : Option EvT → Option EvT × CS
 | some e => (some e, c')
 | none => nextC c'
theorem next_stp {B : Nat} {c c' : CS} {e : Option EvT} (h : CW B c) (hs : ¬ c.st = 3) (st : Stp c e c') : nextC c = afterE c' e := by
 obtain ⟨w, hm⟩ := stp_facts h hs st
 obtain ⟨ho, ht⟩ := st
 show nextF (mu c.r + 1) c = _
 rw [nextF, if_neg hs, if_neg (by rw [ho]; simp), ht]
 cases e with
 | some e => rfl
 | none => exact nextF_fuel (mu c.r) (mu c'.r + 1) c' w.r hm (Nat.lt_succ_self _)
theorem next_or {B : Nat} {c c' : CS} (h : CW B c) (hs : ¬ c.st = 3) (st : c' = c ∨ Stp c none c') : CW B c' ∧ mu c'.r ≤ mu c.r ∧ nextC c = nextC c' := by
 rcases st with rfl | st
 ·exact ⟨h, Nat.le_refl _, rfl⟩
 ·obtain ⟨w, hm⟩ := stp_facts h hs st
  exact ⟨w, Nat.le_of_lt hm, next_stp h hs st⟩
theorem dN_sim {B : Nat} : ∀ (n : Nat) (c : CS) (w : DC), CW B c → Sim c w → (¬ w.st = 3 → mu c.r < n) → (nextC c).1 = (dNx n w).1 ∧ Sim (nextC c).2 (dNx n w).2
 | 0, c, w, h, s, hm => by
  have h3 : w.st = 3 := Classical.byContradiction fun hn => Nat.not_lt_zero _ (hm hn)
  rw [dry_next (.inl (s.st.trans h3))]
  exact ⟨rfl, s⟩
 | n + 1, c, w, h, s, hm => by
  rw [dNx]
  by_cases h3 : w.st = 3
  ·rw [if_pos h3, dry_next (.inl (s.st.trans h3))]
   exact ⟨rfl, s⟩
  rw [if_neg h3]
  have hm := hm h3
  have hs : ¬ c.st = 3 := by rw [s.st]; exact h3
  have a := phA h s h3
  generalize dA w = qa at a
  obtain ⟨o, w1⟩ := qa
  match o, a with
  | some none, a => rw [dry_next (.inr a.1)]; exact ⟨rfl, a.2⟩
  | some (some e), ⟨c', a1, a2⟩ => rw [next_stp h hs a1]; exact ⟨rfl, a2⟩
  | none, ⟨c1, a1, s1, b1, t1⟩ =>
   obtain ⟨i1, m1, e1⟩ := next_or h hs a1
   have hs1 : ¬ c1.st = 3 := by rw [s1.st]; exact t1
   rw [e1]
   have a := phB i1 s1 t1 b1
   dsimp only
   generalize dBt w1 = qa at a
   obtain ⟨o, w2⟩ := qa
   match o, a with
   | some none, a => rw [dry_next (.inr a.1)]; exact ⟨rfl, a.2⟩
   | some (some e), ⟨c', a1, a2⟩ => rw [next_stp i1 hs1 a1]; exact ⟨rfl, a2⟩
   | none, ⟨c2, a2, s2, b2, t2, p2⟩ =>
    obtain ⟨i2, m2, e2⟩ := next_or i1 hs1 a2
    have hs2 : ¬ c2.st = 3 := by rw [s2.st]; exact t2
    rw [e2]
    have a := phC i2 s2 t2 b2 p2
    dsimp only
    generalize dEt w2 = qa at a
    obtain ⟨o, w3⟩ := qa
    match o, a with
    | some none, a => rw [dry_next (.inr a.1)]; exact ⟨rfl, a.2⟩
    | some (some e), ⟨c', a1, a2⟩ => rw [next_stp i2 hs2 a1]; exact ⟨rfl, a2⟩
    | none, ⟨c3, _, s3, a3⟩ =>
     obtain ⟨i3, m3⟩ := stp_facts i2 hs2 a3
     rw [next_stp i2 hs2 a3]
     exact dN_sim n c3 w3 i3 s3 (fun _ => by omega)
end Go.Proofs.Ytfpnjpbdaniomaa

/-
  The document's own Next as a contract: the walk.
-/
set_option linter.unusedVariables false
set_option linter.unusedSimpArgs false
open Go Go.Am
namespace Go.Proofs.Ytfpnjpbdaniomaa

noncomputable def H1 (p w : DC) : Cfg := dnext_h1 p.inp w.st p.bg p.fin p.masked p.least p.rsv p.op p.k0 p.k1 p.k2 p.k3 p.len p.at' p.data w.lim p.j.1 p.j.2.1 p.j.2.2.1 p.j.2.2.2.1 p.j.2.2.2.2.1 p.j.2.2.2.2.2.1 p.j.2.2.2.2.2.2 0 0 0 ⟨#[]⟩ w.inp w.bg w.fin w.masked w.least w.rsv w.op w.k0 w.k1 w.k2 w.k3 w.len w.at' w.data w.j.1 w.j.2.1 w.j.2.2.1 w.j.2.2.2.1 w.j.2.2.2.2.1 w.j.2.2.2.2.2.1 w.j.2.2.2.2.2.2
noncomputable def H2 (p w : DC) : Cfg := dnext_h2 p.inp w.st p.bg p.fin p.masked p.least p.rsv p.op p.k0 p.k1 p.k2 p.k3 p.len p.at' p.data w.lim p.j.1 p.j.2.1 p.j.2.2.1 p.j.2.2.2.1 p.j.2.2.2.2.1 p.j.2.2.2.2.2.1 p.j.2.2.2.2.2.2 w.inp w.bg w.fin w.masked w.least w.rsv w.op w.k0 w.k1 w.k2 w.k3 w.len w.at' w.data w.j.1 w.j.2.1 w.j.2.2.1 w.j.2.2.2.1 w.j.2.2.2.2.1 w.j.2.2.2.2.2.1 w.j.2.2.2.2.2.2 0 0 0 ⟨#[]⟩
noncomputable def H3 (p w : DC) : Cfg := dnext_h3 p.inp w.st p.bg p.fin p.masked p.least p.rsv p.op p.k0 p.k1 p.k2 p.k3 p.len p.at' p.data w.lim p.j.1 p.j.2.1 p.j.2.2.1 p.j.2.2.2.1 p.j.2.2.2.2.1 p.j.2.2.2.2.2.1 p.j.2.2.2.2.2.2 w.inp w.bg w.fin w.masked w.least w.rsv w.op w.k0 w.k1 w.k2 w.k3 w.len w.at' w.data w.j.1 w.j.2.1 w.j.2.2.1 w.j.2.2.2.1 w.j.2.2.2.2.1 w.j.2.2.2.2.2.1 w.j.2.2.2.2.2.2 0 0 0 ⟨#[]⟩
def WkR (p : DC) (C : Cfg) (N : DC → Cfg) (q : Option (Option EvT) × DC) : Prop :=
 match q with
 | (some r, w') => AEnds E 22 2 C (evV r) (hD w')
 | (none, w') => Gets E 2 C (N w')
theorem wkA {B : Nat} {c : CS} {p w : DC} (h : CW B c) (s : Sim c w) (hs : ¬ w.st = 3) : WkR p (H1 p w) (H2 p) (dA w) := by
 have s3 : (w.st != 3) = true := ne_t hs
 unfold dA hdA
 by_cases hb : w.bg = true
 ·rw [if_pos hb]
  exact dnext_w1_6 _ _ _ _ _ _ _ _ _ _ _ _ _ _ _ _ _ _ _ _ _ _ _ _ _ _ _ _ _ _ _ _ _ _ _ _ _ _ _ _ _ _ _ _ _ _ _ _ (by rw [hb]; rfl) s3
 rw [if_neg hb]
 have hb : w.bg = false := by simpa using hb
 have nb : (!w.bg) = true := by rw [hb]; rfl
 by_cases ho : hOk w.inp = false
 ·rw [if_pos ho]
  exact dnext_w1_0 _ _ _ _ _ _ _ _ _ _ _ _ _ _ _ _ _ _ _ _ _ _ _ _ _ _ _ _ _ _ _ _ _ _ _ _ _ _ _ _ _ _ _ _ _ _ _ _ (false, false, false, 0, 0, 0, 0, 0, 0, 0, 0, false) (by unfold rheadT; rw [ho]; rfl) rfl trivial nb s3
 rw [if_neg ho]
 have ho : hOk w.inp = true := by simpa using ho
 have er : rheadT w.inp = (decide (128 ≤ chr w.inp 0), hMask w.inp, hLeast w.inp, chr w.inp 0 / 16 % 8, chr w.inp 0 % 16, hKey w.inp 0, hKey w.inp 1, hKey w.inp 2, hKey w.inp 3, hLen w.inp, hN w.inp, true) := by unfold rheadT; rw [ho]; rfl
 have n1 := hN_bd w.inp
 have n2 := hLen_bd w.inp
 have n3 := hOk_le ho
 have n4 : (hN w.inp).toNat ≤ slen w.inp := by omega
 have n5 : 0 ≤ hN w.inp := by omega
 by_cases hm : mayS true w.inp = false
 ·rw [if_pos hm]
  have m1 : (!mayS true w.inp) = true := by rw [hm]; rfl
  exact dnext_w1_1 _ _ _ _ _ _ _ _ _ _ _ _ _ _ _ _ _ _ _ _ _ _ _ _ _ _ _ _ _ _ _ _ _ _ _ _ _ _ _ _ _ _ _ _ _ _ _ _ (decide (128 ≤ chr w.inp 0), hMask w.inp, hLeast w.inp, chr w.inp 0 / 16 % 8, chr w.inp 0 % 16, hKey w.inp 0, hKey w.inp 1, hKey w.inp 2, hKey w.inp 3, hLen w.inp, hN w.inp, true) er m1 trivial n4 n5 rfl trivial nb s3
 rw [if_neg hm]
 have hm : mayS true w.inp = true := by simpa using hm
 have m1 : (!mayS true w.inp) = false := by rw [hm]; rfl
 have opb := may_op hm
 by_cases c8 : 8 ≤ chr w.inp 0 % 16
 ·rw [if_pos (.inl c8)]
  have d8 : decide (chr w.inp 0 % 16 < 8) = false := decide_eq_false (by omega)
  exact dnext_w1_5 _ _ _ _ _ _ _ _ _ _ _ _ _ _ _ _ _ _ _ _ _ _ _ _ _ _ _ _ _ _ _ _ _ _ _ _ _ _ _ _ _ _ _ _ _ _ _ _ (decide (128 ≤ chr w.inp 0), hMask w.inp, hLeast w.inp, chr w.inp 0 / 16 % 8, chr w.inp 0 % 16, hKey w.inp 0, hKey w.inp 1, hKey w.inp 2, hKey w.inp 3, hLen w.inp, hN w.inp, true) er d8 m1 trivial n4 n5 rfl trivial nb s3
 have d8 : decide (chr w.inp 0 % 16 < 8) = true := decide_eq_true (by omega)
 by_cases c1 : w.st = 1
 ·rw [if_neg (by omega)]
  have j := s.jn c1
  rw [hb] at j
  have hl := mayS_len hm
  have hw : IntKind.i64.wrap (hLen w.inp) = hLen w.inp := wrap64_in (by omega) (by omega)
  have pre : dbeginc_pre w.lim w.j.1 w.j.2.1 w.j.2.2.1 w.j.2.2.2.1 w.j.2.2.2.2.1 w.j.2.2.2.2.2.1 w.j.2.2.2.2.2.2 (decide (128 ≤ chr w.inp 0)) (chr w.inp 0 % 16) (IntKind.i64.wrap (hLen w.inp)) := by
   rw [hw]
   exact ⟨j.bad.2, j.begun, ⟨n2.1, hl⟩, by omega, j.sum.2.1, j.sum.2.2, j.lm.2.2⟩
  have e2 : dB w.lim w.j.2.1 w.j.2.2.1 w.j.2.2.2.1 w.j.2.2.2.2.2.1 w.j.2.2.2.2.2.2 (decide (128 ≤ chr w.inp 0)) (chr w.inp 0 % 16) (IntKind.i64.wrap (hLen w.inp)) = qB w := by rw [hw]; rfl
  by_cases cb : (qB w).1 = 0
  ·rw [if_neg (fun hh => hh cb)]
   exact dnext_w1_3 _ _ _ _ _ _ _ _ _ _ _ _ _ _ _ _ _ _ _ _ _ _ _ _ _ _ _ _ _ _ _ _ _ _ _ _ _ _ _ _ _ _ _ _ _ _ _ _ (decide (128 ≤ chr w.inp 0), hMask w.inp, hLeast w.inp, chr w.inp 0 / 16 % 8, chr w.inp 0 % 16, hKey w.inp 0, hKey w.inp 1, hKey w.inp 2, hKey w.inp 3, hLen w.inp, hN w.inp, true) er (qB w) e2 (ne_f cb) pre (eq_t c1) d8 m1 trivial n4 n5 rfl trivial nb s3
  ·rw [if_pos cb]
   exact dnext_w1_2 _ _ _ _ _ _ _ _ _ _ _ _ _ _ _ _ _ _ _ _ _ _ _ _ _ _ _ _ _ _ _ _ _ _ _ _ _ _ _ _ _ _ _ _ _ _ _ _ (decide (128 ≤ chr w.inp 0), hMask w.inp, hLeast w.inp, chr w.inp 0 / 16 % 8, chr w.inp 0 % 16, hKey w.inp 0, hKey w.inp 1, hKey w.inp 2, hKey w.inp 3, hLen w.inp, hN w.inp, true) er (qB w) e2 (ne_t cb) pre (eq_t c1) d8 m1 trivial n4 n5 rfl trivial nb s3
 ·rw [if_pos (.inr c1)]
  exact dnext_w1_4 _ _ _ _ _ _ _ _ _ _ _ _ _ _ _ _ _ _ _ _ _ _ _ _ _ _ _ _ _ _ _ _ _ _ _ _ _ _ _ _ _ _ _ _ _ _ _ _ (decide (128 ≤ chr w.inp 0), hMask w.inp, hLeast w.inp, chr w.inp 0 / 16 % 8, chr w.inp 0 % 16, hKey w.inp 0, hKey w.inp 1, hKey w.inp 2, hKey w.inp 3, hLen w.inp, hN w.inp, true) er (eq_f c1) d8 m1 trivial n4 n5 rfl trivial nb s3
theorem wkB {B : Nat} (hB : B ≤ 1000000) {c : CS} {p w : DC} (h : CW B c) (s : Sim c w) (hs : ¬ w.st = 3) (hb : w.bg = true) : WkR p (H2 p w) (H3 p) (dBt w) := by
 have f := s.fram hs hb
 have hI := fr_bd h f
 have xi := s.inp hs
 have hle := h.le
 rw [xi] at hle
 have hd := h.dat
 rw [xi] at hd
 have u1 : IntKind.u64.wrap w.at' = w.at' := wrapU64 (by omega) (by omega)
 have u2 : IntKind.u64.wrap (w.len - IntKind.u64.wrap w.at') = w.len - w.at' := by rw [u1]; exact wrapU64 (by omega) (by omega)
 have u3 : IntKind.i64.wrap (IntKind.u64.wrap (w.len - IntKind.u64.wrap w.at')) = w.len - w.at' := by rw [u2]; exact wrap64_in (by omega) (by omega)
 have u4 : IntKind.u64.wrap (slen w.inp : Int) = slen w.inp := wrapU64 (by omega) (by omega)
 have hms : slen (msD w) = nD w := fr_ms
 have ms0 : slen (sub w.inp 0 (nD w)) ≤ 1000000 := by rw [slen_sub]; omega
 have hj : ¬ 8 ≤ w.op → w.st = 1 → dpiecec_pre w.lim w.j.1 w.j.2.1 w.j.2.2.1 w.j.2.2.2.1 w.j.2.2.2.2.1 w.j.2.2.2.2.2.1 w.j.2.2.2.2.2.2 (msD w) := fun c8 c1 => by
  have j := s.jn c1
  rw [hb, decide_eq_true (show w.op < 8 by omega)] at j
  have jl := h.jl (s.st.trans c1)
  have hc : c.ctl = 0 := by rw [f.ctl, if_neg c8]
  have hlk := jl.lk (jl.bg.2 ⟨f.s1, hc⟩)
  have ht := jl.tx
  rw [xi] at ht
  have htx : slen w.j.2.2.2.1 = txtL c.j.txt := by rw [← j.txt]; cases c.j.txt <;> rfl
  refine ⟨j.bad.2, j.begun, ?_, ?_⟩
  ·rw [hms, ← (j.last rfl).2, hlk, f.len, f.told]; unfold nD; omega
  ·rw [hms, htx]; unfold nD; omega
 have hcd : 8 ≤ w.op → slen w.data + slen (msD w) ≤ 9223372036854775807 := fun c8 => by
  rw [hms, ← f.data c8]; unfold nD; omega
 unfold dBt cutD
 by_cases cn : w.len - w.at' < (slen w.inp : Int)
 ·have en : w.len - w.at' = (nD w : Int) := by unfold nD; omega
  have dn : decide (IntKind.u64.wrap (w.len - IntKind.u64.wrap w.at') < IntKind.u64.wrap (slen w.inp : Int)) = true := by rw [u2, u4]; exact decide_eq_true cn
  have tn : (IntKind.i64.wrap (IntKind.u64.wrap (w.len - IntKind.u64.wrap w.at'))).toNat = nD w := by rw [u3, en]; rfl
  have an : IntKind.i64.wrap (w.at' + IntKind.i64.wrap (IntKind.u64.wrap (w.len - IntKind.u64.wrap w.at'))) = w.at' + nD w := by rw [u3, en]; exact wrap64_in (by omega) (by omega)
  have ln : nD w ≤ slen w.inp := by unfold nD; omega
  have rp : rmask_pre w.k0 w.k1 w.k2 w.k3 w.at' (sub w.inp 0 (IntKind.i64.wrap (IntKind.u64.wrap (w.len - IntKind.u64.wrap w.at'))).toNat) := by rw [tn]; exact ⟨ms0, by omega⟩
  have l1 : (IntKind.i64.wrap (IntKind.u64.wrap (w.len - IntKind.u64.wrap w.at'))).toNat ≤ slen w.inp := by rw [tn]; exact ln
  have l2 : 0 ≤ IntKind.i64.wrap (IntKind.u64.wrap (w.len - IntKind.u64.wrap w.at')) := by rw [u3]; omega
  have l3 : IntKind.i64.wrap (IntKind.u64.wrap (w.len - IntKind.u64.wrap w.at')) ≤ (slen w.inp : Int) := by rw [u3]; omega
  have em : maskD [w.k0, w.k1, w.k2, w.k3] w.at' (sub w.inp 0 (IntKind.i64.wrap (IntKind.u64.wrap (w.len - IntKind.u64.wrap w.at'))).toNat) = msD w := by rw [tn]; rfl
  have es : sub w.inp (IntKind.i64.wrap (IntKind.u64.wrap (w.len - IntKind.u64.wrap w.at'))).toNat (slen w.inp) = sub w.inp (nD w) (slen w.inp) := by rw [tn]
  by_cases c8 : 8 ≤ w.op
  ·rw [if_pos c8, ← an, ← em, ← es]
   exact dnext_w2_0 _ _ _ _ _ _ _ _ _ _ _ _ _ _ _ _ _ _ _ _ _ _ _ _ _ _ _ _ _ _ _ _ _ _ _ _ _ _ _ _ _ _ _ _ _ _ _ _ (by rw [em]; exact hcd c8) (decide_eq_true c8) l1 l2 rp l3 dn
  rw [if_neg c8]
  have d8 : decide (8 ≤ w.op) = false := decide_eq_false c8
  by_cases c1 : w.st = 1
  ·by_cases n0 : nD w = 0
   ·rw [if_pos (fun hh => by omega), ← an, ← es]
    exact dnext_w2_3 _ _ _ _ _ _ _ _ _ _ _ _ _ _ _ _ _ _ _ _ _ _ _ _ _ _ _ _ _ _ _ _ _ _ _ _ _ _ _ _ _ _ _ _ _ _ _ _ (decide_eq_false (by rw [u3]; omega)) (eq_t c1) d8 l1 l2 rp l3 dn
   ·rw [if_neg (fun hh => hh ⟨c1, by omega⟩)]
    have pr := hj c8 c1
    have dz : decide (0 < IntKind.i64.wrap (IntKind.u64.wrap (w.len - IntKind.u64.wrap w.at'))) = true := decide_eq_true (by rw [u3]; omega)
    have e2 : dP w.j.2.1 w.j.2.2.1 w.j.2.2.2.1 w.j.2.2.2.2.2.1 w.j.2.2.2.2.2.2 (maskD [w.k0, w.k1, w.k2, w.k3] w.at' (sub w.inp 0 (IntKind.i64.wrap (IntKind.u64.wrap (w.len - IntKind.u64.wrap w.at'))).toNat)) = qPc w.j (msD w) := by rw [em]; rfl
    rw [← em] at pr
    by_cases cb : (qPc w.j (msD w)).1 = 0
    ·rw [if_neg (fun hh => hh cb), ← an, ← es]
     exact dnext_w2_2 _ _ _ _ _ _ _ _ _ _ _ _ _ _ _ _ _ _ _ _ _ _ _ _ _ _ _ _ _ _ _ _ _ _ _ _ _ _ _ _ _ _ _ _ _ _ _ _ (qPc w.j (msD w)) e2 (ne_f cb) pr dz (eq_t c1) d8 l1 l2 rp l3 dn
    ·rw [if_pos cb, ← an, ← es]
     exact dnext_w2_1 _ _ _ _ _ _ _ _ _ _ _ _ _ _ _ _ _ _ _ _ _ _ _ _ _ _ _ _ _ _ _ _ _ _ _ _ _ _ _ _ _ _ _ _ _ _ _ _ (qPc w.j (msD w)) e2 (ne_t cb) pr dz (eq_t c1) d8 l1 l2 rp l3 dn
  ·rw [if_pos (fun hh => c1 hh.1), ← an, ← es]
   exact dnext_w2_4 _ _ _ _ _ _ _ _ _ _ _ _ _ _ _ _ _ _ _ _ _ _ _ _ _ _ _ _ _ _ _ _ _ _ _ _ _ _ _ _ _ _ _ _ _ _ _ _ (eq_f c1) d8 l1 l2 rp l3 dn
 ·have en : nD w = slen w.inp := by unfold nD; omega
  have dn : decide (IntKind.u64.wrap (w.len - IntKind.u64.wrap w.at') < IntKind.u64.wrap (slen w.inp : Int)) = false := by rw [u2, u4]; exact decide_eq_false cn
  have an : IntKind.i64.wrap (w.at' + (slen w.inp : Int)) = w.at' + nD w := by rw [en]; exact wrap64_in (by omega) (by omega)
  have rp : rmask_pre w.k0 w.k1 w.k2 w.k3 w.at' (sub w.inp 0 ((slen w.inp : Nat) : Int).toNat) := by rw [Int.toNat_natCast, ← en]; exact ⟨ms0, by omega⟩
  have l1 : ((slen w.inp : Nat) : Int).toNat ≤ slen w.inp := by omega
  have l3 : ((slen w.inp : Nat) : Int) ≤ (slen w.inp : Int) := Int.le_refl _
  have em : maskD [w.k0, w.k1, w.k2, w.k3] w.at' (sub w.inp 0 ((slen w.inp : Nat) : Int).toNat) = msD w := by rw [Int.toNat_natCast, ← en]; rfl
  have es : sub w.inp ((slen w.inp : Nat) : Int).toNat (slen w.inp) = sub w.inp (nD w) (slen w.inp) := by rw [Int.toNat_natCast, en]
  by_cases c8 : 8 ≤ w.op
  ·rw [if_pos c8, ← an, ← em, ← es]
   exact dnext_w2_5 _ _ _ _ _ _ _ _ _ _ _ _ _ _ _ _ _ _ _ _ _ _ _ _ _ _ _ _ _ _ _ _ _ _ _ _ _ _ _ _ _ _ _ _ _ _ _ _ (by rw [em]; exact hcd c8) (decide_eq_true c8) l1 rp l3 dn
  rw [if_neg c8]
  have d8 : decide (8 ≤ w.op) = false := decide_eq_false c8
  by_cases c1 : w.st = 1
  ·by_cases n0 : nD w = 0
   ·rw [if_pos (fun hh => by omega), ← an, ← es]
    exact dnext_w2_8 _ _ _ _ _ _ _ _ _ _ _ _ _ _ _ _ _ _ _ _ _ _ _ _ _ _ _ _ _ _ _ _ _ _ _ _ _ _ _ _ _ _ _ _ _ _ _ _ (decide_eq_false (by omega)) (eq_t c1) d8 l1 rp l3 dn
   ·rw [if_neg (fun hh => hh ⟨c1, by omega⟩)]
    have pr := hj c8 c1
    have dz : decide (0 < ((slen w.inp : Nat) : Int)) = true := decide_eq_true (by omega)
    have e2 : dP w.j.2.1 w.j.2.2.1 w.j.2.2.2.1 w.j.2.2.2.2.2.1 w.j.2.2.2.2.2.2 (maskD [w.k0, w.k1, w.k2, w.k3] w.at' (sub w.inp 0 ((slen w.inp : Nat) : Int).toNat)) = qPc w.j (msD w) := by rw [em]; rfl
    rw [← em] at pr
    by_cases cb : (qPc w.j (msD w)).1 = 0
    ·rw [if_neg (fun hh => hh cb), ← an, ← es]
     exact dnext_w2_7 _ _ _ _ _ _ _ _ _ _ _ _ _ _ _ _ _ _ _ _ _ _ _ _ _ _ _ _ _ _ _ _ _ _ _ _ _ _ _ _ _ _ _ _ _ _ _ _ (qPc w.j (msD w)) e2 (ne_f cb) pr dz (eq_t c1) d8 l1 rp l3 dn
    ·rw [if_pos cb, ← an, ← es]
     exact dnext_w2_6 _ _ _ _ _ _ _ _ _ _ _ _ _ _ _ _ _ _ _ _ _ _ _ _ _ _ _ _ _ _ _ _ _ _ _ _ _ _ _ _ _ _ _ _ _ _ _ _ (qPc w.j (msD w)) e2 (ne_t cb) pr dz (eq_t c1) d8 l1 rp l3 dn
  ·rw [if_pos (fun hh => c1 hh.1), ← an, ← es]
   exact dnext_w2_9 _ _ _ _ _ _ _ _ _ _ _ _ _ _ _ _ _ _ _ _ _ _ _ _ _ _ _ _ _ _ _ _ _ _ _ _ _ _ _ _ _ _ _ _ _ _ _ _ (eq_f c1) d8 l1 rp l3 dn
theorem wkC {B : Nat} (hB : B ≤ 1000000) {c : CS} {p w : DC} (h : CW B c) (s : Sim c w) (hs : ¬ w.st = 3) (hb : w.bg = true) : WkR p (H3 p w) (H1 p) (dEt w) := by
 have f := s.fram hs hb
 have hI := fr_bd h f
 have hop := f.op
 have hd := h.dat
 have u1 : IntKind.u64.wrap w.at' = w.at' := wrapU64 (by omega) (by omega)
 unfold dEt
 by_cases c0 : w.at' < w.len
 ·rw [if_pos c0]
  exact dnext_w3_0 _ _ _ _ _ _ _ _ _ _ _ _ _ _ _ _ _ _ _ _ _ _ _ _ _ _ _ _ _ _ _ _ _ _ _ _ _ _ _ _ _ _ _ _ _ _ _ _ (by rw [u1]; exact decide_eq_true c0)
 rw [if_neg c0]
 have d0 : decide (IntKind.u64.wrap w.at' < w.len) = false := by rw [u1]; exact decide_eq_false c0
 by_cases o8 : w.op = 8
 ·rw [if_pos o8]
  have cp : dcreadc_pre w.data := by show slen w.data ≤ 1000000; rw [← f.data (by omega)]; omega
  by_cases cd : ¬ (cdT w.data).2.2 = 0
  ·rw [if_pos cd]
   exact dnext_w3_1 _ _ _ _ _ _ _ _ _ _ _ _ _ _ _ _ _ _ _ _ _ _ _ _ _ _ _ _ _ _ _ _ _ _ _ _ _ _ _ _ _ _ _ _ _ _ _ _ (cdT w.data) rfl (ne_t cd) cp (eq_t o8) d0
  ·rw [if_neg cd]
   exact dnext_w3_2 _ _ _ _ _ _ _ _ _ _ _ _ _ _ _ _ _ _ _ _ _ _ _ _ _ _ _ _ _ _ _ _ _ _ _ _ _ _ _ _ _ _ _ _ _ _ _ _ (cdT w.data) rfl (ne_f (by omega)) cp (eq_t o8) d0
 rw [if_neg o8]
 have t8 : (w.op == 8) = false := eq_f o8
 by_cases o9 : w.op = 9
 ·by_cases c1 : w.st = 1
  ·rw [if_neg (by omega), if_pos o9]
   exact dnext_w3_3 _ _ _ _ _ _ _ _ _ _ _ _ _ _ _ _ _ _ _ _ _ _ _ _ _ _ _ _ _ _ _ _ _ _ _ _ _ _ _ _ _ _ _ _ _ _ _ _ (eq_t c1) (eq_t o9) t8 d0
  ·rw [if_pos (.inl c1)]
   exact dnext_w3_4 _ _ _ _ _ _ _ _ _ _ _ _ _ _ _ _ _ _ _ _ _ _ _ _ _ _ _ _ _ _ _ _ _ _ _ _ _ _ _ _ _ _ _ _ _ _ _ _ (eq_f c1) (eq_t o9) t8 d0
 have t9 : (w.op == 9) = false := eq_f o9
 by_cases oA : w.op = 10
 ·rw [if_pos (.inr oA)]
  exact dnext_w3_17 _ _ _ _ _ _ _ _ _ _ _ _ _ _ _ _ _ _ _ _ _ _ _ _ _ _ _ _ _ _ _ _ _ _ _ _ _ _ _ _ _ _ _ _ _ _ _ _ (eq_f (by omega)) (eq_f (by omega)) (eq_f (by omega)) t9 t8 d0
 by_cases c1 : w.st = 1
 ·rw [if_neg (by omega), if_neg o9]
  have j := s.jn c1
  rw [hb, decide_eq_true (show w.op < 8 by omega)] at j
  have jl := h.jl (s.st.trans c1)
  have hc : c.ctl = 0 := by rw [f.ctl, if_neg (by omega)]
  have hlk := jl.lk (jl.bg.2 ⟨f.s1, hc⟩)
  have ht := jl.tx
  have htx : slen w.j.2.2.2.1 = txtL c.j.txt := by rw [← j.txt]; cases c.j.txt <;> rfl
  have pr : dendc_pre w.lim w.j.1 w.j.2.1 w.j.2.2.1 w.j.2.2.2.1 w.j.2.2.2.2.1 w.j.2.2.2.2.2.1 w.j.2.2.2.2.2.2 := ⟨j.bad.2, j.begun, by rw [← (j.last rfl).2, hlk, f.len, f.told]; omega, by omega⟩
  by_cases ce : ¬ (qEn w.j).1.2.2.2 = 0
  ·rw [if_pos ce]
   rcases (show w.op = 0 ∨ w.op = 1 ∨ w.op = 2 by omega) with o | o | o
   ·exact dnext_w3_5 _ _ _ _ _ _ _ _ _ _ _ _ _ _ _ _ _ _ _ _ _ _ _ _ _ _ _ _ _ _ _ _ _ _ _ _ _ _ _ _ _ _ _ _ _ _ _ _ (qEn w.j) rfl (ne_t ce) pr (eq_t c1) (eq_t o) t9 t8 d0
   ·exact dnext_w3_9 _ _ _ _ _ _ _ _ _ _ _ _ _ _ _ _ _ _ _ _ _ _ _ _ _ _ _ _ _ _ _ _ _ _ _ _ _ _ _ _ _ _ _ _ _ _ _ _ (qEn w.j) rfl (ne_t ce) pr (eq_t c1) (eq_t o) (eq_f (by omega)) t9 t8 d0
   ·exact dnext_w3_13 _ _ _ _ _ _ _ _ _ _ _ _ _ _ _ _ _ _ _ _ _ _ _ _ _ _ _ _ _ _ _ _ _ _ _ _ _ _ _ _ _ _ _ _ _ _ _ _ (qEn w.j) rfl (ne_t ce) pr (eq_t c1) (eq_t o) (eq_f (by omega)) (eq_f (by omega)) t9 t8 d0
  ·rw [if_neg ce]
   have ce : (qEn w.j).1.2.2.2 = 0 := by omega
   by_cases cw : (qEn w.j).1.2.2.1 = true
   ·rw [if_pos cw]
    rcases (show w.op = 0 ∨ w.op = 1 ∨ w.op = 2 by omega) with o | o | o
    ·exact dnext_w3_6 _ _ _ _ _ _ _ _ _ _ _ _ _ _ _ _ _ _ _ _ _ _ _ _ _ _ _ _ _ _ _ _ _ _ _ _ _ _ _ _ _ _ _ _ _ _ _ _ (qEn w.j) rfl cw (ne_f ce) pr (eq_t c1) (eq_t o) t9 t8 d0
    ·exact dnext_w3_10 _ _ _ _ _ _ _ _ _ _ _ _ _ _ _ _ _ _ _ _ _ _ _ _ _ _ _ _ _ _ _ _ _ _ _ _ _ _ _ _ _ _ _ _ _ _ _ _ (qEn w.j) rfl cw (ne_f ce) pr (eq_t c1) (eq_t o) (eq_f (by omega)) t9 t8 d0
    ·exact dnext_w3_14 _ _ _ _ _ _ _ _ _ _ _ _ _ _ _ _ _ _ _ _ _ _ _ _ _ _ _ _ _ _ _ _ _ _ _ _ _ _ _ _ _ _ _ _ _ _ _ _ (qEn w.j) rfl cw (ne_f ce) pr (eq_t c1) (eq_t o) (eq_f (by omega)) (eq_f (by omega)) t9 t8 d0
   ·rw [if_neg cw]
    have cw : (qEn w.j).1.2.2.1 = false := by simpa using cw
    rcases (show w.op = 0 ∨ w.op = 1 ∨ w.op = 2 by omega) with o | o | o
    ·exact dnext_w3_7 _ _ _ _ _ _ _ _ _ _ _ _ _ _ _ _ _ _ _ _ _ _ _ _ _ _ _ _ _ _ _ _ _ _ _ _ _ _ _ _ _ _ _ _ _ _ _ _ (qEn w.j) rfl cw (ne_f ce) pr (eq_t c1) (eq_t o) t9 t8 d0
    ·exact dnext_w3_11 _ _ _ _ _ _ _ _ _ _ _ _ _ _ _ _ _ _ _ _ _ _ _ _ _ _ _ _ _ _ _ _ _ _ _ _ _ _ _ _ _ _ _ _ _ _ _ _ (qEn w.j) rfl cw (ne_f ce) pr (eq_t c1) (eq_t o) (eq_f (by omega)) t9 t8 d0
    ·exact dnext_w3_15 _ _ _ _ _ _ _ _ _ _ _ _ _ _ _ _ _ _ _ _ _ _ _ _ _ _ _ _ _ _ _ _ _ _ _ _ _ _ _ _ _ _ _ _ _ _ _ _ (qEn w.j) rfl cw (ne_f ce) pr (eq_t c1) (eq_t o) (eq_f (by omega)) (eq_f (by omega)) t9 t8 d0
 ·rw [if_pos (.inl c1)]
  rcases (show w.op = 0 ∨ w.op = 1 ∨ w.op = 2 by omega) with o | o | o
  ·exact dnext_w3_8 _ _ _ _ _ _ _ _ _ _ _ _ _ _ _ _ _ _ _ _ _ _ _ _ _ _ _ _ _ _ _ _ _ _ _ _ _ _ _ _ _ _ _ _ _ _ _ _ (eq_f c1) (eq_t o) t9 t8 d0
  ·exact dnext_w3_12 _ _ _ _ _ _ _ _ _ _ _ _ _ _ _ _ _ _ _ _ _ _ _ _ _ _ _ _ _ _ _ _ _ _ _ _ _ _ _ _ _ _ _ _ _ _ _ _ (eq_f c1) (eq_t o) (eq_f (by omega)) t9 t8 d0
  ·exact dnext_w3_16 _ _ _ _ _ _ _ _ _ _ _ _ _ _ _ _ _ _ _ _ _ _ _ _ _ _ _ _ _ _ _ _ _ _ _ _ _ _ _ _ _ _ _ _ _ _ _ _ (eq_f c1) (eq_t o) (eq_f (by omega)) (eq_f (by omega)) t9 t8 d0
theorem wkN {B : Nat} (hB : B ≤ 1000000) (p : DC) : ∀ (n : Nat) (c : CS) (w : DC), CW B c → Sim c w → (¬ w.st = 3 → mu c.r < n) → AEnds E 22 2 (H1 p w) (evV (dNx n w).1) (hD (dNx n w).2)
 | 0, c, w, h, s, hm => by
  have h3 : w.st = 3 := Classical.byContradiction fun hn => Nat.not_lt_zero _ (hm hn)
  exact dnext_w1_7 _ _ _ _ _ _ _ _ _ _ _ _ _ _ _ _ _ _ _ _ _ _ _ _ _ _ _ _ _ _ _ _ _ _ _ _ _ _ _ _ _ _ _ _ _ _ _ _ (ne_f h3)
 | n + 1, c, w, h, s, hm => by
  rw [dNx]
  by_cases h3 : w.st = 3
  ·rw [if_pos h3]
   exact dnext_w1_7 _ _ _ _ _ _ _ _ _ _ _ _ _ _ _ _ _ _ _ _ _ _ _ _ _ _ _ _ _ _ _ _ _ _ _ _ _ _ _ _ _ _ _ _ _ _ _ _ (ne_f h3)
  rw [if_neg h3]
  have hm := hm h3
  have hs : ¬ c.st = 3 := by rw [s.st]; exact h3
  have a := phA h s h3
  have v := wkA (p := p) h s h3
  generalize dA w = qa at a v
  obtain ⟨o, w1⟩ := qa
  match o, a, v with
  | some none, a, v => exact v
  | some (some e), a, v => exact v
  | none, ⟨c1, a1, s1, b1, t1⟩, v =>
   obtain ⟨i1, m1, _⟩ := next_or h hs a1
   have hs1 : ¬ c1.st = 3 := by rw [s1.st]; exact t1
   refine Gets.ends v ?_
   have a := phB i1 s1 t1 b1
   have v := wkB (p := p) hB i1 s1 t1 b1
   dsimp only
   generalize dBt w1 = qa at a v
   obtain ⟨o, w2⟩ := qa
   match o, a, v with
   | some none, a, v => exact v
   | some (some e), a, v => exact v
   | none, ⟨c2, a2, s2, b2, t2, p2⟩, v =>
    obtain ⟨i2, m2, _⟩ := next_or i1 hs1 a2
    have hs2 : ¬ c2.st = 3 := by rw [s2.st]; exact t2
    refine Gets.ends v ?_
    have a := phC i2 s2 t2 b2 p2
    have v := wkC (p := p) hB i2 s2 t2 b2
    dsimp only
    generalize dEt w2 = qa at a v
    obtain ⟨o, w3⟩ := qa
    match o, a, v with
    | some none, a, v => exact v
    | some (some e), a, v => exact v
    | none, ⟨c3, _, s3, a3⟩, v =>
     obtain ⟨i3, m3⟩ := stp_facts i2 hs2 a3
     exact Gets.ends v (wkN hB p n c3 w3 i3 s3 (fun _ => by omega))
/-! the contract -/
theorem dA_lim (w : DC) : (dA w).2.lim = w.lim := by
 unfold dA hdA
 repeat' split
 all_goals rfl
theorem dBt_lim (w : DC) : (dBt w).2.lim = w.lim := by
 unfold dBt
 repeat' split
 all_goals rfl
theorem dEt_lim (w : DC) : (dEt w).2.lim = w.lim := by
 unfold dEt
 repeat' split
 all_goals rfl
theorem dNx_lim : ∀ (n : Nat) (w : DC), (dNx n w).2.lim = w.lim
 | 0, w => rfl
 | n + 1, w => by
  rw [dNx]
  have a := dA_lim w
  by_cases h3 : w.st = 3
  ·rw [if_pos h3]
  rw [if_neg h3]
  generalize dA w = qa at a
  obtain ⟨o, w1⟩ := qa
  cases o with
  | some r => exact a
  | none =>
   have b := dBt_lim w1
   dsimp only
   generalize dBt w1 = qa at b
   obtain ⟨o, w2⟩ := qa
   cases o with
   | some r => exact b.trans a
   | none =>
    have d := dEt_lim w2
    dsimp only
    generalize dEt w2 = qa at d
    obtain ⟨o, w3⟩ := qa
    cases o with
    | some r => exact d.trans (b.trans a)
    | none => exact (dNx_lim n w3).trans (d.trans (b.trans a))
noncomputable def mkDC (inp : ByteArray) (st : Int) (bg fin masked least : Bool) (rsv op k0 k1 k2 k3 len at' : Int) (data : ByteArray) (lim bad jop sum : Int) (d : ByteArray) (begun last : Bool) (left : Int) : DC := ⟨inp, st, bg, fin, masked, least, rsv, op, k0, k1, k2, k3, len, at', data, lim, (bad, jop, sum, d, begun, last, left)⟩
noncomputable def dnC (w : DC) : Option EvT × DC := dNx (3 * slen w.inp + 3) w
abbrev DnU : Type := Int × Int × Int × ByteArray × Bool × ByteArray × Int × Bool × Bool × Bool × Bool × Int × Int × Int × Int × Int × Int × Int × Int × ByteArray × Int × Int × Int × ByteArray × Bool × Bool × Int
noncomputable def dnU (q : Option EvT × DC) : DnU := ((evT q.1).1, (evT q.1).2.1, (evT q.1).2.2.1, (evT q.1).2.2.2, q.1.isSome, q.2.inp, q.2.st, q.2.bg, q.2.fin, q.2.masked, q.2.least, q.2.rsv, q.2.op, q.2.k0, q.2.k1, q.2.k2, q.2.k3, q.2.len, q.2.at', q.2.data, q.2.j)
noncomputable def dnT (inp : ByteArray) (st : Int) (bg fin masked least : Bool) (rsv op k0 k1 k2 k3 len at' : Int) (data : ByteArray) (lim bad jop sum : Int) (d : ByteArray) (begun last : Bool) (left : Int) : DnU := seal1 (dnU (dnC (mkDC inp st bg fin masked least rsv op k0 k1 k2 k3 len at' data lim bad jop sum d begun last left)))
def dnc_pre (inp : ByteArray) (st : Int) (bg fin masked least : Bool) (rsv op k0 k1 k2 k3 len at' : Int) (data : ByteArray) (lim bad jop sum : Int) (d : ByteArray) (begun last : Bool) (left : Int) : Prop := ∃ c : CS, CW 1000000 c ∧ Sim c (mkDC inp st bg fin masked least rsv op k0 k1 k2 k3 len at' data lim bad jop sum d begun last left)
noncomputable def dnc_v (inp : ByteArray) (st : Int) (bg fin masked least : Bool) (rsv op k0 k1 k2 k3 len at' : Int) (data : ByteArray) (lim bad jop sum : Int) (d : ByteArray) (begun last : Bool) (left : Int) : Value := .tuple #[.agg #[.int .i64 (dnT inp st bg fin masked least rsv op k0 k1 k2 k3 len at' data lim bad jop sum d begun last left).1, .int .i64 (dnT inp st bg fin masked least rsv op k0 k1 k2 k3 len at' data lim bad jop sum d begun last left).2.1, .int .i64 (dnT inp st bg fin masked least rsv op k0 k1 k2 k3 len at' data lim bad jop sum d begun last left).2.2.1, .string (dnT inp st bg fin masked least rsv op k0 k1 k2 k3 len at' data lim bad jop sum d begun last left).2.2.2.1], .bool (dnT inp st bg fin masked least rsv op k0 k1 k2 k3 len at' data lim bad jop sum d begun last left).2.2.2.2.1]
noncomputable def dnc_h (inp : ByteArray) (st : Int) (bg fin masked least : Bool) (rsv op k0 k1 k2 k3 len at' : Int) (data : ByteArray) (lim bad jop sum : Int) (d : ByteArray) (begun last : Bool) (left : Int) : Heap := [some (.cells [.string (dnT inp st bg fin masked least rsv op k0 k1 k2 k3 len at' data lim bad jop sum d begun last left).2.2.2.2.2.1, .pointer (some ⟨1, 0, none⟩), .int .i64 (dnT inp st bg fin masked least rsv op k0 k1 k2 k3 len at' data lim bad jop sum d begun last left).2.2.2.2.2.2.1, .bool (dnT inp st bg fin masked least rsv op k0 k1 k2 k3 len at' data lim bad jop sum d begun last left).2.2.2.2.2.2.2.1, .bool (dnT inp st bg fin masked least rsv op k0 k1 k2 k3 len at' data lim bad jop sum d begun last left).2.2.2.2.2.2.2.2.1, .bool (dnT inp st bg fin masked least rsv op k0 k1 k2 k3 len at' data lim bad jop sum d begun last left).2.2.2.2.2.2.2.2.2.1, .bool (dnT inp st bg fin masked least rsv op k0 k1 k2 k3 len at' data lim bad jop sum d begun last left).2.2.2.2.2.2.2.2.2.2.1, .int .i64 (dnT inp st bg fin masked least rsv op k0 k1 k2 k3 len at' data lim bad jop sum d begun last left).2.2.2.2.2.2.2.2.2.2.2.1, .int .i64 (dnT inp st bg fin masked least rsv op k0 k1 k2 k3 len at' data lim bad jop sum d begun last left).2.2.2.2.2.2.2.2.2.2.2.2.1, .int .u8 (dnT inp st bg fin masked least rsv op k0 k1 k2 k3 len at' data lim bad jop sum d begun last left).2.2.2.2.2.2.2.2.2.2.2.2.2.1, .int .u8 (dnT inp st bg fin masked least rsv op k0 k1 k2 k3 len at' data lim bad jop sum d begun last left).2.2.2.2.2.2.2.2.2.2.2.2.2.2.1, .int .u8 (dnT inp st bg fin masked least rsv op k0 k1 k2 k3 len at' data lim bad jop sum d begun last left).2.2.2.2.2.2.2.2.2.2.2.2.2.2.2.1, .int .u8 (dnT inp st bg fin masked least rsv op k0 k1 k2 k3 len at' data lim bad jop sum d begun last left).2.2.2.2.2.2.2.2.2.2.2.2.2.2.2.2.1, .int .u64 (dnT inp st bg fin masked least rsv op k0 k1 k2 k3 len at' data lim bad jop sum d begun last left).2.2.2.2.2.2.2.2.2.2.2.2.2.2.2.2.2.1, .int .i64 (dnT inp st bg fin masked least rsv op k0 k1 k2 k3 len at' data lim bad jop sum d begun last left).2.2.2.2.2.2.2.2.2.2.2.2.2.2.2.2.2.2.1, .string (dnT inp st bg fin masked least rsv op k0 k1 k2 k3 len at' data lim bad jop sum d begun last left).2.2.2.2.2.2.2.2.2.2.2.2.2.2.2.2.2.2.2.1] 57 none), some (.cells [.int .i64 lim, .int .i64 (dnT inp st bg fin masked least rsv op k0 k1 k2 k3 len at' data lim bad jop sum d begun last left).2.2.2.2.2.2.2.2.2.2.2.2.2.2.2.2.2.2.2.2.1, .int .i64 (dnT inp st bg fin masked least rsv op k0 k1 k2 k3 len at' data lim bad jop sum d begun last left).2.2.2.2.2.2.2.2.2.2.2.2.2.2.2.2.2.2.2.2.2.1, .int .i64 (dnT inp st bg fin masked least rsv op k0 k1 k2 k3 len at' data lim bad jop sum d begun last left).2.2.2.2.2.2.2.2.2.2.2.2.2.2.2.2.2.2.2.2.2.2.1, .string (dnT inp st bg fin masked least rsv op k0 k1 k2 k3 len at' data lim bad jop sum d begun last left).2.2.2.2.2.2.2.2.2.2.2.2.2.2.2.2.2.2.2.2.2.2.2.1, .bool (dnT inp st bg fin masked least rsv op k0 k1 k2 k3 len at' data lim bad jop sum d begun last left).2.2.2.2.2.2.2.2.2.2.2.2.2.2.2.2.2.2.2.2.2.2.2.2.1, .bool (dnT inp st bg fin masked least rsv op k0 k1 k2 k3 len at' data lim bad jop sum d begun last left).2.2.2.2.2.2.2.2.2.2.2.2.2.2.2.2.2.2.2.2.2.2.2.2.2.1, .int .i64 (dnT inp st bg fin masked least rsv op k0 k1 k2 k3 len at' data lim bad jop sum d begun last left).2.2.2.2.2.2.2.2.2.2.2.2.2.2.2.2.2.2.2.2.2.2.2.2.2.2] 66 none)]
theorem dnc_call (inp : ByteArray) (st : Int) (bg fin masked least : Bool) (rsv op k0 k1 k2 k3 len at' : Int) (data : ByteArray) (lim bad jop sum : Int) (d : ByteArray) (begun last : Bool) (left : Int) (h : dnc_pre inp st bg fin masked least rsv op k0 k1 k2 k3 len at' data lim bad jop sum d begun last left) : CallOk E 22 [.pointer (some ⟨0, 0, none⟩)] [some (.cells [.string inp, .pointer (some ⟨1, 0, none⟩), .int .i64 st, .bool bg, .bool fin, .bool masked, .bool least, .int .i64 rsv, .int .i64 op, .int .u8 k0, .int .u8 k1, .int .u8 k2, .int .u8 k3, .int .u64 len, .int .i64 at', .string data] 57 none), some (.cells [.int .i64 lim, .int .i64 bad, .int .i64 jop, .int .i64 sum, .string d, .bool begun, .bool last, .int .i64 left] 66 none)] (dnc_v inp st bg fin masked least rsv op k0 k1 k2 k3 len at' data lim bad jop sum d begun last left) (dnc_h inp st bg fin masked least rsv op k0 k1 k2 k3 len at' data lim bad jop sum d begun last left) := by
 obtain ⟨c, hc, hs⟩ := h
 have w := wkN (Nat.le_refl _) (mkDC inp st bg fin masked least rsv op k0 k1 k2 k3 len at' data lim bad jop sum d begun last left) (3 * slen inp + 3) c (mkDC inp st bg fin masked least rsv op k0 k1 k2 k3 len at' data lim bad jop sum d begun last left) hc hs (fun h3 => by
  unfold mu
  rw [hs.inp h3]
  show 3 * slen inp + _ < _
  split <;> omega)
 have w := (dnext_w0_0 inp st bg fin masked least rsv op k0 k1 k2 k3 len at' data lim bad jop sum d begun last left).ends w
 have hl := dNx_lim (3 * slen inp + 3) (mkDC inp st bg fin masked least rsv op k0 k1 k2 k3 len at' data lim bad jop sum d begun last left)
 rw [evV_eq] at w
 unfold hD at w
 rw [hl] at w
 unfold dnc_v dnc_h dnT
 rw [seal1_eq]
 exact callOk_of_ends w (by kernel_rfl) (by show 2 ≤ 2; omega)

end Go.Proofs.Ytfpnjpbdaniomaa

/-
  Acts: whether they are more than statements go through.
-/
set_option linter.unusedVariables false
set_option linter.unusedSimpArgs false
open Go Go.Am
namespace Go.Proofs.Ytfpnjpbdaniomaa

noncomputable def great_b1 (n : Nat) (A : List Value) : Cfg := reCfg (cfgOf (goNil E noK 2000 24 (some [false]) [] [] [] [0, 3, 4] [] [] [] (startC E 14 ([Value.iface n (Value.agg A.toArray)]) ([])))) (tmL 6 [(0, Value.iface n (Value.agg A.toArray)), (3, Value.int IntKind.i64 0), (4, Value.int IntKind.i64 0)]) []
noncomputable def great_h1 (n : Nat) (A : List Value) (t3 : Int) (t4 : Int) : Cfg := wTmp 4 (Value.int IntKind.i64 t4) (wTmp 3 (Value.int IntKind.i64 t3) (great_b1 n A))
theorem great_p0_0 (n : Nat) (A : List Value) : goFinB E noK 2000 16 (some [true]) [] [2] [] (startC E 14 ([Value.iface n (Value.agg A.toArray)]) ([])) = some (and ((decide (150 < (↑n : Int))) == true) (true), Value.bool true, []) := by kernel_rfl
theorem great_w0_0 (n : Nat) (A : List Value) (h0 : (decide (150 < (↑n : Int))) = true) : AEnds E 14 0 (startC E 14 ([Value.iface n (Value.agg A.toArray)]) ([])) (Value.bool true) ([]) := by
 exact ends_ofB noK_ok (great_p0_0 n A) (andI (dT h0) (rfl)) (by kernel_rfl) (Nat.le_of_ble_eq_true (by kernel_rfl)) (fun i hi => absurd hi (Nat.not_lt_zero _)) (fun i hi => absurd hi (Nat.not_lt_zero _))
theorem great_p0_1 (n : Nat) (A : List Value) : goNilB E noK 2000 24 (some [false]) [] [] [] [0, 3, 4] [] [] [] (startC E 14 ([Value.iface n (Value.agg A.toArray)]) ([])) = some (and ((decide (150 < (↑n : Int))) == false) (true), great_h1 n A (0) (0)) := by kernel_rfl
theorem great_w0_1 (n : Nat) (A : List Value) (h0 : (decide (150 < (↑n : Int))) = false) : Gets E 0 (startC E 14 ([Value.iface n (Value.agg A.toArray)]) ([])) (great_h1 n A (0) (0)) := by
 exact reach_gb noK_ok (great_p0_1 n A) (andI (dF h0) (rfl)) (Nat.le_of_ble_eq_true (by kernel_rfl)) (fun i hi => absurd hi (Nat.not_lt_zero _)) (fun i hi => absurd hi (Nat.not_lt_zero _)) (Nat.le_of_ble_eq_true (by kernel_rfl))
theorem great_p1_0 (n : Nat) (A : List Value) (t3 : Int) (t4 : Int) : goFinB E noK 2000 28 (some [true, true]) [] [2] [] (great_h1 n A t3 t4) = some (and ((decide (400 < (↑(slen (toStr (A.getD (t4.toNat * 2 + 1) undef))) : Int))) == true) (and (decide (t4.toNat * 2 + 1 < A.length)) (and (isStr (A.getD (t4.toNat * 2 + 1) undef)) (and (decide (0 ≤ t4)) (and (decide (t4 < (↑n : Int))) (and (decide (0 < A.length)) (and ((decide (t4 < (↑n : Int))) == true) (true))))))), Value.bool true, []) := by kernel_rfl
theorem great_w1_0 (n : Nat) (A : List Value) (t3 : Int) (t4 : Int) (h0 : (decide (400 < (↑(slen (toStr (A.getD (t4.toNat * 2 + 1) undef))) : Int))) = true) (h1 : t4.toNat * 2 + 1 < A.length) (h2 : (isStr (A.getD (t4.toNat * 2 + 1) undef)) = true) (h3 : 0 ≤ t4) (h4 : t4 < (↑n : Int)) (h5 : 0 < A.length) (h6 : (decide (t4 < (↑n : Int))) = true) : AEnds E 14 0 (great_h1 n A t3 t4) (Value.bool true) ([]) := by
 exact ends_ofB noK_ok (great_p1_0 n A t3 t4) (andI (dT h0) (andI (decide_eq_true h1) (andI (h2) (andI (decide_eq_true h3) (andI (decide_eq_true h4) (andI (decide_eq_true h5) (andI (dT h6) (rfl)))))))) (by kernel_rfl) (Nat.le_of_ble_eq_true (by kernel_rfl)) (fun i hi => absurd hi (Nat.not_lt_zero _)) (fun i hi => absurd hi (Nat.not_lt_zero _))
theorem great_p1_1 (n : Nat) (A : List Value) (t3 : Int) (t4 : Int) : goNilB E noK 2000 43 (some [true, false]) [] [] [] [0, 3, 4] [] [] [] (great_h1 n A t3 t4) = some (and (decide (t4.toNat * 2 + 1 < A.length)) (and (isStr (A.getD (t4.toNat * 2 + 1) undef)) (and (decide (0 ≤ t4)) (and (decide (t4 < (↑n : Int))) (and (decide (0 < A.length)) (and ((decide (400 < (↑(slen (toStr (A.getD (t4.toNat * 2 + 1) undef))) : Int))) == false) (and (decide (t4.toNat * 2 + 1 < A.length)) (and (isStr (A.getD (t4.toNat * 2 + 1) undef)) (and (decide (0 ≤ t4)) (and (decide (t4 < (↑n : Int))) (and (decide (0 < A.length)) (and ((decide (t4 < (↑n : Int))) == true) (true)))))))))))), great_h1 n A (IntKind.i64.wrap (t3 + (↑(slen (toStr (A.getD (t4.toNat * 2 + 1) undef))) : Int))) (IntKind.i64.wrap (t4 + 1))) := by kernel_rfl
theorem great_w1_1 (n : Nat) (A : List Value) (t3 : Int) (t4 : Int) (h0 : t4.toNat * 2 + 1 < A.length) (h1 : (isStr (A.getD (t4.toNat * 2 + 1) undef)) = true) (h2 : 0 ≤ t4) (h3 : t4 < (↑n : Int)) (h4 : 0 < A.length) (h5 : (decide (400 < (↑(slen (toStr (A.getD (t4.toNat * 2 + 1) undef))) : Int))) = false) (h6 : (decide (t4 < (↑n : Int))) = true) : Gets E 0 (great_h1 n A t3 t4) (great_h1 n A (IntKind.i64.wrap (t3 + (↑(slen (toStr (A.getD (t4.toNat * 2 + 1) undef))) : Int))) (IntKind.i64.wrap (t4 + 1))) := by
 exact reach_gb noK_ok (great_p1_1 n A t3 t4) (andI (decide_eq_true h0) (andI (h1) (andI (decide_eq_true h2) (andI (decide_eq_true h3) (andI (decide_eq_true h4) (andI (dF h5) (andI (decide_eq_true h0) (andI (h1) (andI (decide_eq_true h2) (andI (decide_eq_true h3) (andI (decide_eq_true h4) (andI (dT h6) (rfl))))))))))))) (Nat.le_of_ble_eq_true (by kernel_rfl)) (fun i hi => absurd hi (Nat.not_lt_zero _)) (fun i hi => absurd hi (Nat.not_lt_zero _)) (Nat.le_of_ble_eq_true (by kernel_rfl))
theorem great_p1_2 (n : Nat) (A : List Value) (t3 : Int) (t4 : Int) : goFinB E noK 2000 16 (some [false]) [] [2] [] (great_h1 n A t3 t4) = some (and ((decide (t4 < (↑n : Int))) == false) (true), Value.bool (decide (8000 < t3)), []) := by kernel_rfl
theorem great_w1_2 (n : Nat) (A : List Value) (t3 : Int) (t4 : Int) (h0 : (decide (t4 < (↑n : Int))) = false) : AEnds E 14 0 (great_h1 n A t3 t4) (Value.bool (decide (8000 < t3))) ([]) := by
 exact ends_ofB noK_ok (great_p1_2 n A t3 t4) (andI (dF h0) (rfl)) (by kernel_rfl) (Nat.le_of_ble_eq_true (by kernel_rfl)) (fun i hi => absurd hi (Nat.not_lt_zero _)) (fun i hi => absurd hi (Nat.not_lt_zero _))


abbrev AcT : Type := Int × ByteArray
def acC (a : AcT) : List Value := [.int .u8 a.1, .string a.2]
def acQ (l : List AcT) : List Value := (l.map acC).flatten
noncomputable def acD : List Value → List AcT
 | a :: b :: r => (toInt a, toStr b) :: acD r
 | _ => []
theorem acD_acQ : ∀ l : List AcT, acD (acQ l) = l
 | [] => rfl
 | a :: l => by
  show acD (.int .u8 a.1 :: .string a.2 :: acQ l) = _
  rw [acD, acD_acQ l]
  rfl
theorem acQ_len : ∀ l : List AcT, (acQ l).length = l.length * 2
 | [] => rfl
 | a :: l => by
  show (acC a ++ acQ l).length = _
  rw [List.length_append, acQ_len l]
  show 2 + l.length * 2 = (l.length + 1) * 2
  omega
theorem acQ_at : ∀ (l : List AcT) (i : Nat) (a : AcT) (j : Nat), l[i]? = some a → j < 2 → (acQ l).getD (i * 2 + j) undef = (acC a).getD j undef
 | [], i, a, j, h, _ => by simp at h
 | x :: l, 0, a, j, h, hj => by
  simp at h
  subst h
  show (acC x ++ acQ l).getD (0 * 2 + j) undef = _
  rw [show 0 * 2 + j = j by omega, List.getD_eq_getElem?_getD, List.getElem?_append_left (by show j < 2; exact hj), ← List.getD_eq_getElem?_getD]
 | x :: l, i + 1, a, j, h, hj => by
  show (acC x ++ acQ l).getD ((i + 1) * 2 + j) undef = _
  have h2 : (acC x).length = 2 := rfl
  rw [List.getD_eq_getElem?_getD, List.getElem?_append_right (by rw [h2]; omega), h2, show (i + 1) * 2 + j - 2 = i * 2 + j by omega, ← List.getD_eq_getElem?_getD]
  exact acQ_at l i a j (by simpa using h) hj
noncomputable def goG : Int → List AcT → Bool
 | n, [] => decide (8000 < n)
 | n, a :: r => if 400 < (slen a.2 : Int) then true else goG (n + slen a.2) r
noncomputable def greatB (n : Nat) (A : List Value) : Bool := if 150 < (n : Int) then true else goG 0 (acD A)
theorem great_run (l : List AcT) (hl : l.length ≤ 150) : ∀ (m i : Nat) (s : Int), i + m = l.length → (0 ≤ s ∧ s ≤ 400 * i) → AEnds E 14 0 (great_h1 l.length (acQ l) s i) (.bool (goG s (l.drop i))) []
 | 0, i, s, hi, hs => by
  rw [List.drop_eq_nil_of_le (by omega)]
  exact great_w1_2 l.length (acQ l) s i (decide_eq_false (by omega))
 | m + 1, i, s, hi, hs => by
  have hlt : i < l.length := by omega
  obtain ⟨a, ha⟩ : ∃ a, l[i]? = some a := ⟨_, List.getElem?_eq_getElem hlt⟩
  have e : l.drop i = a :: l.drop (i + 1) := by
   rw [List.drop_eq_getElem_cons hlt]
   rw [List.getElem?_eq_getElem hlt] at ha
   cases ha; rfl
  have g : (acQ l).getD (i * 2 + 1) undef = .string a.2 := acQ_at l i a 1 ha (by omega)
  have hlen := acQ_len l
  rw [e, goG]
  by_cases c : 400 < (slen a.2 : Int)
  ·rw [if_pos c]
   have w := great_w1_0 l.length (acQ l) s i
   simp only [Int.toNat_natCast, g, toStr, isStr] at w
   exact w (decide_eq_true c) (by omega) trivial (by omega) (by omega) (by omega) (decide_eq_true (by omega))
  ·rw [if_neg c]
   have w := great_w1_1 l.length (acQ l) s i
   simp only [Int.toNat_natCast, g, toStr, isStr] at w
   rw [wrap64_in (x := s + (slen a.2 : Int)) (by omega) (by omega), wrap64_in (x := (i : Int) + 1) (by omega) (by omega)] at w
   exact (w (by omega) trivial (by omega) (by omega) (by omega) (decide_eq_false c) (decide_eq_true (by omega))).ends (great_run l hl m (i + 1) _ (by omega) ⟨by omega, by omega⟩)
def great_pre (n : Nat) (A : List Value) : Prop := ∃ l : List AcT, n = l.length ∧ A = acQ l
noncomputable def great_v (n : Nat) (A : List Value) : Value := .bool (greatB n A)
noncomputable def great_h (n : Nat) (A : List Value) : Heap := []
theorem great_call (n : Nat) (A : List Value) (h : great_pre n A) : CallOk E 14 [.iface n (.agg A.toArray)] [] (great_v n A) (great_h n A) := by
 obtain ⟨l, rfl, rfl⟩ := h
 refine callOk_of_ends ?_ (by kernel_rfl) (Nat.le_of_ble_eq_true (by kernel_rfl))
 unfold great_v greatB
 by_cases c : 150 < (l.length : Int)
 ·rw [if_pos c]
  exact great_w0_0 l.length (acQ l) (decide_eq_true c)
 ·rw [if_neg c, acD_acQ]
  exact (great_w0_1 l.length (acQ l) (decide_eq_false c)).ends (great_run l (by omega) l.length 0 0 (Nat.zero_add _) ⟨by omega, by omega⟩)

def great_ex (a : List Value) (h : Heap) : Nat × List Value := ((sliceLen (a.getD 0 undef)), (aggOf (a.getD 0 undef)))
noncomputable def great_k : Ct := kS great_ex [.row] [] (fun x => great_pre (x.1) (x.2)) (fun x => great_v (x.1) (x.2)) (fun x => great_h (x.1) (x.2))
theorem great_k_ok : KFor E 14 great_k := kS_ok (fun x hx => great_call (x.1) (x.2) hx) (fun _ _ => rfl) (fun _ _ => rfl)


theorem goG_false : ∀ (l : List AcT) (n : Int), goG n l = false → (∀ a ∈ l, slen a.2 ≤ 400) ∧ n + (l.map fun a => (slen a.2 : Int)).sum ≤ 8000
 | [], n, h => by
  unfold goG at h
  simp only [decide_eq_false_iff_not] at h
  exact ⟨fun a ha => by (cases ha), by simp; omega⟩
 | a :: r, n, h => by
  unfold goG at h
  by_cases c : 400 < (slen a.2 : Int)
  ·rw [if_pos c] at h; cases h
  ·rw [if_neg c] at h
   obtain ⟨h1, h2⟩ := goG_false r _ h
   refine ⟨fun b hb => ?_, by simp only [List.map_cons, List.sum_cons]; omega⟩
   rcases List.mem_cons.1 hb with rfl | hb
   ·omega
   ·exact h1 b hb
theorem greatB_false {l : List AcT} (h : greatB l.length (acQ l) = false) : l.length ≤ 150 ∧ (∀ a ∈ l, slen a.2 ≤ 400) ∧ (l.map fun a => (slen a.2 : Int)).sum ≤ 8000 := by
 unfold greatB at h
 by_cases c : 150 < (l.length : Int)
 ·rw [if_pos c] at h; cases h
 ·rw [if_neg c, acD_acQ] at h
  obtain ⟨h1, h2⟩ := goG_false l 0 h
  exact ⟨by omega, h1, by omega⟩
end Go.Proofs.Ytfpnjpbdaniomaa

/-
  The document's own Next as a contract.
-/
set_option linter.unusedVariables false
set_option linter.unusedSimpArgs false
open Go Go.Am
namespace Go.Proofs.Ytfpnjpbdaniomaa

def dnc_ex (a : List Value) (h : Heap) : ByteArray × Int × Bool × Bool × Bool × Bool × Int × Int × Int × Int × Int × Int × Int × Int × ByteArray × Int × Int × Int × Int × ByteArray × Bool × Bool × Int := ((toStr ((cellsOf h 0).getD 0 undef)), (toInt ((cellsOf h 0).getD 2 undef)), (toBool ((cellsOf h 0).getD 3 undef)), (toBool ((cellsOf h 0).getD 4 undef)), (toBool ((cellsOf h 0).getD 5 undef)), (toBool ((cellsOf h 0).getD 6 undef)), (toInt ((cellsOf h 0).getD 7 undef)), (toInt ((cellsOf h 0).getD 8 undef)), (toInt ((cellsOf h 0).getD 9 undef)), (toInt ((cellsOf h 0).getD 10 undef)), (toInt ((cellsOf h 0).getD 11 undef)), (toInt ((cellsOf h 0).getD 12 undef)), (toInt ((cellsOf h 0).getD 13 undef)), (toInt ((cellsOf h 0).getD 14 undef)), (toStr ((cellsOf h 0).getD 15 undef)), (toInt ((cellsOf h 1).getD 0 undef)), (toInt ((cellsOf h 1).getD 1 undef)), (toInt ((cellsOf h 1).getD 2 undef)), (toInt ((cellsOf h 1).getD 3 undef)), (toStr ((cellsOf h 1).getD 4 undef)), (toBool ((cellsOf h 1).getD 5 undef)), (toBool ((cellsOf h 1).getD 6 undef)), (toInt ((cellsOf h 1).getD 7 undef)))
noncomputable def dnc_k : Ct := kS dnc_ex [.ptr 0 0] [.cells [.str, .ptr 1 0, .int .i64, .bool, .bool, .bool, .bool, .int .i64, .int .i64, .int .u8, .int .u8, .int .u8, .int .u8, .int .u64, .int .i64, .str] 57 none, .cells [.int .i64, .int .i64, .int .i64, .int .i64, .str, .bool, .bool, .int .i64] 66 none] (fun (a0, a1, a2, a3, a4, a5, a6, a7, a8, a9, a10, a11, a12, a13, a14, a15, a16, a17, a18, a19, a20, a21, a22) => dnc_pre a0 a1 a2 a3 a4 a5 a6 a7 a8 a9 a10 a11 a12 a13 a14 a15 a16 a17 a18 a19 a20 a21 a22) (fun (a0, a1, a2, a3, a4, a5, a6, a7, a8, a9, a10, a11, a12, a13, a14, a15, a16, a17, a18, a19, a20, a21, a22) => dnc_v a0 a1 a2 a3 a4 a5 a6 a7 a8 a9 a10 a11 a12 a13 a14 a15 a16 a17 a18 a19 a20 a21 a22) (fun (a0, a1, a2, a3, a4, a5, a6, a7, a8, a9, a10, a11, a12, a13, a14, a15, a16, a17, a18, a19, a20, a21, a22) => dnc_h a0 a1 a2 a3 a4 a5 a6 a7 a8 a9 a10 a11 a12 a13 a14 a15 a16 a17 a18 a19 a20 a21 a22)
theorem dnc_k_ok : KFor E 22 dnc_k := kS_ok (fun x hx => dnc_call (x.1) (x.2.1) (x.2.2.1) (x.2.2.2.1) (x.2.2.2.2.1) (x.2.2.2.2.2.1) (x.2.2.2.2.2.2.1) (x.2.2.2.2.2.2.2.1) (x.2.2.2.2.2.2.2.2.1) (x.2.2.2.2.2.2.2.2.2.1) (x.2.2.2.2.2.2.2.2.2.2.1) (x.2.2.2.2.2.2.2.2.2.2.2.1) (x.2.2.2.2.2.2.2.2.2.2.2.2.1) (x.2.2.2.2.2.2.2.2.2.2.2.2.2.1) (x.2.2.2.2.2.2.2.2.2.2.2.2.2.2.1) (x.2.2.2.2.2.2.2.2.2.2.2.2.2.2.2.1) (x.2.2.2.2.2.2.2.2.2.2.2.2.2.2.2.2.1) (x.2.2.2.2.2.2.2.2.2.2.2.2.2.2.2.2.2.1) (x.2.2.2.2.2.2.2.2.2.2.2.2.2.2.2.2.2.2.1) (x.2.2.2.2.2.2.2.2.2.2.2.2.2.2.2.2.2.2.2.1) (x.2.2.2.2.2.2.2.2.2.2.2.2.2.2.2.2.2.2.2.2.1) (x.2.2.2.2.2.2.2.2.2.2.2.2.2.2.2.2.2.2.2.2.2.1) (x.2.2.2.2.2.2.2.2.2.2.2.2.2.2.2.2.2.2.2.2.2.2) hx) (fun _ _ => rfl) (fun _ _ => rfl)


noncomputable def KY : Ctr := ctrOf E [(9, anyA, wakes_k), (14, anyA, great_k), (21, ptrA, nxc_k), (22, ptrA, dnc_k), (28, anyA, jnw_k), (29, anyA, rnw_k), (30, ptrA, rfd_k), (42, ptrA, jop_k)]
theorem KY_ok : KOk E KY := ctr_cons wakes_k_ok (ctr_cons great_k_ok (ctr_cons nxc_k_ok (ctr_cons dnc_k_ok (ctr_cons jnw_k_ok (ctr_cons rnw_k_ok (ctr_cons rfd_k_ok (ctr_cons jop_k_ok ctr_nil)))))))

end Go.Proofs.Ytfpnjpbdaniomaa

/-
  The statement WsconnPlays: a limit that may not be.
-/
set_option linter.unusedVariables false
set_option linter.unusedSimpArgs false
open Go Go.Am
namespace Go.Proofs.Ytfpnjpbdaniomaa

def jnb_pre (lim : Int) : Prop := lim < 0 ∨ 1099511627776 < lim
noncomputable def jnb_v (lim : Int) : Value := .tuple #[.pointer none, .int .i64 1]
noncomputable def jnb_h (lim : Int) : Heap := []
theorem jnb_call (lim : Int) (h : jnb_pre lim) : CallOk E 28 [.int .i64 lim] [] (jnb_v lim) (jnb_h lim) := by
 by_cases c : lim < 0
 ·exact callOk_way (jn_w0_0 lim (decide_eq_true c))
 ·exact callOk_way (jn_w0_1 lim (decide_eq_true (h.resolve_left c)) (decide_eq_false c))

def jnb_ex (a : List Value) (h : Heap) : Int := (toInt (a.getD 0 undef))
noncomputable def jnb_k : Ct := kS jnb_ex [.int .i64] [] (fun x => jnb_pre x) (fun x => jnb_v x) (fun x => jnb_h x)
theorem jnb_k_ok : KFor E 28 jnb_k := kS_ok (fun x hx => jnb_call x hx) (fun _ _ => rfl) (fun _ _ => rfl)


noncomputable def KYb : Ctr := ctrOf E [(9, anyA, wakes_k), (14, anyA, great_k), (28, anyA, jnb_k)]
theorem KYb_ok : KOk E KYb := ctr_cons wakes_k_ok (ctr_cons great_k_ok (ctr_cons jnb_k_ok ctr_nil))

noncomputable abbrev playb_st (lim : Int) (n : Nat) (A : List Value) : Cfg := startC E 5 ([.int .i64 lim, .iface n (.agg A.toArray)]) ([])
theorem playb_w0_1 (lim : Int) (n : Nat) (A : List Value) (h0 : (decide (lim < 0)) = true) (h1 : jnb_pre lim) (h2 : (greatB n A) = false) (h3 : great_pre n A) : AEnds E 5 0 (playb_st lim n A) (.bool true) ([]) := by
 exact ends_q KYb_ok 2000 75 (bs 6 62) [] [4] [] (and4 (dT h0) (pdec_iff.2 h1) (dF h2) (pdec_iff.2 h3) rfl)
theorem playb_w0_2 (lim : Int) (n : Nat) (A : List Value) (h0 : (decide (1099511627776 < lim)) = true) (h1 : (decide (lim < 0)) = false) (h2 : jnb_pre lim) (h3 : (greatB n A) = false) (h4 : great_pre n A) : AEnds E 5 0 (playb_st lim n A) (.bool true) ([]) := by
 exact ends_q KYb_ok 2000 75 (bs 6 58) [] [4] [] (andI (dT h0) (and4 (dF h1) (pdec_iff.2 h2) (dF h3) (pdec_iff.2 h4) rfl))


end Go.Proofs.Ytfpnjpbdaniomaa
