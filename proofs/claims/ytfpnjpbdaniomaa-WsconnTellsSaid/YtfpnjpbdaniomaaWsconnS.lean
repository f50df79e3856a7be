/-
  A connection, plain: what Next does to how it stands.
-/
import Derived.Test.YtfpnjpbdaniomaaWsconnQ
set_option linter.unusedVariables false
set_option linter.unusedSimpArgs false
open Go Go.Am
namespace Go.Proofs.Ytfpnjpbdaniomaa

noncomputable def nxU (q : Option EvT × CS) : Int × Int × Int × ByteArray × Bool × Int × Int × ByteArray × Heap × Heap := ((evT q.1).1, (evT q.1).2.1, (evT q.1).2.2.1, (evT q.1).2.2.2, q.1.isSome, q.2.st, q.2.ctl, q.2.data, encR q.2.r, enc q.2.j)
theorem nxT_U (c : CS) : nxT c.st c.ctl c.data (encR c.r) (enc c.j) = nxU (nextC c) := nxT_eq c
theorem nxc_ok {B : Nat} (hB : B ≤ 1000000) {c : CS} (h : CW B c) : nxc_pre c.st c.ctl c.data (encR c.r) (enc c.j) := by
 refine ⟨c, ⟨h.r, h.ctl, Nat.le_trans h.dat hB, fun hs => ?_⟩, rfl, rfl, rfl, rfl, rfl⟩
 have j := h.jl hs
 have := j.tx
 have := j.a1
 exact ⟨j.bad, j.bg, j.lk, j.bo, j.ch, by omega, j.tn, j.a0, by omega⟩
theorem takesF_st (c : CS) (k o : Int) (f : Bool) (l : Int) (t : ByteArray) : (takesF c k o f l t).2.st = c.st ∨ (takesF c k o f l t).2.st = 3 := by
 unfold takesF
 repeat' split
 all_goals first | exact .inl rfl | exact .inr rfl
theorem nextF_inv {B : Nat} : ∀ (n : Nat) (c : CS), CW B c → CW B (nextF n c).2 ∧ ((nextF n c).2.st = c.st ∨ (nextF n c).2.st = 3)
 | 0, c, h => ⟨h, .inl rfl⟩
 | n + 1, c, h => by
  unfold nextF
  by_cases hs : c.st = 3
  ·rw [if_pos hs]; exact ⟨h, .inl rfl⟩
  rw [if_neg hs]
  cases ho : rOk (stepT true c.r) with
  | false => rw [if_pos rfl]; exact ⟨h, .inl rfl⟩
  | true =>
   rw [if_neg (by simp)]
   have hi := takeR_inv h hs ho
   have hst : (takeR c (evR (stepT true c.r)) (rx (stepT true c.r))).2.st = c.st ∨ (takeR c (evR (stepT true c.r)) (rx (stepT true c.r))).2.st = 3 := takesF_st _ _ _ _ _ _
   generalize takeR c (evR (stepT true c.r)) (rx (stepT true c.r)) = q at hi hst
   obtain ⟨e, c'⟩ := q
   cases e with
   | some e => exact ⟨hi, hst⟩
   | none =>
    obtain ⟨w1, w2⟩ := nextF_inv n c' hi
    refine ⟨w1, ?_⟩
    have hst : c'.st = c.st ∨ c'.st = 3 := hst
    show (nextF n c').2.st = c.st ∨ (nextF n c').2.st = 3
    rcases w2 with w2 | w2
    ·rw [w2]; exact hst
    ·exact .inr w2
def Dry (c : CS) : Prop := c.st = 3 ∨ rOk (stepT true c.r) = false
theorem feed_inv {x : RX} {s : ByteArray} (h : Inv x) (hl : slen (xIn x) + slen s ≤ 1000000) : Inv (feedX x s) ∧ xSt (feedX x s) = xSt x ∧ slen (xIn (feedX x s)) ≤ slen (xIn x) + slen s ∧ xHl (feedX x s) = xHl x ∧ xTold (feedX x s) = xTold x := by
 unfold feedX
 cases hc : x.1 != 2 with
 | false => rw [cond_false]; exact ⟨h, rfl, by omega, rfl, rfl⟩
 | true =>
  rw [cond_true]
  have hs : slen (xIn (xSet x x.1 (cat x.2.1 s) (xTold x))) = slen (xIn x) + slen s := slen_cat _ _
  exact ⟨⟨h.st, by rw [hs]; omega⟩, rfl, by omega, rfl, rfl⟩
theorem feedC_inv {B k : Nat} {c : CS} {s : ByteArray} (h : CW B c) (hs : slen s ≤ k) (hB : B + k ≤ 1000000) : CW (B + k) { c with r := feedX c.r s } := by
 have hd := h.dat
 have hl := h.le
 obtain ⟨f1, f2, f3, f4, f5⟩ := feed_inv (s := s) h.r (by omega)
 refine ⟨f1, fun hc => by rw [f2]; exact h.ctl hc, by show slen c.data + slen (xIn (feedX c.r s)) ≤ _; omega, fun hst => ?_⟩
 have j := h.jl hst
 have := j.tx
 have := j.a1
 refine ⟨j.bad, ?_, ?_, j.bo, j.ch, by show txtL c.j.txt + slen (xIn (feedX c.r s)) ≤ _; omega, j.tn, j.a0, by show (chkG c.j.chk).2.1 + slen (xIn (feedX c.r s)) ≤ _; omega⟩
 ·show c.j.begun = true ↔ (xSt (feedX c.r s) = 1 ∧ c.ctl = 0)
  rw [f2]; exact j.bg
 ·intro hb
  show c.j.lacks = xHl (feedX c.r s) - xTold (feedX c.r s)
  rw [f4, f5]; exact j.lk hb
noncomputable def c0 (lim : Int) : CS := ⟨1, 0, ⟨#[]⟩, rx0, js0 lim⟩
theorem c0_inv (lim : Int) : CW 0 (c0 lim) := by
 refine ⟨⟨.inr (.inl rfl), by show slen ⟨#[]⟩ ≤ 1000000; decide⟩, fun h => absurd rfl h, Nat.le_refl _, fun _ => ?_⟩
 exact ⟨rfl, ⟨fun h => (by cases h), fun h => (by have h1 : (0 : Int) = 1 := h.1; cases h1)⟩, fun h => (by cases h), fun h => (by cases h), fun h => absurd rfl h, Nat.le_refl _, fun b h => (by cases h), Int.le_refl _, Int.le_refl _⟩
theorem rfd_ok {B : Nat} {c : CS} {s : ByteArray} (h : CW B c) (hs : B + slen s ≤ 1000000) : rfd_pre (encR c.r) s := by
 have := h.le
 refine ⟨rfl, ?_⟩
 show slen (xIn c.r) + slen s ≤ 1000000
 omega
theorem rfdR_enc (x : RX) (s : ByteArray) : rfdR (encR x) s = encR (feedX x s) := rfdR_eq _ _
end Go.Proofs.Ytfpnjpbdaniomaa
