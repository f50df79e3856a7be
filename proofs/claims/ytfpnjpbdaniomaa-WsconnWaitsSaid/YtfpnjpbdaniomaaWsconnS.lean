/-
  A connection, plain: what Next does to how it stands.
-/
import Derived.Test.YtfpnjpbdaniomaaWsconnQ
set_option linter.unusedVariables false
set_option linter.unusedSimpArgs false
open Go Go.Am
namespace Go.Proofs.Ytfpnjpbdaniomaa

noncomputable def nxU (q : Option EvT × CS) : Int × Int × Int × ByteArray × Bool × Int × Int × ByteArray × Heap × Heap := ((evT q.1).1, (evT q.1).2.1, (evT q.1).2.2.1, (evT q.1).2.2.2, q.1.isSome, q.2.st, q.2.ctl, q.2.data, encR q.2.r, enc q.2.j)
theorem nxT_U (c : CS) : nxT c.st c.ctl c.data (encR c.r) (enc c.j) = nxU (nextC c) := nxT_eq c
theorem nxc_ok {B : Nat} (hB : B ≤ 1000000) {c : CS} (h : CW B c) : nxc_pre c.st c.ctl c.data (encR c.r) (enc c.j) := by
 refine ⟨c, ⟨h.r, h.ctl, Nat.le_trans h.dat hB, fun hs => ?_⟩, rfl, rfl, rfl, rfl, rfl⟩
 have j := h.jl hs
 have := j.tx
 have := j.a1
 exact ⟨j.bad, j.bg, j.lk, j.bo, j.ch, by omega, j.tn, j.a0, by omega⟩
theorem takesF_st (c : CS) (k o : Int) (f : Bool) (l : Int) (t : ByteArray) : (takesF c k o f l t).2.st = c.st ∨ (takesF c k o f l t).2.st = 3 := by
 unfold takesF
 repeat' split
 all_goals first | exact .inl rfl | exact .inr rfl
theorem takesF_wait {c : CS} (h2 : c.st = 2) (k o : Int) (f : Bool) (l : Int) (t : ByteArray) {e : EvT} (he : (takesF c k o f l t).1 = some e) :
  (e.1 = 3 ∨ (e.1 = 4 ∧ (e.2.2.1 = 1002 ∨ e.2.2.1 = 1007))) ∧ (takesF c k o f l t).2.st = 3 := by
 have h1 : ¬ c.st = 1 := by omega
 unfold takesF at he ⊢
 by_cases a : k = 4
 ·rw [if_pos a] at he ⊢
  cases he
  exact ⟨.inr ⟨rfl, .inl rfl⟩, rfl⟩
 rw [if_neg a] at he ⊢
 by_cases b : k = 1 ∧ 8 ≤ o
 ·rw [if_pos b] at he; cases he
 rw [if_neg b] at he ⊢
 by_cases d : ¬ c.ctl = 0
 ·rw [if_pos d] at he ⊢
  by_cases k2 : k = 2
  ·rw [if_pos k2] at he; cases he
  rw [if_neg k2] at he ⊢
  by_cases c8 : c.ctl = 8
  ·rw [if_pos c8] at he ⊢
   by_cases cd : ¬ (cdT c.data).2.2 = 0
   ·rw [if_pos cd] at he ⊢
    cases he
    refine ⟨.inr ⟨rfl, ?_⟩, rfl⟩
    show (cdT c.data).2.2 = 1002 ∨ (cdT c.data).2.2 = 1007
    revert cd
    unfold cdT
    repeat' split
    ·intro cd; exact absurd rfl cd
    ·intro _; exact .inl rfl
    ·cases mayP (codeOf c.data) with
     | false => intro _; exact .inl rfl
     | true => cases textD (sub c.data 2 (slen c.data)) with
      | true => intro cd; exact absurd rfl cd
      | false => intro _; exact .inr rfl
   ·rw [if_neg cd] at he ⊢
    cases he
    exact ⟨.inl rfl, rfl⟩
  ·rw [if_neg c8] at he
   rw [if_neg (fun hh => h1 hh.2)] at he
   cases he
 ·rw [if_neg d, if_pos h1] at he
  cases he
theorem nextF_inv {B : Nat} : ∀ (n : Nat) (c : CS), CW B c → CW B (nextF n c).2 ∧ ((nextF n c).2.st = c.st ∨ (nextF n c).2.st = 3)
 | 0, c, h => ⟨h, .inl rfl⟩
 | n + 1, c, h => by
  unfold nextF
  by_cases hs : c.st = 3
  ·rw [if_pos hs]; exact ⟨h, .inl rfl⟩
  rw [if_neg hs]
  cases ho : rOk (stepT true c.r) with
  | false => rw [if_pos rfl]; exact ⟨h, .inl rfl⟩
  | true =>
   rw [if_neg (by simp)]
   have hi := takeR_inv h hs ho
   have hst : (takeR c (evR (stepT true c.r)) (rx (stepT true c.r))).2.st = c.st ∨ (takeR c (evR (stepT true c.r)) (rx (stepT true c.r))).2.st = 3 := takesF_st _ _ _ _ _ _
   generalize takeR c (evR (stepT true c.r)) (rx (stepT true c.r)) = q at hi hst
   obtain ⟨e, c'⟩ := q
   cases e with
   | some e => exact ⟨hi, hst⟩
   | none =>
    obtain ⟨w1, w2⟩ := nextF_inv n c' hi
    refine ⟨w1, ?_⟩
    have hst : c'.st = c.st ∨ c'.st = 3 := hst
    show (nextF n c').2.st = c.st ∨ (nextF n c').2.st = 3
    rcases w2 with w2 | w2
    ·rw [w2]; exact hst
    ·exact .inr w2
theorem nextF_wait : ∀ (n : Nat) (c : CS), c.st = 2 → ∀ e, (nextF n c).1 = some e → (e.1 = 3 ∨ (e.1 = 4 ∧ (e.2.2.1 = 1002 ∨ e.2.2.1 = 1007))) ∧ (nextF n c).2.st = 3
 | 0, c, h, e, he => by cases he
 | n + 1, c, h, e, he => by
  unfold nextF at he ⊢
  rw [if_neg (by omega)] at he ⊢
  cases ho : rOk (stepT true c.r) with
  | false => rw [ho, if_pos rfl] at he; cases he
  | true =>
   rw [ho, if_neg (by simp)] at he
   rw [if_neg (by simp)]
   have hw := takesF_wait (e := e) (c := { c with r := rx (stepT true c.r) }) h (evR (stepT true c.r)).1 (evR (stepT true c.r)).2.1 (evR (stepT true c.r)).2.2.1 (evR (stepT true c.r)).2.2.2.1 (evR (stepT true c.r)).2.2.2.2.1
   have hst := takesF_st { c with r := rx (stepT true c.r) } (evR (stepT true c.r)).1 (evR (stepT true c.r)).2.1 (evR (stepT true c.r)).2.2.1 (evR (stepT true c.r)).2.2.2.1 (evR (stepT true c.r)).2.2.2.2.1
   unfold takeR at he ⊢
   generalize takesF { c with r := rx (stepT true c.r) } (evR (stepT true c.r)).1 (evR (stepT true c.r)).2.1 (evR (stepT true c.r)).2.2.1 (evR (stepT true c.r)).2.2.2.1 (evR (stepT true c.r)).2.2.2.2.1 = q at he hw hst ⊢
   obtain ⟨e', c'⟩ := q
   cases e' with
   | some e' =>
    cases he
    exact hw rfl
   | none =>
    have hst : c'.st = c.st ∨ c'.st = 3 := hst
    rcases hst with hst | hst
    ·exact nextF_wait n c' (by omega) e he
    ·have : nextF n c' = (none, c') := by
      cases n with
      | zero => rfl
      | succ n => unfold nextF; rw [if_pos hst]
     have he : (nextF n c').1 = some e := he
     rw [this] at he
     cases he
def Dry (c : CS) : Prop := c.st = 3 ∨ rOk (stepT true c.r) = false
theorem nextF_dry : ∀ (n : Nat) (c : CS), mu c.r < n → Inv c.r → (nextF n c).1 = none → Dry (nextF n c).2
 | 0, c, hm, _, _ => by omega
 | n + 1, c, hm, hI, he => by
  unfold nextF at he ⊢
  by_cases hs : c.st = 3
  ·rw [if_pos hs]; exact .inl hs
  rw [if_neg hs] at he ⊢
  cases ho : rOk (stepT true c.r) with
  | false => rw [if_pos rfl]; exact .inr ho
  | true =>
   rw [ho, if_neg (by simp)] at he
   rw [if_neg (by simp)]
   have hr := takeR_r c (evR (stepT true c.r)) (rx (stepT true c.r))
   obtain ⟨i1, i2⟩ := step_inv hI ho
   generalize takeR c (evR (stepT true c.r)) (rx (stepT true c.r)) = q at he hr ⊢
   obtain ⟨e', c'⟩ := q
   cases e' with
   | some e' => cases he
   | none =>
    have hr : c'.r = rx (stepT true c.r) := hr
    exact nextF_dry n c' (by rw [hr]; omega) (by rw [hr]; exact i1) he
theorem dry_next {c : CS} (h : Dry c) : nextC c = (none, c) := by
 unfold nextC nextF
 rcases h with h | h
 ·rw [if_pos h]
 ·by_cases hs : c.st = 3
  ·rw [if_pos hs]
  ·rw [if_neg hs, if_pos h]
theorem nextC_dry {c : CS} (h : Inv c.r) (he : (nextC c).1 = none) : nextC (nextC c).2 = (none, (nextC c).2) := dry_next (nextF_dry _ c (Nat.lt_succ_self _) h he)
theorem feed_inv {x : RX} {s : ByteArray} (h : Inv x) (hl : slen (xIn x) + slen s ≤ 1000000) : Inv (feedX x s) ∧ xSt (feedX x s) = xSt x ∧ slen (xIn (feedX x s)) ≤ slen (xIn x) + slen s ∧ xHl (feedX x s) = xHl x ∧ xTold (feedX x s) = xTold x := by
 unfold feedX
 cases hc : x.1 != 2 with
 | false => rw [cond_false]; exact ⟨h, rfl, by omega, rfl, rfl⟩
 | true =>
  rw [cond_true]
  have hs : slen (xIn (xSet x x.1 (cat x.2.1 s) (xTold x))) = slen (xIn x) + slen s := slen_cat _ _
  exact ⟨⟨h.st, by rw [hs]; omega⟩, rfl, by omega, rfl, rfl⟩
theorem feedC_inv {B k : Nat} {c : CS} {s : ByteArray} (h : CW B c) (hs : slen s ≤ k) (hB : B + k ≤ 1000000) : CW (B + k) { c with r := feedX c.r s } := by
 have hd := h.dat
 have hl := h.le
 obtain ⟨f1, f2, f3, f4, f5⟩ := feed_inv (s := s) h.r (by omega)
 refine ⟨f1, fun hc => by rw [f2]; exact h.ctl hc, by show slen c.data + slen (xIn (feedX c.r s)) ≤ _; omega, fun hst => ?_⟩
 have j := h.jl hst
 have := j.tx
 have := j.a1
 refine ⟨j.bad, ?_, ?_, j.bo, j.ch, by show txtL c.j.txt + slen (xIn (feedX c.r s)) ≤ _; omega, j.tn, j.a0, by show (chkG c.j.chk).2.1 + slen (xIn (feedX c.r s)) ≤ _; omega⟩
 ·show c.j.begun = true ↔ (xSt (feedX c.r s) = 1 ∧ c.ctl = 0)
  rw [f2]; exact j.bg
 ·intro hb
  show c.j.lacks = xHl (feedX c.r s) - xTold (feedX c.r s)
  rw [f4, f5]; exact j.lk hb
theorem CW.shut {B : Nat} {c : CS} (h : CW B c) {s : Int} (hs : ¬ s = 1) : CW B { c with st := s } := ⟨h.r, h.ctl, h.dat, fun hh => absurd hh hs⟩
noncomputable def c0 (lim : Int) : CS := ⟨1, 0, ⟨#[]⟩, rx0, js0 lim⟩
theorem c0_inv (lim : Int) : CW 0 (c0 lim) := by
 refine ⟨⟨.inr (.inl rfl), by show slen ⟨#[]⟩ ≤ 1000000; decide⟩, fun h => absurd rfl h, Nat.le_refl _, fun _ => ?_⟩
 exact ⟨rfl, ⟨fun h => (by cases h), fun h => (by have h1 : (0 : Int) = 1 := h.1; cases h1)⟩, fun h => (by cases h), fun h => (by cases h), fun h => absurd rfl h, Nat.le_refl _, fun b h => (by cases h), Int.le_refl _, Int.le_refl _⟩
theorem rfd_ok {B : Nat} {c : CS} {s : ByteArray} (h : CW B c) (hs : B + slen s ≤ 1000000) : rfd_pre (encR c.r) s := by
 have := h.le
 refine ⟨rfl, ?_⟩
 show slen (xIn c.r) + slen s ≤ 1000000
 omega
theorem rfdR_enc (x : RX) (s : ByteArray) : rfdR (encR x) s = encR (feedX x s) := rfdR_eq _ _
end Go.Proofs.Ytfpnjpbdaniomaa
