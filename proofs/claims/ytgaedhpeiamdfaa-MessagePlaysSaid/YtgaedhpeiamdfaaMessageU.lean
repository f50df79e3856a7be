/-
  The program's joiner beside the document's, in plain functions: what the document's calls do where both stand alike.
-/
import Derived.Test.YtgaedhpeiamdfaaMessageA
import Derived.Test.YtgaedhpeiamdfaaMessageJe
import Derived.Test.YtgaedhpeiamdfaaUtfO18
import Derived.Test.YtgaedhpeiamdfaaMessageD
set_option linter.unusedVariables false
set_option linter.unusedSimpArgs false
open Go Go.Am
namespace Go.Proofs.Ytgaedhpeiamdfaa

def Sim (lim bad op sum : Int) (begun last : Bool) (lacks wbad wop wsum : Int) (d : ByteArray) (wbeg wlast : Bool) (wleft : Int) : Prop :=
 wbad = bad ∧ (bad = 0 → op = wop ∧ sum = wsum ∧ begun = wbeg ∧ (op = 0 ∨ op = 1 ∨ op = 2) ∧ (0 ≤ sum ∧ sum ≤ lim) ∧ (op = 0 → d = ⟨#[]⟩) ∧ (begun = true → last = wlast ∧ lacks = wleft ∧ (0 ≤ lacks ∧ lacks ≤ lim) ∧ op ≠ 0))

theorem feedL_pos : ∀ (l : List UInt8) (q : Q) (at' : Int) (bad : Bool), at' ≤ (feedL q at' bad l).2.1 ∧ (feedL q at' bad l).2.1 ≤ at' + l.length
 | l, q, at', true => by rw [feedL_bad]; simp only []; omega
 | l, q, at', false => ⟨(feedL_at l q at').1, (feedL_at l q at').2.1⟩

section
variable {lim bad op sum : Int} {begun last : Bool} {lacks wbad wop wsum : Int} {d : ByteArray} {wbeg wlast : Bool} {wleft : Int}

/-! ### Begin -/
theorem bneD (a b : Int) : (a != b) = decide (¬ a = b) := by
 by_cases h : a = b
 ·subst h; simp
 ·simp [h]
theorem beqD (a b : Int) : (a == b) = decide (a = b) := by
 by_cases h : a = b
 ·subst h; simp
 ·simp [h]
theorem bopD (o op : Int) : bop o op = decide (o = 0 ↔ op = 0) := by
 unfold bop
 rw [bneD, beqD]
 by_cases h : o = 0 <;> by_cases g : op = 0 <;> simp [h, g]
theorem bcode_if (hl : 0 ≤ lim ∧ lim ≤ 1099511627776) (hs : 0 ≤ sum ∧ sum ≤ lim) (o n : Int) :
  bcode lim bad op sum begun o n = if ¬ bad = 0 then bad else if begun = true then 1002 else if n < 0 then 1002 else if ¬ o = 0 ∧ ¬ o = 1 ∧ ¬ o = 2 then 1002 else if (o = 0 ↔ op = 0) then 1002 else if lim - sum < n then 1009 else 0 := by
 have w : IntKind.i64.wrap (lim - sum) = lim - sum := wrap64_in (by omega) (by omega)
 unfold bcode
 rw [w]
 cases begun <;> simp only [bneD, bopD, ← Bool.decide_and, Bool.cond_decide, cond_true, cond_false, if_true, Bool.false_eq_true, if_false]
theorem rbegin_if (hl : 0 ≤ lim ∧ lim ≤ 1099511627776) {l : Bool} {o n : Int} (hn : -9223372036854775808 ≤ n ∧ n ≤ 9223372036854775807) (hw : wbad = 0 → 0 ≤ wsum ∧ wsum ≤ lim) :
  rbegin_t0 lim wbad wop wsum d wbeg wlast wleft l o n = (bif bcode lim wbad wop wsum wbeg o n == 0 then (bif o == 0 then (0, 0, wop, IntKind.i64.wrap (wsum + n), d, true, l, n) else (0, 0, o, IntKind.i64.wrap (wsum + n), ⟨#[]⟩, true, l, n))
   else (bcode lim wbad wop wsum wbeg o n, bcode lim wbad wop wsum wbeg o n, wop, wsum, d, wbeg, wlast, wleft)) := by
 by_cases c1 : wbad = 0
 ·subst c1
  rw [bcode_if hl (hw rfl)]
  have hs := hw rfl
  unfold rbegin_t0
  cases wbeg with
  | true => simp
  | false =>
   by_cases c2 : n < 0
   ·simp [c2]
   ·have w : IntKind.i64.wrap (lim - n) = lim - n := wrap64_in (by omega) (by omega)
    rw [w]
    simp only [bneD, beqD, Bool.cond_decide, cond_true, cond_false]
    by_cases h0 : o = 0
    ·subst h0
     by_cases h3 : wop = 0
     ·simp [c2, h3]
     ·by_cases c3 : lim - wsum < n
      ·by_cases c4 : lim < n
       ·simp [c2, h3, c3, c4]
       ·simp [c2, h3, c3, c4, show lim - n < wsum by omega]
      ·simp [c2, h3, c3, show ¬ lim < n by omega, show ¬ lim - n < wsum by omega]
    ·by_cases h1 : o = 1
     ·subst h1
      by_cases h3 : wop = 0
      ·by_cases c3 : lim - wsum < n
       ·by_cases c4 : lim < n
        ·simp [c2, h3, c3, c4]
        ·simp [c2, h3, c3, c4, show lim - n < wsum by omega]
       ·simp [c2, h3, c3, show ¬ lim < n by omega, show ¬ lim - n < wsum by omega]
      ·simp [c2, h3]
     ·by_cases h2 : o = 2
      ·subst h2
       by_cases h3 : wop = 0
       ·by_cases c3 : lim - wsum < n
        ·by_cases c4 : lim < n
         ·simp [c2, h3, c3, c4]
         ·simp [c2, h3, c3, c4, show lim - n < wsum by omega]
        ·simp [c2, h3, c3, show ¬ lim < n by omega, show ¬ lim - n < wsum by omega]
       ·simp [c2, h3]
      ·simp [c2, h0, h1, h2]
 ·have e : bcode lim wbad wop wsum wbeg o n = wbad := by unfold bcode; simp only [bneD, c1, not_false_eq_true, decide_true, cond_true]
  rw [e]
  unfold rbegin_t0
  simp only [bneD, beqD, c1, not_false_eq_true, decide_true, decide_false, cond_true, cond_false]
theorem sim_bcode (h : Sim lim bad op sum begun last lacks wbad wop wsum d wbeg wlast wleft) (o n : Int) : bcode lim wbad wop wsum wbeg o n = bcode lim bad op sum begun o n := by
 obtain ⟨rfl, h2⟩ := h
 by_cases c1 : wbad = 0
 ·obtain ⟨rfl, rfl, rfl, _⟩ := h2 c1
  rfl
 ·unfold bcode
  simp only [bneD, c1, not_false_eq_true, decide_true, cond_true]
theorem sim_sum (h : Sim lim bad op sum begun last lacks wbad wop wsum d wbeg wlast wleft) : wbad = 0 → 0 ≤ wsum ∧ wsum ≤ lim := by
 obtain ⟨rfl, h2⟩ := h
 intro c1
 obtain ⟨rfl, rfl, rfl, _, h4, _⟩ := h2 c1
 exact h4
theorem rb_all (hl : 0 ≤ lim ∧ lim ≤ 1099511627776) (h : Sim lim bad op sum begun last lacks wbad wop wsum d wbeg wlast wleft) {l : Bool} {o n : Int} (hn : -9223372036854775808 ≤ n ∧ n ≤ 9223372036854775807) :
  rbegin_t0 lim wbad wop wsum d wbeg wlast wleft l o n = (bif bcode lim bad op sum begun o n == 0 then (bif o == 0 then (0, 0, wop, IntKind.i64.wrap (wsum + n), d, true, l, n) else (0, 0, o, IntKind.i64.wrap (wsum + n), ⟨#[]⟩, true, l, n))
   else (bcode lim bad op sum begun o n, bcode lim bad op sum begun o n, wop, wsum, d, wbeg, wlast, wleft)) := by
 rw [rbegin_if hl hn (sim_sum h), sim_bcode h]
theorem bcode_0 (hl : 0 ≤ lim ∧ lim ≤ 1099511627776) (h : Sim lim bad op sum begun last lacks wbad wop wsum d wbeg wlast wleft) {o n : Int} (hc : (bcode lim bad op sum begun o n == 0) = true) :
  bad = 0 ∧ begun = false ∧ 0 ≤ n ∧ (o = 0 ∨ o = 1 ∨ o = 2) ∧ (o = 0 ↔ op ≠ 0) ∧ n ≤ lim - sum := by
 have hc : bcode lim bad op sum begun o n = 0 := by simpa using hc
 by_cases c1 : bad = 0
 ·have hs := h
  obtain ⟨rfl, h2⟩ := hs
  obtain ⟨_, _, _, _, h4, _⟩ := h2 c1
  rw [bcode_if hl h4] at hc
  subst c1
  cases begun with
  | true => simp at hc
  | false =>
   simp only [not_true_eq_false, if_false, Bool.false_eq_true] at hc
   split at hc
   ·cases hc
   ·split at hc
    ·cases hc
    ·split at hc
     ·cases hc
     ·split at hc
      ·cases hc
      ·exact ⟨rfl, rfl, by omega, by omega, by omega, by omega⟩
 ·have e : bcode lim bad op sum begun o n = bad := by unfold bcode; simp only [bneD, c1, not_false_eq_true, decide_true, cond_true]
  exact absurd (e ▸ hc) c1

/-! ### Piece -/
theorem rp_F (h : Sim lim bad op sum begun last lacks wbad wop wsum d wbeg wlast wleft) {s : ByteArray} (hc : (pcode bad lacks begun s == 0) = false) :
  rpiece_t0 lim wbad wop wsum d wbeg wlast wleft s = (pcode bad lacks begun s, pcode bad lacks begun s, d, wleft) := by
 have hc : pcode bad lacks begun s ≠ 0 := by simpa using hc
 obtain ⟨rfl, h2⟩ := h
 by_cases c1 : wbad = 0
 ·obtain ⟨rfl, rfl, rfl, h3, h4, h5, h6⟩ := h2 c1
  subst c1
  unfold pcode at hc ⊢
  unfold rpiece_t0
  cases begun with
  | false => simp
  | true =>
   obtain ⟨rfl, rfl, _⟩ := h6 rfl
   by_cases c2 : lacks < (slen s : Int)
   ·simp [c2]
   ·simp [c2] at hc
 ·unfold pcode rpiece_t0
  simp only [bneD]
  simp [c1]
theorem pcode_0 {s : ByteArray} (hc : (pcode bad lacks begun s == 0) = true) : bad = 0 ∧ begun = true ∧ (slen s : Int) ≤ lacks := by
 have hc : pcode bad lacks begun s = 0 := by simpa using hc
 unfold pcode at hc
 by_cases c1 : bad = 0
 ·subst c1
  cases begun with
  | false => simp at hc
  | true =>
   by_cases c2 : lacks < (slen s : Int)
   ·simp [c2] at hc
   ·exact ⟨rfl, rfl, by omega⟩
 ·simp only [bneD] at hc
  simp [c1] at hc
theorem rp_ok (h : Sim lim bad op sum begun last lacks wbad wop wsum d wbeg wlast wleft) {s : ByteArray} (hc : (pcode bad lacks begun s == 0) = true) (hf : op = 1 → (feedL (0, 0, 0, 0) 0 false (toL (cat d s))).2.2 = false) :
  rpiece_t0 lim wbad wop wsum d wbeg wlast wleft s = (0, 0, cat d s, IntKind.i64.wrap (wleft - (slen s : Int))) := by
 obtain ⟨rfl, rfl, c2⟩ := pcode_0 hc
 obtain ⟨rfl, h2⟩ := h
 obtain ⟨rfl, rfl, rfl, h3, h4, h5, h6⟩ := h2 rfl
 obtain ⟨rfl, rfl, _⟩ := h6 rfl
 unfold rpiece_t0
 simp only [beqD]
 by_cases c1 : op = 1
 ·simp [c1, hf c1, show ¬ lacks < (slen s : Int) by omega]
 ·simp [c1, show ¬ lacks < (slen s : Int) by omega]
theorem rp_B (h : Sim lim bad op sum begun last lacks wbad wop wsum d wbeg wlast wleft) {s : ByteArray} (hc : (pcode bad lacks begun s == 0) = true) (ho : op = 1) (hf : (feedL (0, 0, 0, 0) 0 false (toL (cat d s))).2.2 = true) :
  rpiece_t0 lim wbad wop wsum d wbeg wlast wleft s = (1007, 1007, d, wleft) := by
 obtain ⟨rfl, rfl, c2⟩ := pcode_0 hc
 obtain ⟨rfl, h2⟩ := h
 obtain ⟨rfl, rfl, rfl, h3, h4, h5, h6⟩ := h2 rfl
 obtain ⟨rfl, rfl, _⟩ := h6 rfl
 unfold rpiece_t0
 simp [ho, hf, show ¬ lacks < (slen s : Int) by omega]

/-! ### End -/
theorem re_all (h : Sim lim bad op sum begun last lacks wbad wop wsum d wbeg wlast wleft) {left : Int} {cbad : Bool} (hf : bad = 0 → op = 1 → (feedL (0, 0, 0, 0) 0 false (toL d)).2.2 = cbad ∧ (feedL (0, 0, 0, 0) 0 false (toL d)).1.1 = left) :
  rend_t0 lim wbad wop wsum d wbeg wlast wleft = bif ecode bad op lacks left begun last cbad == 0 then (bif last then (wop, d, true, 0, 0, 0, 0, ⟨#[]⟩, false) else (0, ⟨#[]⟩, false, 0, 0, wop, wsum, d, false))
   else (0, ⟨#[]⟩, false, ecode bad op lacks left begun last cbad, ecode bad op lacks left begun last cbad, wop, wsum, d, wbeg) := by
 obtain ⟨rfl, h2⟩ := h
 by_cases c1 : wbad = 0
 ·obtain ⟨rfl, rfl, rfl, h3, h4, h5, h6⟩ := h2 c1
  subst c1
  unfold ecode rend_t0
  simp only [beqD, bneD]
  cases begun with
  | false => simp
  | true =>
   obtain ⟨rfl, rfl, _⟩ := h6 rfl
   by_cases c2 : 0 < lacks
   ·simp [c2]
   ·cases last with
    | false => simp [c2]
    | true =>
     by_cases c3 : op = 1
     ·obtain ⟨rfl, rfl⟩ := hf rfl c3
      by_cases c4 : (feedL (0, 0, 0, 0) 0 false (toL d)).1.1 = 0
      ·cases c5 : (feedL (0, 0, 0, 0) 0 false (toL d)).2.2 <;> simp [c2, c3, c4, c5]
      ·cases c5 : (feedL (0, 0, 0, 0) 0 false (toL d)).2.2 <;> simp [c2, c3, c4, c5]
     ·simp [c2, c3]
 ·unfold ecode rend_t0
  simp only [beqD, bneD]
  simp [c1]
end
end Go.Proofs.Ytgaedhpeiamdfaa

/-
  The statement MessagePlays: the loop goes through, act by act.
-/
set_option linter.unusedVariables false
set_option linter.unusedSimpArgs false
open Go Go.Am
namespace Go.Proofs.Ytgaedhpeiamdfaa

def MJ (K lim bad op sum : Int) (begun last : Bool) (lacks wbad wop wsum : Int) (d : ByteArray) (wbeg wlast : Bool) (wleft : Int) : Prop :=
 Sim lim bad op sum begun last lacks wbad wop wsum d wbeg wlast wleft ∧ (slen d : Int) ≤ K
def MC (K bad op left low high x at' : Int) (cbad : Bool) (d : ByteArray) : Prop :=
 (0 ≤ at' ∧ at' ≤ K) ∧ (bad = 0 → op = 1 → feedL (0, 0, 0, 0) 0 false (toL d) = ((left, low, high, x), at', cbad) ∧ cbad = false)
def MB (K bad : Int) (bn : Nat) (B : List Value) (d : ByteArray) : Prop := ∃ b : ByteArray, slen b = bn ∧ B = ofBytes b ∧ 0 < bn ∧ (bn : Int) ≤ K ∧ (bad = 0 → b = d)
def I0 (K lim bad : Int) (op sum : Int) (begun last : Bool) (lacks wbad : Int) (wop wsum : Int) (d : ByteArray) (wbeg wlast : Bool) (wleft : Int) : Prop := MJ K lim bad op sum begun last lacks wbad wop wsum d wbeg wlast wleft ∧ op = 0 ∧ begun = false
def I1 (K lim bad : Int) (op sum : Int) (begun last : Bool) (lacks wbad : Int) (wop wsum : Int) (d : ByteArray) (wbeg wlast : Bool) (wleft left : Int) (low high : Int) (x at' : Int) (cbad : Bool) : Prop := MJ K lim bad op sum begun last lacks wbad wop wsum d wbeg wlast wleft ∧ MC K bad op left low high x at' cbad d ∧ (bad = 0 → d = ⟨#[]⟩)
def I2 (K lim bad : Int) (op sum : Int) (begun last : Bool) (lacks wbad : Int) (wop wsum : Int) (d : ByteArray) (wbeg wlast : Bool) (wleft left : Int) (low high : Int) (x at' : Int) (cbad : Bool) : Prop := MJ K lim bad op sum begun last lacks wbad wop wsum d wbeg wlast wleft ∧ MC K bad op left low high x at' cbad d ∧ (bad = 0 → d = ⟨#[]⟩)
def I3 (K lim bad : Int) (op sum : Int) (bn : Nat) (begun last : Bool) (lacks wbad : Int) (wop wsum : Int) (d : ByteArray) (wbeg wlast : Bool) (wleft : Int) (B : List Value) (left low : Int) (high x at' : Int) (cbad : Bool) : Prop := MJ K lim bad op sum begun last lacks wbad wop wsum d wbeg wlast wleft ∧ MC K bad op left low high x at' cbad d ∧ MB K bad bn B d

section
variable {K lim bad op sum : Int} {begun last : Bool} {lacks wbad wop wsum : Int} {d : ByteArray} {wbeg wlast : Bool} {wleft left low high x at' : Int} {cbad : Bool} {bn : Nat} {B : List Value}
theorem MJ.le {K' : Int} (h : MJ K lim bad op sum begun last lacks wbad wop wsum d wbeg wlast wleft) (hk : K ≤ K') : MJ K' lim bad op sum begun last lacks wbad wop wsum d wbeg wlast wleft := ⟨h.1, by have := h.2; omega⟩
theorem MC.le {K' : Int} (h : MC K bad op left low high x at' cbad d) (hk : K ≤ K') : MC K' bad op left low high x at' cbad d := ⟨⟨h.1.1, by have := h.1.2; omega⟩, h.2⟩
theorem MB.le {K' : Int} (h : MB K bad bn B d) (hk : K ≤ K') : MB K' bad bn B d := by
 obtain ⟨b, h1, h2, h3, h4, h5⟩ := h
 exact ⟨b, h1, h2, h3, by omega, h5⟩
theorem MJ.fail (h : MJ K lim bad op sum begun last lacks wbad wop wsum d wbeg wlast wleft) {c : Int} (hc : c ≠ 0) : MJ K lim c op sum begun last lacks c wop wsum d wbeg wlast wleft := ⟨⟨rfl, fun e => absurd e hc⟩, h.2⟩
theorem MC.fail (h : MC K bad op left low high x at' cbad d) {c : Int} (hc : c ≠ 0) : MC K c op left low high x at' cbad d := ⟨h.1, fun e => absurd e hc⟩
theorem MB.fail (h : MB K bad bn B d) {c : Int} (hc : c ≠ 0) : MB K c bn B d := by
 obtain ⟨b, h1, h2, h3, h4, h5⟩ := h
 exact ⟨b, h1, h2, h3, h4, fun e => absurd e hc⟩
theorem MJ.more (hl : 0 ≤ lim ∧ lim ≤ 1099511627776) (h : MJ K lim bad op sum begun last lacks wbad wop wsum d wbeg wlast wleft) {o n : Int} (l : Bool) (hc : (bcode lim bad op sum begun o n == 0) = true) (ho : (o == 0) = true) :
  MJ K lim bad op (IntKind.i64.wrap (sum + n)) true l n 0 wop (IntKind.i64.wrap (wsum + n)) d true l n := by
 obtain ⟨g1, g2, g3, g4, g5, g6⟩ := bcode_0 hl h.1 hc
 have ho : o = 0 := by simpa using ho
 obtain ⟨⟨rfl, h2⟩, h3⟩ := h
 obtain ⟨rfl, rfl, rfl, q1, q2, q3, q4⟩ := h2 g1
 subst g1
 rw [wrap64_in (x := sum + n) (by omega) (by omega)]
 exact ⟨⟨rfl, fun _ => ⟨rfl, rfl, rfl, q1, by omega, q3, fun _ => ⟨rfl, rfl, by omega, by omega⟩⟩⟩, h3⟩
theorem MJ.new (hK : 0 ≤ K) (hl : 0 ≤ lim ∧ lim ≤ 1099511627776) (h : MJ K lim bad op sum begun last lacks wbad wop wsum d wbeg wlast wleft) {o n : Int} (l : Bool) (hc : (bcode lim bad op sum begun o n == 0) = true) (ho : (o == 0) = false) :
  MJ K lim bad o (IntKind.i64.wrap (sum + n)) true l n 0 o (IntKind.i64.wrap (wsum + n)) ⟨#[]⟩ true l n := by
 obtain ⟨g1, g2, g3, g4, g5, g6⟩ := bcode_0 hl h.1 hc
 have ho : o ≠ 0 := by simpa using ho
 obtain ⟨⟨rfl, h2⟩, h3⟩ := h
 obtain ⟨rfl, rfl, rfl, q1, q2, q3, q4⟩ := h2 g1
 subst g1
 rw [wrap64_in (x := sum + n) (by omega) (by omega)]
 exact ⟨⟨rfl, fun _ => ⟨rfl, rfl, rfl, g4, by omega, fun e => absurd e ho, fun _ => ⟨rfl, rfl, by omega, ho⟩⟩⟩, hK⟩
theorem MC.new (hK : 0 ≤ K) {o : Int} : MC K bad o 0 0 0 0 0 false ⟨#[]⟩ := ⟨⟨by omega, hK⟩, fun _ _ => ⟨rfl, rfl⟩⟩
theorem new_op (hl : 0 ≤ lim ∧ lim ≤ 1099511627776) (h : MJ K lim bad op sum begun last lacks wbad wop wsum d wbeg wlast wleft) {o n : Int} (hc : (bcode lim bad op sum begun o n == 0) = true) (ho : (o == 0) = false) : bad = 0 ∧ d = ⟨#[]⟩ := by
 obtain ⟨g1, g2, g3, g4, g5, g6⟩ := bcode_0 hl h.1 hc
 have ho : o ≠ 0 := by simpa using ho
 obtain ⟨⟨rfl, h2⟩, h3⟩ := h
 obtain ⟨rfl, rfl, rfl, q1, q2, q3, q4⟩ := h2 g1
 exact ⟨g1, q3 (by omega)⟩
theorem MB.new (h : MB K bad bn B d) (h1 : bad = 0 ∧ d = ⟨#[]⟩) {X : Prop} : X := by
 obtain ⟨b, rfl, _, h3, _, h5⟩ := h
 rw [h5 h1.1, h1.2] at h3
 exact absurd h3 (Nat.lt_irrefl 0)
theorem MJ.piece (hl : 0 ≤ lim ∧ lim ≤ 1099511627776) (h : MJ K lim bad op sum begun last lacks wbad wop wsum d wbeg wlast wleft) {s : ByteArray} (hs : slen s ≤ 100) (hc : (pcode bad lacks begun s == 0) = true) :
  MJ (K + 100) lim bad op sum begun last (IntKind.i64.wrap (lacks - (slen s : Int))) 0 wop wsum (cat d s) wbeg wlast (IntKind.i64.wrap (wleft - (slen s : Int))) := by
 obtain ⟨rfl, rfl, c2⟩ := pcode_0 hc
 obtain ⟨⟨rfl, h2⟩, h3⟩ := h
 obtain ⟨rfl, rfl, rfl, q1, q2, q3, q4⟩ := h2 rfl
 obtain ⟨rfl, rfl, q5, q6⟩ := q4 rfl
 rw [wrap64_in (x := lacks - (slen s : Int)) (by omega) (by omega)]
 exact ⟨⟨rfl, fun _ => ⟨rfl, rfl, rfl, q1, q2, fun e => absurd e q6, fun _ => ⟨rfl, rfl, by omega, q6⟩⟩⟩, by rw [slen_cat]; omega⟩
theorem fedP_app (h : MC K bad op left low high x at' cbad d) (hb : bad = 0) (ho : op = 1) (s : ByteArray) : feedL (0, 0, 0, 0) 0 false (toL (cat d s)) = fedP op left low high x at' cbad s := by
 obtain ⟨h1, rfl⟩ := h.2 hb ho
 have e : toL (cat d s) = toL d ++ toL s := rfl
 rw [e, feedL_append, h1, ho]
 rfl
theorem MC.piece (h : MC K bad op left low high x at' cbad d) {s : ByteArray} (hs : slen s ≤ 100) (hf : ((op == 1) && (fedP op left low high x at' cbad s).2.2) = false) :
  MC (K + 100) bad op (fedP op left low high x at' cbad s).1.1 (fedP op left low high x at' cbad s).1.2.1 (fedP op left low high x at' cbad s).1.2.2.1 (fedP op left low high x at' cbad s).1.2.2.2 (fedP op left low high x at' cbad s).2.1 (fedP op left low high x at' cbad s).2.2 (cat d s) := by
 refine ⟨?_, fun hb ho => ⟨fedP_app h hb ho s, ?_⟩⟩
 ·have h1 := h.1
  by_cases ho : op = 1
  ·subst ho
   have := feedL_pos (toL s) (left, low, high, x) at' cbad
   have hl : (toL s).length = slen s := rfl
   show 0 ≤ (feedL (left, low, high, x) at' cbad (toL s)).2.1 ∧ (feedL (left, low, high, x) at' cbad (toL s)).2.1 ≤ K + 100
   omega
  ·have e : fedP op left low high x at' cbad s = ((left, low, high, x), at', cbad) := by unfold fedP; simp only [beqD, ho, decide_false, cond_false]
   rw [e]
   show 0 ≤ at' ∧ at' ≤ K + 100
   omega
 ·rw [ho] at hf ⊢
  simpa using hf
theorem MC.bad7 (h : MC K bad op left low high x at' cbad d) {s : ByteArray} (hs : slen s ≤ 100) (d' : ByteArray) :
  MC (K + 100) 1007 op (fedP op left low high x at' cbad s).1.1 (fedP op left low high x at' cbad s).1.2.1 (fedP op left low high x at' cbad s).1.2.2.1 (fedP op left low high x at' cbad s).1.2.2.2 (fedP op left low high x at' cbad s).2.1 (fedP op left low high x at' cbad s).2.2 d' := by
 refine ⟨?_, fun hb => absurd hb (by decide)⟩
 have h1 := h.1
 by_cases ho : op = 1
 ·subst ho
  have := feedL_pos (toL s) (left, low, high, x) at' cbad
  have hl : (toL s).length = slen s := rfl
  show 0 ≤ (feedL (left, low, high, x) at' cbad (toL s)).2.1 ∧ (feedL (left, low, high, x) at' cbad (toL s)).2.1 ≤ K + 100
  omega
 ·have e : fedP op left low high x at' cbad s = ((left, low, high, x), at', cbad) := by unfold fedP; simp only [beqD, ho, decide_false, cond_false]
  rw [e]
  show 0 ≤ at' ∧ at' ≤ K + 100
  omega
theorem rp_okC (h : MJ K lim bad op sum begun last lacks wbad wop wsum d wbeg wlast wleft) (hC : MC K bad op left low high x at' cbad d) {s : ByteArray} (hc : (pcode bad lacks begun s == 0) = true) (hf : ((op == 1) && (fedP op left low high x at' cbad s).2.2) = false) :
  rpiece_t0 lim wbad wop wsum d wbeg wlast wleft s = (0, 0, cat d s, IntKind.i64.wrap (wleft - (slen s : Int))) := by
 refine rp_ok h.1 hc fun ho => ?_
 rw [fedP_app hC (pcode_0 hc).1 ho]
 rw [ho] at hf ⊢
 simpa using hf
theorem rp_BC (h : MJ K lim bad op sum begun last lacks wbad wop wsum d wbeg wlast wleft) (hC : MC K bad op left low high x at' cbad d) {s : ByteArray} (hc : (pcode bad lacks begun s == 0) = true) (hf : ((op == 1) && (fedP op left low high x at' cbad s).2.2) = true) :
  rpiece_t0 lim wbad wop wsum d wbeg wlast wleft s = (1007, 1007, d, wleft) := by
 simp only [Bool.and_eq_true, beq_iff_eq] at hf
 refine rp_B h.1 hc hf.1 ?_
 rw [fedP_app hC (pcode_0 hc).1 hf.1]
 exact hf.2
theorem MB.piece (h : MB K bad bn B d) {s : ByteArray} (hs : slen s ≤ 100) : MB (K + 100) bad (bn + slen s) (B ++ ofBytes s) (cat d s) := by
 obtain ⟨b, h1, h2, h3, h4, h5⟩ := h
 exact ⟨cat b s, by rw [slen_cat, h1], by rw [h2, ob_cat], by omega, by omega, fun e => by rw [h5 e]⟩
theorem cat_nil (s : ByteArray) : cat ⟨#[]⟩ s = s := by
 unfold cat
 show ofL ([] ++ toL s) = s
 rfl
theorem nil_of (s : ByteArray) (h : slen s = 0) : s = ⟨#[]⟩ := by
 have : toL s = [] := List.length_eq_zero_iff.1 h
 have e : ofL (toL s) = s := rfl
 rw [← e, this]
 rfl
theorem MB.first (hK : 0 ≤ K) {s : ByteArray} (hs : slen s ≤ 100) (h0 : slen s ≠ 0) (hd : bad = 0 → d = ⟨#[]⟩) : MB (K + 100) bad (slen s) (ofBytes s) (cat d s) :=
 ⟨s, rfl, rfl, by omega, by omega, fun e => by rw [hd e, cat_nil]⟩
theorem ecode_0 (hc : (ecode bad op lacks left begun last cbad == 0) = true) : bad = 0 ∧ begun = true := by
 have hc : ecode bad op lacks left begun last cbad = 0 := by simpa using hc
 unfold ecode at hc
 simp only [bneD] at hc
 by_cases c1 : bad = 0
 ·subst c1
  cases begun with
  | false => simp at hc
  | true => exact ⟨rfl, rfl⟩
 ·simp [c1] at hc
theorem MJ.endM (h : MJ K lim bad op sum begun last lacks wbad wop wsum d wbeg wlast wleft) (hc : bad = 0 ∧ begun = true) : MJ K lim bad op sum false last lacks 0 wop wsum d false wlast wleft := by
 obtain ⟨rfl, rfl⟩ := hc
 obtain ⟨⟨rfl, h2⟩, h3⟩ := h
 obtain ⟨rfl, rfl, rfl, q1, q2, q3, q4⟩ := h2 rfl
 exact ⟨⟨rfl, fun _ => ⟨rfl, rfl, rfl, q1, q2, q3, fun e => by cases e⟩⟩, h3⟩
theorem MJ.endW (hK : 0 ≤ K) (hl : 0 ≤ lim ∧ lim ≤ 1099511627776) (hc : bad = 0 ∧ begun = true) : MJ K lim bad 0 0 false last lacks 0 0 0 ⟨#[]⟩ false wlast wleft := by
 obtain ⟨rfl, rfl⟩ := hc
 exact ⟨⟨rfl, fun _ => ⟨rfl, rfl, rfl, .inl rfl, by omega, fun _ => rfl, fun e => by cases e⟩⟩, hK⟩
theorem MC.endW (h : MC K bad op left low high x at' cbad d) : MC K bad 0 left low high x at' cbad ⟨#[]⟩ := ⟨h.1, fun _ e => absurd e (by decide)⟩
theorem re_C (h : MJ K lim bad op sum begun last lacks wbad wop wsum d wbeg wlast wleft) (hC : MC K bad op left low high x at' cbad d) :
  rend_t0 lim wbad wop wsum d wbeg wlast wleft = bif ecode bad op lacks left begun last cbad == 0 then (bif last then (wop, d, true, 0, 0, 0, 0, ⟨#[]⟩, false) else (0, ⟨#[]⟩, false, 0, 0, wop, wsum, d, false))
   else (0, ⟨#[]⟩, false, ecode bad op lacks left begun last cbad, ecode bad op lacks left begun last cbad, wop, wsum, d, wbeg) :=
 re_all h.1 fun hb ho => by
  obtain ⟨h1, _⟩ := hC.2 hb ho
  rw [h1]
  exact ⟨rfl, rfl⟩
theorem MJ.opE (h : MJ K lim bad op sum begun last lacks wbad wop wsum d wbeg wlast wleft) (hb : bad = 0) : wop = op := by
 obtain ⟨⟨rfl, h2⟩, h3⟩ := h
 exact (h2 hb).1.symm
theorem rpiece_safe (h : MJ K lim bad op sum begun last lacks wbad wop wsum d wbeg wlast wleft) (hK : K ≤ 10000) {s : ByteArray} (hs : slen s ≤ 100) : rpiece_S0 lim wbad wop wsum d wbeg wlast wleft s := by
 have h1 := h.2
 have : reads_pre (cat d s) := by unfold reads_pre; rw [slen_cat]; omega
 unfold rpiece_S0
 simp [this, show slen d + slen s ≤ 9223372036854775807 by omega]
theorem rend_safe (h : MJ K lim bad op sum begun last lacks wbad wop wsum d wbeg wlast wleft) (hK : K ≤ 10000) : rend_S0 lim wbad wop wsum d wbeg wlast wleft := by
 have h1 := h.2
 have : reads_pre d := by unfold reads_pre; omega
 unfold rend_S0
 simp [this]
end

theorem mid0 (lim : Int) (n : Nat) (A : List Value) (i : Nat) (hi : i ≤ 100) (bad op sum : Int) (begun last : Bool) (lacks wbad : Int) (wop wsum : Int) (d : ByteArray) (wbeg wlast : Bool) (wleft : Int) {K : Int} (h : MJ K lim bad op sum begun last lacks wbad wop wsum d wbeg wlast wleft) : Gets E 0 (plays_h2 lim n A i bad op sum begun last lacks wbad wop wsum d wbeg wlast wleft) (plays_h1 lim n A bad op sum begun last lacks wbad wop wsum d wbeg wlast wleft ((i + 1 : Nat) : Int)) := by
 have w1 : IntKind.i64.wrap ((i : Int) + 1) = ((i + 1 : Nat) : Int) := by rw [wrap64_in (by omega) (by omega)]; omega
 have t1 : jbad0_t0 lim true bad op sum begun last lacks = bad := by unfold jbad0_t0; simp only [Bool.not_true, cond_false]
 have s1 : jbad0_S0 lim true bad op sum begun last lacks := by unfold jbad0_S0; simp
 have s2 : jopen0_S0 lim true bad op sum begun last lacks := by unfold jopen0_S0; simp
 have s3 : jlacks0_S0 lim true bad op sum begun last lacks := by unfold jlacks0_S0; simp
 obtain ⟨⟨rfl, h2⟩, _⟩ := h
 by_cases c1 : wbad = 0
 ·obtain ⟨rfl, rfl, rfl, q1, q2, q3, q4⟩ := h2 c1
  subst c1
  by_cases c2 : op = 0
  ·have b2 : (op != 0) = false := by rw [bneD]; simp [c2]
   have t2 : jopen0_t0 lim true 0 op sum begun last lacks = false := by unfold jopen0_t0; simp [b2]
   cases begun with
   | true =>
    obtain ⟨_, _, _, q5⟩ := q4 rfl
    exact absurd c2 q5
   | false =>
    have t3 : jlacks0_t0 lim true 0 op sum false last lacks = -1 := by unfold jlacks0_t0; simp
    have w := plays_w2_5 lim n A i 0 op sum false last lacks 0 op sum d false wlast wleft
    rw [t1, t2, t3, w1] at w
    apply w
    all_goals first | rfl | assumption | (simp; done)
  ·have b2 : (op != 0) = true := by rw [bneD]; simp [c2]
   have t2 : jopen0_t0 lim true 0 op sum begun last lacks = true := by unfold jopen0_t0; simp [b2]
   cases begun with
   | true =>
    obtain ⟨rfl, rfl, _, _⟩ := q4 rfl
    have t3 : jlacks0_t0 lim true 0 op sum true last lacks = lacks := by unfold jlacks0_t0; simp
    have w := plays_w2_0 lim n A i 0 op sum true last lacks 0 op sum d true last lacks
    rw [t1, t2, t3, w1] at w
    apply w
    all_goals first | rfl | assumption | (simp; done)
   | false =>
    have t3 : jlacks0_t0 lim true 0 op sum false last lacks = -1 := by unfold jlacks0_t0; simp
    have w := plays_w2_4 lim n A i 0 op sum false last lacks 0 op sum d false wlast wleft
    rw [t1, t2, t3, w1] at w
    apply w
    all_goals first | rfl | assumption | (simp; done)
 ·have b1 : (wbad != 0) = true := by rw [bneD]; simp [c1]
  have b3 : (wbad == 0) = false := by rw [beqD]; simp [c1]
  have t2 : jopen0_t0 lim true wbad op sum begun last lacks = false := by unfold jopen0_t0; simp [b1, b3]
  have t3 : jlacks0_t0 lim true wbad op sum begun last lacks = -1 := by unfold jlacks0_t0; simp [b1, b3]
  rcases Bool.eq_false_or_eq_true (wop != 0) with b2 | b2 <;> cases wbeg
  ·have w := plays_w2_4 lim n A i wbad op sum begun last lacks wbad wop wsum d false wlast wleft
   rw [t1, t2, t3, w1] at w
   apply w
   all_goals first | rfl | assumption | (simp [b1, b2, b3]; done)
  ·have w := plays_w2_2 lim n A i wbad op sum begun last lacks wbad wop wsum d true wlast wleft
   rw [t1, t2, t3, w1] at w
   apply w
   all_goals first | rfl | assumption | (simp [b1, b2, b3]; done)
  ·have w := plays_w2_5 lim n A i wbad op sum begun last lacks wbad wop wsum d false wlast wleft
   rw [t1, t2, t3, w1] at w
   apply w
   all_goals first | rfl | assumption | (simp [b1, b2, b3]; done)
  ·have w := plays_w2_3 lim n A i wbad op sum begun last lacks wbad wop wsum d true wlast wleft
   rw [t1, t2, t3, w1] at w
   apply w
   all_goals first | rfl | assumption | (simp [b1, b2, b3]; done)

theorem mid1 (lim : Int) (n : Nat) (A : List Value) (i : Nat) (hi : i ≤ 100) (bad op sum : Int) (begun last : Bool) (lacks wbad : Int) (wop wsum : Int) (d : ByteArray) (wbeg wlast : Bool) (wleft left : Int) (low high : Int) (x at' : Int) (cbad : Bool) {K : Int} (h : MJ K lim bad op sum begun last lacks wbad wop wsum d wbeg wlast wleft) : Gets E 0 (plays_h3 lim n A i bad op sum begun last lacks wbad wop wsum d wbeg wlast wleft left low high x at' cbad) (plays_h4 lim n A bad op sum begun last lacks wbad wop wsum d wbeg wlast wleft left low high x at' cbad ((i + 1 : Nat) : Int)) := by
 have w1 : IntKind.i64.wrap ((i : Int) + 1) = ((i + 1 : Nat) : Int) := by rw [wrap64_in (by omega) (by omega)]; omega
 have t1 : jbad1_t0 lim true bad op sum begun last lacks left low high x at' cbad = bad := by unfold jbad1_t0; simp only [Bool.not_true, cond_false]
 have s1 : jbad1_S0 lim true bad op sum begun last lacks left low high x at' cbad := by unfold jbad1_S0; simp
 have s2 : jopen1_S0 lim true bad op sum begun last lacks left low high x at' cbad := by unfold jopen1_S0; simp
 have s3 : jlacks1_S0 lim true bad op sum begun last lacks left low high x at' cbad := by unfold jlacks1_S0; simp
 obtain ⟨⟨rfl, h2⟩, _⟩ := h
 by_cases c1 : wbad = 0
 ·obtain ⟨rfl, rfl, rfl, q1, q2, q3, q4⟩ := h2 c1
  subst c1
  by_cases c2 : op = 0
  ·have b2 : (op != 0) = false := by rw [bneD]; simp [c2]
   have t2 : jopen1_t0 lim true 0 op sum begun last lacks left low high x at' cbad = false := by unfold jopen1_t0; simp [b2]
   cases begun with
   | true =>
    obtain ⟨_, _, _, q5⟩ := q4 rfl
    exact absurd c2 q5
   | false =>
    have t3 : jlacks1_t0 lim true 0 op sum false last lacks left low high x at' cbad = -1 := by unfold jlacks1_t0; simp
    have w := plays_w3_5 lim n A i 0 op sum false last lacks 0 op sum d false wlast wleft left low high x at' cbad
    rw [t1, t2, t3, w1] at w
    apply w
    all_goals first | rfl | assumption | (simp; done)
  ·have b2 : (op != 0) = true := by rw [bneD]; simp [c2]
   have t2 : jopen1_t0 lim true 0 op sum begun last lacks left low high x at' cbad = true := by unfold jopen1_t0; simp [b2]
   cases begun with
   | true =>
    obtain ⟨rfl, rfl, _, _⟩ := q4 rfl
    have t3 : jlacks1_t0 lim true 0 op sum true last lacks left low high x at' cbad = lacks := by unfold jlacks1_t0; simp
    have w := plays_w3_0 lim n A i 0 op sum true last lacks 0 op sum d true last lacks left low high x at' cbad
    rw [t1, t2, t3, w1] at w
    apply w
    all_goals first | rfl | assumption | (simp; done)
   | false =>
    have t3 : jlacks1_t0 lim true 0 op sum false last lacks left low high x at' cbad = -1 := by unfold jlacks1_t0; simp
    have w := plays_w3_4 lim n A i 0 op sum false last lacks 0 op sum d false wlast wleft left low high x at' cbad
    rw [t1, t2, t3, w1] at w
    apply w
    all_goals first | rfl | assumption | (simp; done)
 ·have b1 : (wbad != 0) = true := by rw [bneD]; simp [c1]
  have b3 : (wbad == 0) = false := by rw [beqD]; simp [c1]
  have t2 : jopen1_t0 lim true wbad op sum begun last lacks left low high x at' cbad = false := by unfold jopen1_t0; simp [b1, b3]
  have t3 : jlacks1_t0 lim true wbad op sum begun last lacks left low high x at' cbad = -1 := by unfold jlacks1_t0; simp [b1, b3]
  rcases Bool.eq_false_or_eq_true (wop != 0) with b2 | b2 <;> cases wbeg
  ·have w := plays_w3_4 lim n A i wbad op sum begun last lacks wbad wop wsum d false wlast wleft left low high x at' cbad
   rw [t1, t2, t3, w1] at w
   apply w
   all_goals first | rfl | assumption | (simp [b1, b2, b3]; done)
  ·have w := plays_w3_2 lim n A i wbad op sum begun last lacks wbad wop wsum d true wlast wleft left low high x at' cbad
   rw [t1, t2, t3, w1] at w
   apply w
   all_goals first | rfl | assumption | (simp [b1, b2, b3]; done)
  ·have w := plays_w3_5 lim n A i wbad op sum begun last lacks wbad wop wsum d false wlast wleft left low high x at' cbad
   rw [t1, t2, t3, w1] at w
   apply w
   all_goals first | rfl | assumption | (simp [b1, b2, b3]; done)
  ·have w := plays_w3_3 lim n A i wbad op sum begun last lacks wbad wop wsum d true wlast wleft left low high x at' cbad
   rw [t1, t2, t3, w1] at w
   apply w
   all_goals first | rfl | assumption | (simp [b1, b2, b3]; done)

theorem mid2 (lim : Int) (n : Nat) (A : List Value) (i : Nat) (hi : i ≤ 100) (bad op sum : Int) (begun last : Bool) (lacks wbad : Int) (wop wsum : Int) (d : ByteArray) (wbeg wlast : Bool) (wleft left : Int) (low high : Int) (x at' : Int) (cbad : Bool) {K : Int} (h : MJ K lim bad op sum begun last lacks wbad wop wsum d wbeg wlast wleft) : Gets E 0 (plays_h5 lim n A i bad op sum begun last lacks wbad wop wsum d wbeg wlast wleft left low high x at' cbad) (plays_h7 lim n A bad op sum begun last lacks wbad wop wsum d wbeg wlast wleft left low high x at' cbad ((i + 1 : Nat) : Int)) := by
 have w1 : IntKind.i64.wrap ((i : Int) + 1) = ((i + 1 : Nat) : Int) := by rw [wrap64_in (by omega) (by omega)]; omega
 have t1 : jbad2_t0 lim true bad op sum begun last lacks left low high x at' cbad = bad := by unfold jbad2_t0; simp only [Bool.not_true, cond_false]
 have s1 : jbad2_S0 lim true bad op sum begun last lacks left low high x at' cbad := by unfold jbad2_S0; simp
 have s2 : jopen2_S0 lim true bad op sum begun last lacks left low high x at' cbad := by unfold jopen2_S0; simp
 have s3 : jlacks2_S0 lim true bad op sum begun last lacks left low high x at' cbad := by unfold jlacks2_S0; simp
 obtain ⟨⟨rfl, h2⟩, _⟩ := h
 by_cases c1 : wbad = 0
 ·obtain ⟨rfl, rfl, rfl, q1, q2, q3, q4⟩ := h2 c1
  subst c1
  by_cases c2 : op = 0
  ·have b2 : (op != 0) = false := by rw [bneD]; simp [c2]
   have t2 : jopen2_t0 lim true 0 op sum begun last lacks left low high x at' cbad = false := by unfold jopen2_t0; simp [b2]
   cases begun with
   | true =>
    obtain ⟨_, _, _, q5⟩ := q4 rfl
    exact absurd c2 q5
   | false =>
    have t3 : jlacks2_t0 lim true 0 op sum false last lacks left low high x at' cbad = -1 := by unfold jlacks2_t0; simp
    have w := plays_w5_5 lim n A i 0 op sum false last lacks 0 op sum d false wlast wleft left low high x at' cbad
    rw [t1, t2, t3, w1] at w
    apply w
    all_goals first | rfl | assumption | (simp; done)
  ·have b2 : (op != 0) = true := by rw [bneD]; simp [c2]
   have t2 : jopen2_t0 lim true 0 op sum begun last lacks left low high x at' cbad = true := by unfold jopen2_t0; simp [b2]
   cases begun with
   | true =>
    obtain ⟨rfl, rfl, _, _⟩ := q4 rfl
    have t3 : jlacks2_t0 lim true 0 op sum true last lacks left low high x at' cbad = lacks := by unfold jlacks2_t0; simp
    have w := plays_w5_0 lim n A i 0 op sum true last lacks 0 op sum d true last lacks left low high x at' cbad
    rw [t1, t2, t3, w1] at w
    apply w
    all_goals first | rfl | assumption | (simp; done)
   | false =>
    have t3 : jlacks2_t0 lim true 0 op sum false last lacks left low high x at' cbad = -1 := by unfold jlacks2_t0; simp
    have w := plays_w5_4 lim n A i 0 op sum false last lacks 0 op sum d false wlast wleft left low high x at' cbad
    rw [t1, t2, t3, w1] at w
    apply w
    all_goals first | rfl | assumption | (simp; done)
 ·have b1 : (wbad != 0) = true := by rw [bneD]; simp [c1]
  have b3 : (wbad == 0) = false := by rw [beqD]; simp [c1]
  have t2 : jopen2_t0 lim true wbad op sum begun last lacks left low high x at' cbad = false := by unfold jopen2_t0; simp [b1, b3]
  have t3 : jlacks2_t0 lim true wbad op sum begun last lacks left low high x at' cbad = -1 := by unfold jlacks2_t0; simp [b1, b3]
  rcases Bool.eq_false_or_eq_true (wop != 0) with b2 | b2 <;> cases wbeg
  ·have w := plays_w5_4 lim n A i wbad op sum begun last lacks wbad wop wsum d false wlast wleft left low high x at' cbad
   rw [t1, t2, t3, w1] at w
   apply w
   all_goals first | rfl | assumption | (simp [b1, b2, b3]; done)
  ·have w := plays_w5_2 lim n A i wbad op sum begun last lacks wbad wop wsum d true wlast wleft left low high x at' cbad
   rw [t1, t2, t3, w1] at w
   apply w
   all_goals first | rfl | assumption | (simp [b1, b2, b3]; done)
  ·have w := plays_w5_5 lim n A i wbad op sum begun last lacks wbad wop wsum d false wlast wleft left low high x at' cbad
   rw [t1, t2, t3, w1] at w
   apply w
   all_goals first | rfl | assumption | (simp [b1, b2, b3]; done)
  ·have w := plays_w5_3 lim n A i wbad op sum begun last lacks wbad wop wsum d true wlast wleft left low high x at' cbad
   rw [t1, t2, t3, w1] at w
   apply w
   all_goals first | rfl | assumption | (simp [b1, b2, b3]; done)

theorem mid3 (lim : Int) (n : Nat) (A : List Value) (i : Nat) (hi : i ≤ 100) (bad op sum : Int) (bn : Nat) (begun last : Bool) (lacks wbad : Int) (wop wsum : Int) (d : ByteArray) (wbeg wlast : Bool) (wleft : Int) (B : List Value) (left low : Int) (high x at' : Int) (cbad : Bool) {K : Int} (h : MJ K lim bad op sum begun last lacks wbad wop wsum d wbeg wlast wleft) (hB : B.all flat = true) : Gets E 0 (plays_h6 lim n A i bad op sum bn begun last lacks wbad wop wsum d wbeg wlast wleft B left low high x at' cbad) (plays_h8 lim n A bad op sum bn begun last lacks wbad wop wsum d wbeg wlast wleft B left low high x at' cbad ((i + 1 : Nat) : Int)) := by
 have w1 : IntKind.i64.wrap ((i : Int) + 1) = ((i + 1 : Nat) : Int) := by rw [wrap64_in (by omega) (by omega)]; omega
 have t1 : jbad3_t0 lim true bad op sum begun last lacks bn B left low high x at' cbad = bad := by unfold jbad3_t0; simp only [Bool.not_true, cond_false]
 have s1 : jbad3_S0 lim true bad op sum begun last lacks bn B left low high x at' cbad := by unfold jbad3_S0; simp only [hB]; simp
 have s2 : jopen3_S0 lim true bad op sum begun last lacks bn B left low high x at' cbad := by unfold jopen3_S0; simp only [hB]; simp
 have s3 : jlacks3_S0 lim true bad op sum begun last lacks bn B left low high x at' cbad := by unfold jlacks3_S0; simp only [hB]; simp
 obtain ⟨⟨rfl, h2⟩, _⟩ := h
 by_cases c1 : wbad = 0
 ·obtain ⟨rfl, rfl, rfl, q1, q2, q3, q4⟩ := h2 c1
  subst c1
  by_cases c2 : op = 0
  ·have b2 : (op != 0) = false := by rw [bneD]; simp [c2]
   have t2 : jopen3_t0 lim true 0 op sum begun last lacks bn B left low high x at' cbad = false := by unfold jopen3_t0; simp [b2]
   cases begun with
   | true =>
    obtain ⟨_, _, _, q5⟩ := q4 rfl
    exact absurd c2 q5
   | false =>
    have t3 : jlacks3_t0 lim true 0 op sum false last lacks bn B left low high x at' cbad = -1 := by unfold jlacks3_t0; simp
    have w := plays_w6_5 lim n A i 0 op sum bn false last lacks 0 op sum d false wlast wleft B left low high x at' cbad
    rw [t1, t2, t3, w1] at w
    apply w
    all_goals first | rfl | assumption | (simp; done)
  ·have b2 : (op != 0) = true := by rw [bneD]; simp [c2]
   have t2 : jopen3_t0 lim true 0 op sum begun last lacks bn B left low high x at' cbad = true := by unfold jopen3_t0; simp [b2]
   cases begun with
   | true =>
    obtain ⟨rfl, rfl, _, _⟩ := q4 rfl
    have t3 : jlacks3_t0 lim true 0 op sum true last lacks bn B left low high x at' cbad = lacks := by unfold jlacks3_t0; simp
    have w := plays_w6_0 lim n A i 0 op sum bn true last lacks 0 op sum d true last lacks B left low high x at' cbad
    rw [t1, t2, t3, w1] at w
    apply w
    all_goals first | rfl | assumption | (simp; done)
   | false =>
    have t3 : jlacks3_t0 lim true 0 op sum false last lacks bn B left low high x at' cbad = -1 := by unfold jlacks3_t0; simp
    have w := plays_w6_4 lim n A i 0 op sum bn false last lacks 0 op sum d false wlast wleft B left low high x at' cbad
    rw [t1, t2, t3, w1] at w
    apply w
    all_goals first | rfl | assumption | (simp; done)
 ·have b1 : (wbad != 0) = true := by rw [bneD]; simp [c1]
  have b3 : (wbad == 0) = false := by rw [beqD]; simp [c1]
  have t2 : jopen3_t0 lim true wbad op sum begun last lacks bn B left low high x at' cbad = false := by unfold jopen3_t0; simp [b1, b3]
  have t3 : jlacks3_t0 lim true wbad op sum begun last lacks bn B left low high x at' cbad = -1 := by unfold jlacks3_t0; simp [b1, b3]
  rcases Bool.eq_false_or_eq_true (wop != 0) with b2 | b2 <;> cases wbeg
  ·have w := plays_w6_4 lim n A i wbad op sum bn begun last lacks wbad wop wsum d false wlast wleft B left low high x at' cbad
   rw [t1, t2, t3, w1] at w
   apply w
   all_goals first | rfl | assumption | (simp [b1, b2, b3]; done)
  ·have w := plays_w6_2 lim n A i wbad op sum bn begun last lacks wbad wop wsum d true wlast wleft B left low high x at' cbad
   rw [t1, t2, t3, w1] at w
   apply w
   all_goals first | rfl | assumption | (simp [b1, b2, b3]; done)
  ·have w := plays_w6_5 lim n A i wbad op sum bn begun last lacks wbad wop wsum d false wlast wleft B left low high x at' cbad
   rw [t1, t2, t3, w1] at w
   apply w
   all_goals first | rfl | assumption | (simp [b1, b2, b3]; done)
  ·have w := plays_w6_3 lim n A i wbad op sum bn begun last lacks wbad wop wsum d true wlast wleft B left low high x at' cbad
   rw [t1, t2, t3, w1] at w
   apply w
   all_goals first | rfl | assumption | (simp [b1, b2, b3]; done)

end Go.Proofs.Ytgaedhpeiamdfaa

/-
  The statement MessagePlays: one act, by the shape of the joiner's memory.
-/
set_option linter.unusedVariables false
set_option linter.unusedSimpArgs false
open Go Go.Am
namespace Go.Proofs.Ytgaedhpeiamdfaa

set_option maxHeartbeats 2000000 in
theorem step0 (lim : Int) (hl : 0 ≤ lim ∧ lim ≤ 1099511627776) (l : List Act) (hl100 : l.length ≤ 100) (i : Nat) (a : Act) (ha : l[i]? = some a) (hn : -9223372036854775808 ≤ a.2.2.2.1 ∧ a.2.2.2.1 ≤ 9223372036854775807) (ht : slen a.2.2.2.2 ≤ 100) {K : Int} (hK0 : 0 ≤ K) (hK : K ≤ 9900) (M0 : ∀ (bad op sum : Int) (begun last : Bool) (lacks wbad : Int) (wop wsum : Int) (d : ByteArray) (wbeg wlast : Bool) (wleft : Int), I0 (K + 100) lim bad op sum begun last lacks wbad wop wsum d wbeg wlast wleft → AEnds E 3 0 (plays_h2 lim l.length (aQ l) i bad op sum begun last lacks wbad wop wsum d wbeg wlast wleft) (.bool true) []) (M1 : ∀ (bad op sum : Int) (begun last : Bool) (lacks wbad : Int) (wop wsum : Int) (d : ByteArray) (wbeg wlast : Bool) (wleft left : Int) (low high : Int) (x at' : Int) (cbad : Bool), I1 (K + 100) lim bad op sum begun last lacks wbad wop wsum d wbeg wlast wleft left low high x at' cbad → AEnds E 3 0 (plays_h3 lim l.length (aQ l) i bad op sum begun last lacks wbad wop wsum d wbeg wlast wleft left low high x at' cbad) (.bool true) []) (bad op sum : Int) (begun last : Bool) (lacks wbad : Int) (wop wsum : Int) (d : ByteArray) (wbeg wlast : Bool) (wleft : Int) (h : I0 K lim bad op sum begun last lacks wbad wop wsum d wbeg wlast wleft) :
  AEnds E 3 0 (plays_h1 lim l.length (aQ l) bad op sum begun last lacks wbad wop wsum d wbeg wlast wleft i) (.bool true) [] := by
 have hg := aQ_get ha
 have hlen := aQ_len l
 have hil : i < l.length := (List.getElem?_eq_some_iff.1 ha).1
 have f0 : decide ((i : Int) < (l.length : Int)) = true := decide_eq_true (by omega)
 obtain ⟨hJ, hop, hbg⟩ := h
 have hpb : b_pr0 lim bad op sum begun last lacks a.2.1 a.2.2.1 a.2.2.2.1 := trivial
 have hpp : p_pr0 lim bad op sum begun last lacks a.2.2.2.2 := hbg
 have hpe : e_pr0 lim bad op sum begun last lacks := hbg
 have hfl : True := trivial
 have hfl2 : True := trivial
 have hSp := rpiece_safe hJ (by omega) ht
 have hSe := rend_safe hJ (by omega)
 rcases Bool.eq_false_or_eq_true (a.1 == 0) with c0 | c0
 ·have er := rb_all hl hJ.1 (l := a.2.1) (o := a.2.2.1) hn
  rcases Bool.eq_false_or_eq_true (bcode lim bad op sum begun a.2.2.1 a.2.2.2.1 == 0) with c1 | c1
  ·rw [c1] at er
   rcases Bool.eq_false_or_eq_true (a.2.2.1 == 0) with c2 | c2
   ·obtain ⟨_, _, _, _, q, _⟩ := bcode_0 hl hJ.1 c1
    exact absurd hop (q.1 (by simpa using c2))
   ·rw [c2] at er
    simp only [cond_true, cond_false] at er
    have w := plays_w1_2 lim l.length (aQ l) bad op sum begun last lacks wbad wop wsum d wbeg wlast wleft i
    simp only [g5, Int.toNat_natCast, hg, toInt, Am.toBool, toStr, isInt, isBool, isStr] at w
    have w := w _ er
    refine Gets.ends ?_ (M1 bad a.2.2.1 (IntKind.i64.wrap (sum + a.2.2.2.1)) true a.2.1 a.2.2.2.1 0 a.2.2.1 (IntKind.i64.wrap (wsum + a.2.2.2.1)) ⟨#[]⟩ true a.2.1 a.2.2.2.1 0 0 0 0 0 false (⟨(MJ.new hK0 hl hJ a.2.1 c1 c2).le (by omega), (MC.new hK0).le (by omega), fun _ => rfl⟩))
    apply w
    all_goals first | rfl | assumption | exact trivial | exact f0 | exact ⟨⟨c1, c2⟩, hpb⟩ | omega | simp
  ·have hc : bcode lim bad op sum begun a.2.2.1 a.2.2.2.1 ≠ 0 := by simpa using c1
   rw [c1] at er
   simp only [cond_false] at er
   have w := plays_w1_1 lim l.length (aQ l) bad op sum begun last lacks wbad wop wsum d wbeg wlast wleft i
   simp only [g5, Int.toNat_natCast, hg, toInt, Am.toBool, toStr, isInt, isBool, isStr] at w
   have w := w _ er
   refine Gets.ends ?_ (M0 (bcode lim bad op sum begun a.2.2.1 a.2.2.2.1) op sum begun last lacks (bcode lim bad op sum begun a.2.2.1 a.2.2.2.1) wop wsum d wbeg wlast wleft (⟨(hJ.fail hc).le (by omega), hop, hbg⟩))
   apply w
   all_goals first | rfl | assumption | exact trivial | exact f0 | exact ⟨c1, hpb⟩ | omega | simp
 ·rcases Bool.eq_false_or_eq_true (a.1 == 1) with c9 | c9
  ·rcases Bool.eq_false_or_eq_true (pcode bad lacks begun a.2.2.2.2 == 0) with c1 | c1
   ·have q := (pcode_0 c1).2.1
    rw [hbg] at q
    cases q
   ·have hc : pcode bad lacks begun a.2.2.2.2 ≠ 0 := by simpa using c1
    have w := plays_w1_3 lim l.length (aQ l) bad op sum begun last lacks wbad wop wsum d wbeg wlast wleft i
    simp only [g5, Int.toNat_natCast, hg, toInt, Am.toBool, toStr, isInt, isBool, isStr] at w
    have w := w _ (rp_F hJ.1 c1)
    refine Gets.ends ?_ (M0 (pcode bad lacks begun a.2.2.2.2) op sum begun last lacks (pcode bad lacks begun a.2.2.2.2) wop wsum d wbeg wlast wleft (⟨(hJ.fail hc).le (by omega), hop, hbg⟩))
    apply w
    all_goals first | rfl | assumption | exact trivial | exact f0 | exact ⟨c1, hpp⟩ | omega | simp
  ·have er := re_all hJ.1 (left := 0) (cbad := false) (fun hb ho => absurd (hop.symm.trans ho) (by decide))
   rcases Bool.eq_false_or_eq_true (ecode bad op lacks 0 begun last false == 0) with c1 | c1
   ·have q := (ecode_0 c1).2
    rw [hbg] at q
    cases q
   ·have hc : ecode bad op lacks 0 begun last false ≠ 0 := by simpa using c1
    rw [c1] at er
    simp only [cond_false] at er
    have w := plays_w1_4 lim l.length (aQ l) bad op sum begun last lacks wbad wop wsum d wbeg wlast wleft i
    simp only [g5, Int.toNat_natCast, hg, toInt, Am.toBool, toStr, isInt, isBool, isStr] at w
    have w := w _ er
    refine Gets.ends ?_ (M0 (ecode bad op lacks 0 begun last false) op sum begun last lacks (ecode bad op lacks 0 begun last false) wop wsum d wbeg wlast wleft (⟨(hJ.fail hc).le (by omega), hop, hbg⟩))
    apply w
    all_goals first | rfl | assumption | exact trivial | exact f0 | exact ⟨c1, hpe⟩ | omega | simp

set_option maxHeartbeats 2000000 in
theorem step1 (lim : Int) (hl : 0 ≤ lim ∧ lim ≤ 1099511627776) (l : List Act) (hl100 : l.length ≤ 100) (i : Nat) (a : Act) (ha : l[i]? = some a) (hn : -9223372036854775808 ≤ a.2.2.2.1 ∧ a.2.2.2.1 ≤ 9223372036854775807) (ht : slen a.2.2.2.2 ≤ 100) {K : Int} (hK0 : 0 ≤ K) (hK : K ≤ 9900) (M1 : ∀ (bad op sum : Int) (begun last : Bool) (lacks wbad : Int) (wop wsum : Int) (d : ByteArray) (wbeg wlast : Bool) (wleft left : Int) (low high : Int) (x at' : Int) (cbad : Bool), I1 (K + 100) lim bad op sum begun last lacks wbad wop wsum d wbeg wlast wleft left low high x at' cbad → AEnds E 3 0 (plays_h3 lim l.length (aQ l) i bad op sum begun last lacks wbad wop wsum d wbeg wlast wleft left low high x at' cbad) (.bool true) []) (M2 : ∀ (bad op sum : Int) (begun last : Bool) (lacks wbad : Int) (wop wsum : Int) (d : ByteArray) (wbeg wlast : Bool) (wleft left : Int) (low high : Int) (x at' : Int) (cbad : Bool), I2 (K + 100) lim bad op sum begun last lacks wbad wop wsum d wbeg wlast wleft left low high x at' cbad → AEnds E 3 0 (plays_h5 lim l.length (aQ l) i bad op sum begun last lacks wbad wop wsum d wbeg wlast wleft left low high x at' cbad) (.bool true) []) (M3 : ∀ (bad op sum : Int) (bn : Nat) (begun last : Bool) (lacks wbad : Int) (wop wsum : Int) (d : ByteArray) (wbeg wlast : Bool) (wleft : Int) (B : List Value) (left low : Int) (high x at' : Int) (cbad : Bool), I3 (K + 100) lim bad op sum bn begun last lacks wbad wop wsum d wbeg wlast wleft B left low high x at' cbad → AEnds E 3 0 (plays_h6 lim l.length (aQ l) i bad op sum bn begun last lacks wbad wop wsum d wbeg wlast wleft B left low high x at' cbad) (.bool true) []) (bad op sum : Int) (begun last : Bool) (lacks wbad : Int) (wop wsum : Int) (d : ByteArray) (wbeg wlast : Bool) (wleft left : Int) (low high : Int) (x at' : Int) (cbad : Bool) (h : I1 K lim bad op sum begun last lacks wbad wop wsum d wbeg wlast wleft left low high x at' cbad) :
  AEnds E 3 0 (plays_h4 lim l.length (aQ l) bad op sum begun last lacks wbad wop wsum d wbeg wlast wleft left low high x at' cbad i) (.bool true) [] := by
 have hg := aQ_get ha
 have hlen := aQ_len l
 have hil : i < l.length := (List.getElem?_eq_some_iff.1 ha).1
 have f0 : decide ((i : Int) < (l.length : Int)) = true := decide_eq_true (by omega)
 obtain ⟨hJ, hC, hT⟩ := h
 have hat := hC.1
 have hpb : b_pr1 lim bad op sum begun last lacks left low high x at' cbad a.2.1 a.2.2.1 a.2.2.2.1 := trivial
 have hpp : p_pr1 lim bad op sum begun last lacks left low high x at' cbad a.2.2.2.2 := ⟨by omega, by omega, by omega⟩
 have hpe : e_pr1 lim bad op sum begun last lacks left low high x at' cbad := trivial
 have hfl : (ofBytes a.2.2.2.2).all flat = true := ob_flat _
 have hfl2 : True := trivial
 have hSp := rpiece_safe hJ (by omega) ht
 have hSe := rend_safe hJ (by omega)
 rcases Bool.eq_false_or_eq_true (a.1 == 0) with c0 | c0
 ·have er := rb_all hl hJ.1 (l := a.2.1) (o := a.2.2.1) hn
  rcases Bool.eq_false_or_eq_true (bcode lim bad op sum begun a.2.2.1 a.2.2.2.1 == 0) with c1 | c1
  ·rw [c1] at er
   rcases Bool.eq_false_or_eq_true (a.2.2.1 == 0) with c2 | c2
   ·rw [c2] at er
    simp only [cond_true] at er
    have w := plays_w4_0 lim l.length (aQ l) bad op sum begun last lacks wbad wop wsum d wbeg wlast wleft left low high x at' cbad i
    simp only [g5, Int.toNat_natCast, hg, toInt, Am.toBool, toStr, isInt, isBool, isStr] at w
    have w := w _ er
    refine Gets.ends ?_ (M1 bad op (IntKind.i64.wrap (sum + a.2.2.2.1)) true a.2.1 a.2.2.2.1 0 wop (IntKind.i64.wrap (wsum + a.2.2.2.1)) d true a.2.1 a.2.2.2.1 left low high x at' cbad (⟨(MJ.more hl hJ a.2.1 c1 c2).le (by omega), hC.le (by omega), hT⟩))
    apply w
    all_goals first | rfl | assumption | exact trivial | exact f0 | exact ⟨⟨c1, c2⟩, hpb⟩ | omega | simp
   ·rw [c2] at er
    simp only [cond_true, cond_false] at er
    have w := plays_w4_2 lim l.length (aQ l) bad op sum begun last lacks wbad wop wsum d wbeg wlast wleft left low high x at' cbad i
    simp only [g5, Int.toNat_natCast, hg, toInt, Am.toBool, toStr, isInt, isBool, isStr] at w
    have w := w _ er
    refine Gets.ends ?_ (M1 bad a.2.2.1 (IntKind.i64.wrap (sum + a.2.2.2.1)) true a.2.1 a.2.2.2.1 0 a.2.2.1 (IntKind.i64.wrap (wsum + a.2.2.2.1)) ⟨#[]⟩ true a.2.1 a.2.2.2.1 0 0 0 0 0 false (⟨(MJ.new hK0 hl hJ a.2.1 c1 c2).le (by omega), (MC.new hK0).le (by omega), fun _ => rfl⟩))
    apply w
    all_goals first | rfl | assumption | exact trivial | exact f0 | exact ⟨⟨c1, c2⟩, hpb⟩ | omega | simp
  ·have hc : bcode lim bad op sum begun a.2.2.1 a.2.2.2.1 ≠ 0 := by simpa using c1
   rw [c1] at er
   simp only [cond_false] at er
   have w := plays_w4_1 lim l.length (aQ l) bad op sum begun last lacks wbad wop wsum d wbeg wlast wleft left low high x at' cbad i
   simp only [g5, Int.toNat_natCast, hg, toInt, Am.toBool, toStr, isInt, isBool, isStr] at w
   have w := w _ er
   refine Gets.ends ?_ (M1 (bcode lim bad op sum begun a.2.2.1 a.2.2.2.1) op sum begun last lacks (bcode lim bad op sum begun a.2.2.1 a.2.2.2.1) wop wsum d wbeg wlast wleft left low high x at' cbad (⟨(hJ.fail hc).le (by omega), (hC.fail hc).le (by omega), fun e => absurd e hc⟩))
   apply w
   all_goals first | rfl | assumption | exact trivial | exact f0 | exact ⟨c1, hpb⟩ | omega | simp
 ·rcases Bool.eq_false_or_eq_true (a.1 == 1) with c9 | c9
  ·rcases Bool.eq_false_or_eq_true (pcode bad lacks begun a.2.2.2.2 == 0) with c1 | c1
   ·rcases Bool.eq_false_or_eq_true ((op == 1) && (fedP op left low high x at' cbad a.2.2.2.2).2.2) with c2 | c2
    ·have w := plays_w4_3 lim l.length (aQ l) bad op sum begun last lacks wbad wop wsum d wbeg wlast wleft left low high x at' cbad i
     simp only [g5, Int.toNat_natCast, hg, toInt, Am.toBool, toStr, isInt, isBool, isStr] at w
     have w := w _ (rp_BC hJ hC c1 c2) _ rfl
     refine Gets.ends ?_ (M1 1007 op sum begun last lacks 1007 wop wsum d wbeg wlast wleft ((fedP op left low high x at' cbad a.2.2.2.2).1.1) ((fedP op left low high x at' cbad a.2.2.2.2).1.2.1) ((fedP op left low high x at' cbad a.2.2.2.2).1.2.2.1) ((fedP op left low high x at' cbad a.2.2.2.2).1.2.2.2) ((fedP op left low high x at' cbad a.2.2.2.2).2.1) ((fedP op left low high x at' cbad a.2.2.2.2).2.2) (⟨(hJ.fail (by decide)).le (by omega), hC.bad7 ht d, fun e => absurd e (by decide)⟩))
     apply w
     all_goals first | rfl | assumption | exact trivial | exact f0 | exact ⟨⟨c1, c2⟩, hpp⟩ | omega | simp
    ·rcases Bool.eq_false_or_eq_true (decide (slen a.2.2.2.2 = 0)) with c3 | c3
     ·have hz : slen a.2.2.2.2 = 0 := of_decide_eq_true c3
      have w := plays_w4_5 lim l.length (aQ l) bad op sum begun last lacks wbad wop wsum d wbeg wlast wleft left low high x at' cbad i
      simp only [g5, Int.toNat_natCast, hg, toInt, Am.toBool, toStr, isInt, isBool, isStr] at w
      have w := w _ (rp_okC hJ hC c1 c2) _ rfl
      refine Gets.ends ?_ (M2 bad op sum begun last (IntKind.i64.wrap (lacks - (slen a.2.2.2.2 : Int))) 0 wop wsum (cat d a.2.2.2.2) wbeg wlast (IntKind.i64.wrap (wleft - (slen a.2.2.2.2 : Int))) ((fedP op left low high x at' cbad a.2.2.2.2).1.1) ((fedP op left low high x at' cbad a.2.2.2.2).1.2.1) ((fedP op left low high x at' cbad a.2.2.2.2).1.2.2.1) ((fedP op left low high x at' cbad a.2.2.2.2).1.2.2.2) ((fedP op left low high x at' cbad a.2.2.2.2).2.1) ((fedP op left low high x at' cbad a.2.2.2.2).2.2) (⟨MJ.piece hl hJ ht c1, hC.piece ht c2, fun e => by rw [hT e, cat_nil]; exact nil_of _ hz⟩))
      apply w
      all_goals first | rfl | assumption | exact trivial | exact f0 | exact ⟨⟨c1, c2, c3⟩, hpp⟩ | omega | simp
     ·have hz : slen a.2.2.2.2 ≠ 0 := of_decide_eq_false c3
      have w := plays_w4_6 lim l.length (aQ l) bad op sum begun last lacks wbad wop wsum d wbeg wlast wleft left low high x at' cbad i
      simp only [g5, Int.toNat_natCast, hg, toInt, Am.toBool, toStr, isInt, isBool, isStr] at w
      have w := w _ (rp_okC hJ hC c1 c2) _ rfl
      refine Gets.ends ?_ (M3 bad op sum (slen a.2.2.2.2) begun last (IntKind.i64.wrap (lacks - (slen a.2.2.2.2 : Int))) 0 wop wsum (cat d a.2.2.2.2) wbeg wlast (IntKind.i64.wrap (wleft - (slen a.2.2.2.2 : Int))) (ofBytes a.2.2.2.2) ((fedP op left low high x at' cbad a.2.2.2.2).1.1) ((fedP op left low high x at' cbad a.2.2.2.2).1.2.1) ((fedP op left low high x at' cbad a.2.2.2.2).1.2.2.1) ((fedP op left low high x at' cbad a.2.2.2.2).1.2.2.2) ((fedP op left low high x at' cbad a.2.2.2.2).2.1) ((fedP op left low high x at' cbad a.2.2.2.2).2.2) (⟨MJ.piece hl hJ ht c1, hC.piece ht c2, MB.first hK0 ht hz hT⟩))
      apply w
      all_goals first | rfl | assumption | exact trivial | exact f0 | exact ⟨⟨c1, c2, c3⟩, hpp⟩ | omega | simp
   ·have hc : pcode bad lacks begun a.2.2.2.2 ≠ 0 := by simpa using c1
    have w := plays_w4_4 lim l.length (aQ l) bad op sum begun last lacks wbad wop wsum d wbeg wlast wleft left low high x at' cbad i
    simp only [g5, Int.toNat_natCast, hg, toInt, Am.toBool, toStr, isInt, isBool, isStr] at w
    have w := w _ (rp_F hJ.1 c1)
    refine Gets.ends ?_ (M1 (pcode bad lacks begun a.2.2.2.2) op sum begun last lacks (pcode bad lacks begun a.2.2.2.2) wop wsum d wbeg wlast wleft left low high x at' cbad (⟨(hJ.fail hc).le (by omega), (hC.fail hc).le (by omega), fun e => absurd e hc⟩))
    apply w
    all_goals first | rfl | assumption | exact trivial | exact f0 | exact ⟨c1, hpp⟩ | omega | simp
  ·have er := re_C hJ hC
   rcases Bool.eq_false_or_eq_true (ecode bad op lacks left begun last cbad == 0) with c1 | c1
   ·have hb0 := (ecode_0 c1).1
    rw [c1] at er
    rcases Bool.eq_false_or_eq_true last with c2 | c2
    ·have hwo := hJ.opE hb0
     have hm : (!(op == wop && ([] == toL d && true))) = false := by rw [hwo, hT hb0]; simp [toL]
     have er2 : rend_t0 lim wbad wop wsum d wbeg wlast wleft = (wop, d, true, 0, 0, 0, 0, ⟨#[]⟩, false) := by rw [er, c2]; rfl
     have w := plays_w4_7 lim l.length (aQ l) bad op sum begun last lacks wbad wop wsum d wbeg wlast wleft left low high x at' cbad i
     simp only [g5, Int.toNat_natCast, hg, toInt, Am.toBool, toStr, isInt, isBool, isStr] at w
     have w := w _ er2
     refine Gets.ends ?_ (M1 bad 0 0 false last lacks 0 0 0 ⟨#[]⟩ false wlast wleft left low high x at' cbad (⟨(MJ.endW hK0 hl (ecode_0 c1)).le (by omega), hC.endW.le (by omega), fun _ => rfl⟩))
     apply w
     all_goals first | rfl | assumption | exact trivial | exact f0 | exact ⟨⟨c1, c2⟩, hpe⟩ | exact hm | omega | simp
    ·have er2 : rend_t0 lim wbad wop wsum d wbeg wlast wleft = (0, ⟨#[]⟩, false, 0, 0, wop, wsum, d, false) := by rw [er, c2]; rfl
     have w := plays_w4_9 lim l.length (aQ l) bad op sum begun last lacks wbad wop wsum d wbeg wlast wleft left low high x at' cbad i
     simp only [g5, Int.toNat_natCast, hg, toInt, Am.toBool, toStr, isInt, isBool, isStr] at w
     have w := w _ er2
     refine Gets.ends ?_ (M1 bad op sum false last lacks 0 wop wsum d false wlast wleft left low high x at' cbad (⟨(MJ.endM hJ (ecode_0 c1)).le (by omega), hC.le (by omega), hT⟩))
     apply w
     all_goals first | rfl | assumption | exact trivial | exact f0 | exact ⟨⟨c1, c2⟩, hpe⟩ | omega | simp
   ·have hc : ecode bad op lacks left begun last cbad ≠ 0 := by simpa using c1
    rw [c1] at er
    simp only [cond_false] at er
    have w := plays_w4_8 lim l.length (aQ l) bad op sum begun last lacks wbad wop wsum d wbeg wlast wleft left low high x at' cbad i
    simp only [g5, Int.toNat_natCast, hg, toInt, Am.toBool, toStr, isInt, isBool, isStr] at w
    have w := w _ er
    refine Gets.ends ?_ (M1 (ecode bad op lacks left begun last cbad) op sum begun last lacks (ecode bad op lacks left begun last cbad) wop wsum d wbeg wlast wleft left low high x at' cbad (⟨(hJ.fail hc).le (by omega), (hC.fail hc).le (by omega), fun e => absurd e hc⟩))
    apply w
    all_goals first | rfl | assumption | exact trivial | exact f0 | exact ⟨c1, hpe⟩ | omega | simp

set_option maxHeartbeats 2000000 in
theorem step2 (lim : Int) (hl : 0 ≤ lim ∧ lim ≤ 1099511627776) (l : List Act) (hl100 : l.length ≤ 100) (i : Nat) (a : Act) (ha : l[i]? = some a) (hn : -9223372036854775808 ≤ a.2.2.2.1 ∧ a.2.2.2.1 ≤ 9223372036854775807) (ht : slen a.2.2.2.2 ≤ 100) {K : Int} (hK0 : 0 ≤ K) (hK : K ≤ 9900) (M1 : ∀ (bad op sum : Int) (begun last : Bool) (lacks wbad : Int) (wop wsum : Int) (d : ByteArray) (wbeg wlast : Bool) (wleft left : Int) (low high : Int) (x at' : Int) (cbad : Bool), I1 (K + 100) lim bad op sum begun last lacks wbad wop wsum d wbeg wlast wleft left low high x at' cbad → AEnds E 3 0 (plays_h3 lim l.length (aQ l) i bad op sum begun last lacks wbad wop wsum d wbeg wlast wleft left low high x at' cbad) (.bool true) []) (M2 : ∀ (bad op sum : Int) (begun last : Bool) (lacks wbad : Int) (wop wsum : Int) (d : ByteArray) (wbeg wlast : Bool) (wleft left : Int) (low high : Int) (x at' : Int) (cbad : Bool), I2 (K + 100) lim bad op sum begun last lacks wbad wop wsum d wbeg wlast wleft left low high x at' cbad → AEnds E 3 0 (plays_h5 lim l.length (aQ l) i bad op sum begun last lacks wbad wop wsum d wbeg wlast wleft left low high x at' cbad) (.bool true) []) (M3 : ∀ (bad op sum : Int) (bn : Nat) (begun last : Bool) (lacks wbad : Int) (wop wsum : Int) (d : ByteArray) (wbeg wlast : Bool) (wleft : Int) (B : List Value) (left low : Int) (high x at' : Int) (cbad : Bool), I3 (K + 100) lim bad op sum bn begun last lacks wbad wop wsum d wbeg wlast wleft B left low high x at' cbad → AEnds E 3 0 (plays_h6 lim l.length (aQ l) i bad op sum bn begun last lacks wbad wop wsum d wbeg wlast wleft B left low high x at' cbad) (.bool true) []) (bad op sum : Int) (begun last : Bool) (lacks wbad : Int) (wop wsum : Int) (d : ByteArray) (wbeg wlast : Bool) (wleft left : Int) (low high : Int) (x at' : Int) (cbad : Bool) (h : I2 K lim bad op sum begun last lacks wbad wop wsum d wbeg wlast wleft left low high x at' cbad) :
  AEnds E 3 0 (plays_h7 lim l.length (aQ l) bad op sum begun last lacks wbad wop wsum d wbeg wlast wleft left low high x at' cbad i) (.bool true) [] := by
 have hg := aQ_get ha
 have hlen := aQ_len l
 have hil : i < l.length := (List.getElem?_eq_some_iff.1 ha).1
 have f0 : decide ((i : Int) < (l.length : Int)) = true := decide_eq_true (by omega)
 obtain ⟨hJ, hC, hT⟩ := h
 have hat := hC.1
 have hpb : b_pr2 lim bad op sum begun last lacks left low high x at' cbad a.2.1 a.2.2.1 a.2.2.2.1 := trivial
 have hpp : p_pr2 lim bad op sum begun last lacks left low high x at' cbad a.2.2.2.2 := ⟨by omega, by omega, by omega⟩
 have hpe : e_pr2 lim bad op sum begun last lacks left low high x at' cbad := trivial
 have hfl : (ofBytes a.2.2.2.2).all flat = true := ob_flat _
 have hfl2 : True := trivial
 have hSp := rpiece_safe hJ (by omega) ht
 have hSe := rend_safe hJ (by omega)
 rcases Bool.eq_false_or_eq_true (a.1 == 0) with c0 | c0
 ·have er := rb_all hl hJ.1 (l := a.2.1) (o := a.2.2.1) hn
  rcases Bool.eq_false_or_eq_true (bcode lim bad op sum begun a.2.2.1 a.2.2.2.1 == 0) with c1 | c1
  ·rw [c1] at er
   rcases Bool.eq_false_or_eq_true (a.2.2.1 == 0) with c2 | c2
   ·rw [c2] at er
    simp only [cond_true] at er
    have w := plays_w7_0 lim l.length (aQ l) bad op sum begun last lacks wbad wop wsum d wbeg wlast wleft left low high x at' cbad i
    simp only [g5, Int.toNat_natCast, hg, toInt, Am.toBool, toStr, isInt, isBool, isStr] at w
    have w := w _ er
    refine Gets.ends ?_ (M2 bad op (IntKind.i64.wrap (sum + a.2.2.2.1)) true a.2.1 a.2.2.2.1 0 wop (IntKind.i64.wrap (wsum + a.2.2.2.1)) d true a.2.1 a.2.2.2.1 left low high x at' cbad (⟨(MJ.more hl hJ a.2.1 c1 c2).le (by omega), hC.le (by omega), hT⟩))
    apply w
    all_goals first | rfl | assumption | exact trivial | exact f0 | exact ⟨⟨c1, c2⟩, hpb⟩ | omega | simp
   ·rw [c2] at er
    simp only [cond_true, cond_false] at er
    have w := plays_w7_2 lim l.length (aQ l) bad op sum begun last lacks wbad wop wsum d wbeg wlast wleft left low high x at' cbad i
    simp only [g5, Int.toNat_natCast, hg, toInt, Am.toBool, toStr, isInt, isBool, isStr] at w
    have w := w _ er
    refine Gets.ends ?_ (M2 bad a.2.2.1 (IntKind.i64.wrap (sum + a.2.2.2.1)) true a.2.1 a.2.2.2.1 0 a.2.2.1 (IntKind.i64.wrap (wsum + a.2.2.2.1)) ⟨#[]⟩ true a.2.1 a.2.2.2.1 0 0 0 0 0 false (⟨(MJ.new hK0 hl hJ a.2.1 c1 c2).le (by omega), (MC.new hK0).le (by omega), fun _ => rfl⟩))
    apply w
    all_goals first | rfl | assumption | exact trivial | exact f0 | exact ⟨⟨c1, c2⟩, hpb⟩ | omega | simp
  ·have hc : bcode lim bad op sum begun a.2.2.1 a.2.2.2.1 ≠ 0 := by simpa using c1
   rw [c1] at er
   simp only [cond_false] at er
   have w := plays_w7_1 lim l.length (aQ l) bad op sum begun last lacks wbad wop wsum d wbeg wlast wleft left low high x at' cbad i
   simp only [g5, Int.toNat_natCast, hg, toInt, Am.toBool, toStr, isInt, isBool, isStr] at w
   have w := w _ er
   refine Gets.ends ?_ (M2 (bcode lim bad op sum begun a.2.2.1 a.2.2.2.1) op sum begun last lacks (bcode lim bad op sum begun a.2.2.1 a.2.2.2.1) wop wsum d wbeg wlast wleft left low high x at' cbad (⟨(hJ.fail hc).le (by omega), (hC.fail hc).le (by omega), fun e => absurd e hc⟩))
   apply w
   all_goals first | rfl | assumption | exact trivial | exact f0 | exact ⟨c1, hpb⟩ | omega | simp
 ·rcases Bool.eq_false_or_eq_true (a.1 == 1) with c9 | c9
  ·rcases Bool.eq_false_or_eq_true (pcode bad lacks begun a.2.2.2.2 == 0) with c1 | c1
   ·rcases Bool.eq_false_or_eq_true ((op == 1) && (fedP op left low high x at' cbad a.2.2.2.2).2.2) with c2 | c2
    ·have w := plays_w7_3 lim l.length (aQ l) bad op sum begun last lacks wbad wop wsum d wbeg wlast wleft left low high x at' cbad i
     simp only [g5, Int.toNat_natCast, hg, toInt, Am.toBool, toStr, isInt, isBool, isStr] at w
     have w := w _ (rp_BC hJ hC c1 c2) _ rfl
     refine Gets.ends ?_ (M2 1007 op sum begun last lacks 1007 wop wsum d wbeg wlast wleft ((fedP op left low high x at' cbad a.2.2.2.2).1.1) ((fedP op left low high x at' cbad a.2.2.2.2).1.2.1) ((fedP op left low high x at' cbad a.2.2.2.2).1.2.2.1) ((fedP op left low high x at' cbad a.2.2.2.2).1.2.2.2) ((fedP op left low high x at' cbad a.2.2.2.2).2.1) ((fedP op left low high x at' cbad a.2.2.2.2).2.2) (⟨(hJ.fail (by decide)).le (by omega), hC.bad7 ht d, fun e => absurd e (by decide)⟩))
     apply w
     all_goals first | rfl | assumption | exact trivial | exact f0 | exact ⟨⟨c1, c2⟩, hpp⟩ | omega | simp
    ·rcases Bool.eq_false_or_eq_true (decide (slen a.2.2.2.2 = 0)) with c3 | c3
     ·have hz : slen a.2.2.2.2 = 0 := of_decide_eq_true c3
      have w := plays_w7_5 lim l.length (aQ l) bad op sum begun last lacks wbad wop wsum d wbeg wlast wleft left low high x at' cbad i
      simp only [g5, Int.toNat_natCast, hg, toInt, Am.toBool, toStr, isInt, isBool, isStr] at w
      have w := w _ (rp_okC hJ hC c1 c2) _ rfl
      refine Gets.ends ?_ (M2 bad op sum begun last (IntKind.i64.wrap (lacks - (slen a.2.2.2.2 : Int))) 0 wop wsum (cat d a.2.2.2.2) wbeg wlast (IntKind.i64.wrap (wleft - (slen a.2.2.2.2 : Int))) ((fedP op left low high x at' cbad a.2.2.2.2).1.1) ((fedP op left low high x at' cbad a.2.2.2.2).1.2.1) ((fedP op left low high x at' cbad a.2.2.2.2).1.2.2.1) ((fedP op left low high x at' cbad a.2.2.2.2).1.2.2.2) ((fedP op left low high x at' cbad a.2.2.2.2).2.1) ((fedP op left low high x at' cbad a.2.2.2.2).2.2) (⟨MJ.piece hl hJ ht c1, hC.piece ht c2, fun e => by rw [hT e, cat_nil]; exact nil_of _ hz⟩))
      apply w
      all_goals first | rfl | assumption | exact trivial | exact f0 | exact ⟨⟨c1, c2, c3⟩, hpp⟩ | omega | simp
     ·have hz : slen a.2.2.2.2 ≠ 0 := of_decide_eq_false c3
      have w := plays_w7_6 lim l.length (aQ l) bad op sum begun last lacks wbad wop wsum d wbeg wlast wleft left low high x at' cbad i
      simp only [g5, Int.toNat_natCast, hg, toInt, Am.toBool, toStr, isInt, isBool, isStr] at w
      have w := w _ (rp_okC hJ hC c1 c2) _ rfl
      refine Gets.ends ?_ (M3 bad op sum (slen a.2.2.2.2) begun last (IntKind.i64.wrap (lacks - (slen a.2.2.2.2 : Int))) 0 wop wsum (cat d a.2.2.2.2) wbeg wlast (IntKind.i64.wrap (wleft - (slen a.2.2.2.2 : Int))) (ofBytes a.2.2.2.2) ((fedP op left low high x at' cbad a.2.2.2.2).1.1) ((fedP op left low high x at' cbad a.2.2.2.2).1.2.1) ((fedP op left low high x at' cbad a.2.2.2.2).1.2.2.1) ((fedP op left low high x at' cbad a.2.2.2.2).1.2.2.2) ((fedP op left low high x at' cbad a.2.2.2.2).2.1) ((fedP op left low high x at' cbad a.2.2.2.2).2.2) (⟨MJ.piece hl hJ ht c1, hC.piece ht c2, MB.first hK0 ht hz hT⟩))
      apply w
      all_goals first | rfl | assumption | exact trivial | exact f0 | exact ⟨⟨c1, c2, c3⟩, hpp⟩ | omega | simp
   ·have hc : pcode bad lacks begun a.2.2.2.2 ≠ 0 := by simpa using c1
    have w := plays_w7_4 lim l.length (aQ l) bad op sum begun last lacks wbad wop wsum d wbeg wlast wleft left low high x at' cbad i
    simp only [g5, Int.toNat_natCast, hg, toInt, Am.toBool, toStr, isInt, isBool, isStr] at w
    have w := w _ (rp_F hJ.1 c1)
    refine Gets.ends ?_ (M2 (pcode bad lacks begun a.2.2.2.2) op sum begun last lacks (pcode bad lacks begun a.2.2.2.2) wop wsum d wbeg wlast wleft left low high x at' cbad (⟨(hJ.fail hc).le (by omega), (hC.fail hc).le (by omega), fun e => absurd e hc⟩))
    apply w
    all_goals first | rfl | assumption | exact trivial | exact f0 | exact ⟨c1, hpp⟩ | omega | simp
  ·have er := re_C hJ hC
   rcases Bool.eq_false_or_eq_true (ecode bad op lacks left begun last cbad == 0) with c1 | c1
   ·have hb0 := (ecode_0 c1).1
    rw [c1] at er
    rcases Bool.eq_false_or_eq_true last with c2 | c2
    ·have hwo := hJ.opE hb0
     have hm : (!(op == wop && ([] == toL d && true))) = false := by rw [hwo, hT hb0]; simp [toL]
     have er2 : rend_t0 lim wbad wop wsum d wbeg wlast wleft = (wop, d, true, 0, 0, 0, 0, ⟨#[]⟩, false) := by rw [er, c2]; rfl
     have w := plays_w7_7 lim l.length (aQ l) bad op sum begun last lacks wbad wop wsum d wbeg wlast wleft left low high x at' cbad i
     simp only [g5, Int.toNat_natCast, hg, toInt, Am.toBool, toStr, isInt, isBool, isStr] at w
     have w := w _ er2
     refine Gets.ends ?_ (M1 bad 0 0 false last lacks 0 0 0 ⟨#[]⟩ false wlast wleft left low high x at' cbad (⟨(MJ.endW hK0 hl (ecode_0 c1)).le (by omega), hC.endW.le (by omega), fun _ => rfl⟩))
     apply w
     all_goals first | rfl | assumption | exact trivial | exact f0 | exact ⟨⟨c1, c2⟩, hpe⟩ | exact hm | omega | simp
    ·have er2 : rend_t0 lim wbad wop wsum d wbeg wlast wleft = (0, ⟨#[]⟩, false, 0, 0, wop, wsum, d, false) := by rw [er, c2]; rfl
     have w := plays_w7_9 lim l.length (aQ l) bad op sum begun last lacks wbad wop wsum d wbeg wlast wleft left low high x at' cbad i
     simp only [g5, Int.toNat_natCast, hg, toInt, Am.toBool, toStr, isInt, isBool, isStr] at w
     have w := w _ er2
     refine Gets.ends ?_ (M2 bad op sum false last lacks 0 wop wsum d false wlast wleft left low high x at' cbad (⟨(MJ.endM hJ (ecode_0 c1)).le (by omega), hC.le (by omega), hT⟩))
     apply w
     all_goals first | rfl | assumption | exact trivial | exact f0 | exact ⟨⟨c1, c2⟩, hpe⟩ | omega | simp
   ·have hc : ecode bad op lacks left begun last cbad ≠ 0 := by simpa using c1
    rw [c1] at er
    simp only [cond_false] at er
    have w := plays_w7_8 lim l.length (aQ l) bad op sum begun last lacks wbad wop wsum d wbeg wlast wleft left low high x at' cbad i
    simp only [g5, Int.toNat_natCast, hg, toInt, Am.toBool, toStr, isInt, isBool, isStr] at w
    have w := w _ er
    refine Gets.ends ?_ (M2 (ecode bad op lacks left begun last cbad) op sum begun last lacks (ecode bad op lacks left begun last cbad) wop wsum d wbeg wlast wleft left low high x at' cbad (⟨(hJ.fail hc).le (by omega), (hC.fail hc).le (by omega), fun e => absurd e hc⟩))
    apply w
    all_goals first | rfl | assumption | exact trivial | exact f0 | exact ⟨c1, hpe⟩ | omega | simp

set_option maxHeartbeats 2000000 in
theorem step3 (lim : Int) (hl : 0 ≤ lim ∧ lim ≤ 1099511627776) (l : List Act) (hl100 : l.length ≤ 100) (i : Nat) (a : Act) (ha : l[i]? = some a) (hn : -9223372036854775808 ≤ a.2.2.2.1 ∧ a.2.2.2.1 ≤ 9223372036854775807) (ht : slen a.2.2.2.2 ≤ 100) {K : Int} (hK0 : 0 ≤ K) (hK : K ≤ 9900) (M1 : ∀ (bad op sum : Int) (begun last : Bool) (lacks wbad : Int) (wop wsum : Int) (d : ByteArray) (wbeg wlast : Bool) (wleft left : Int) (low high : Int) (x at' : Int) (cbad : Bool), I1 (K + 100) lim bad op sum begun last lacks wbad wop wsum d wbeg wlast wleft left low high x at' cbad → AEnds E 3 0 (plays_h3 lim l.length (aQ l) i bad op sum begun last lacks wbad wop wsum d wbeg wlast wleft left low high x at' cbad) (.bool true) []) (M3 : ∀ (bad op sum : Int) (bn : Nat) (begun last : Bool) (lacks wbad : Int) (wop wsum : Int) (d : ByteArray) (wbeg wlast : Bool) (wleft : Int) (B : List Value) (left low : Int) (high x at' : Int) (cbad : Bool), I3 (K + 100) lim bad op sum bn begun last lacks wbad wop wsum d wbeg wlast wleft B left low high x at' cbad → AEnds E 3 0 (plays_h6 lim l.length (aQ l) i bad op sum bn begun last lacks wbad wop wsum d wbeg wlast wleft B left low high x at' cbad) (.bool true) []) (bad op sum : Int) (bn : Nat) (begun last : Bool) (lacks wbad : Int) (wop wsum : Int) (d : ByteArray) (wbeg wlast : Bool) (wleft : Int) (B : List Value) (left low : Int) (high x at' : Int) (cbad : Bool) (h : I3 K lim bad op sum bn begun last lacks wbad wop wsum d wbeg wlast wleft B left low high x at' cbad) :
  AEnds E 3 0 (plays_h8 lim l.length (aQ l) bad op sum bn begun last lacks wbad wop wsum d wbeg wlast wleft B left low high x at' cbad i) (.bool true) [] := by
 have hg := aQ_get ha
 have hlen := aQ_len l
 have hil : i < l.length := (List.getElem?_eq_some_iff.1 ha).1
 have f0 : decide ((i : Int) < (l.length : Int)) = true := decide_eq_true (by omega)
 obtain ⟨hJ, hC, hT⟩ := h
 have hat := hC.1
 obtain ⟨b, hb1, hb2, hb3, hb4, hb5⟩ := hT
 have hT : MB K bad bn B d := ⟨b, hb1, hb2, hb3, hb4, hb5⟩
 have hpb : b_pr3 lim bad op sum begun last lacks bn B left low high x at' cbad a.2.1 a.2.2.1 a.2.2.2.1 := ⟨b, hb1, hb2⟩
 have hpp : p_pr3 lim bad op sum begun last lacks bn B left low high x at' cbad a.2.2.2.2 := ⟨⟨b, hb1, hb2⟩, by omega, by omega, by omega, by omega⟩
 have hpe : e_pr3 lim bad op sum begun last lacks bn B left low high x at' cbad := ⟨⟨b, hb1, hb2⟩, by omega, by omega⟩
 have hfl : B.all flat = true := by rw [hb2]; exact ob_flat b
 have hfl2 : (B ++ ofBytes a.2.2.2.2).all flat = true := by rw [List.all_append, hfl, ob_flat]; rfl
 have hSp := rpiece_safe hJ (by omega) ht
 have hSe := rend_safe hJ (by omega)
 rcases Bool.eq_false_or_eq_true (a.1 == 0) with c0 | c0
 ·have er := rb_all hl hJ.1 (l := a.2.1) (o := a.2.2.1) hn
  rcases Bool.eq_false_or_eq_true (bcode lim bad op sum begun a.2.2.1 a.2.2.2.1 == 0) with c1 | c1
  ·rw [c1] at er
   rcases Bool.eq_false_or_eq_true (a.2.2.1 == 0) with c2 | c2
   ·rw [c2] at er
    simp only [cond_true] at er
    have w := plays_w8_0 lim l.length (aQ l) bad op sum bn begun last lacks wbad wop wsum d wbeg wlast wleft B left low high x at' cbad i
    simp only [g5, Int.toNat_natCast, hg, toInt, Am.toBool, toStr, isInt, isBool, isStr] at w
    have w := w _ er
    refine Gets.ends ?_ (M3 bad op (IntKind.i64.wrap (sum + a.2.2.2.1)) bn true a.2.1 a.2.2.2.1 0 wop (IntKind.i64.wrap (wsum + a.2.2.2.1)) d true a.2.1 a.2.2.2.1 B left low high x at' cbad (⟨(MJ.more hl hJ a.2.1 c1 c2).le (by omega), hC.le (by omega), hT.le (by omega)⟩))
    apply w
    all_goals first | rfl | assumption | exact trivial | exact f0 | exact ⟨⟨c1, c2⟩, hpb⟩ | omega | simp
   ·exact MB.new hT (new_op hl hJ c1 c2)
  ·have hc : bcode lim bad op sum begun a.2.2.1 a.2.2.2.1 ≠ 0 := by simpa using c1
   rw [c1] at er
   simp only [cond_false] at er
   have w := plays_w8_1 lim l.length (aQ l) bad op sum bn begun last lacks wbad wop wsum d wbeg wlast wleft B left low high x at' cbad i
   simp only [g5, Int.toNat_natCast, hg, toInt, Am.toBool, toStr, isInt, isBool, isStr] at w
   have w := w _ er
   refine Gets.ends ?_ (M3 (bcode lim bad op sum begun a.2.2.1 a.2.2.2.1) op sum bn begun last lacks (bcode lim bad op sum begun a.2.2.1 a.2.2.2.1) wop wsum d wbeg wlast wleft B left low high x at' cbad (⟨(hJ.fail hc).le (by omega), (hC.fail hc).le (by omega), (hT.fail hc).le (by omega)⟩))
   apply w
   all_goals first | rfl | assumption | exact trivial | exact f0 | exact ⟨c1, hpb⟩ | omega | simp
 ·rcases Bool.eq_false_or_eq_true (a.1 == 1) with c9 | c9
  ·rcases Bool.eq_false_or_eq_true (pcode bad lacks begun a.2.2.2.2 == 0) with c1 | c1
   ·rcases Bool.eq_false_or_eq_true ((op == 1) && (fedP op left low high x at' cbad a.2.2.2.2).2.2) with c2 | c2
    ·have w := plays_w8_3 lim l.length (aQ l) bad op sum bn begun last lacks wbad wop wsum d wbeg wlast wleft B left low high x at' cbad i
     simp only [g5, Int.toNat_natCast, hg, toInt, Am.toBool, toStr, isInt, isBool, isStr] at w
     have w := w _ (rp_BC hJ hC c1 c2) _ rfl
     refine Gets.ends ?_ (M3 1007 op sum bn begun last lacks 1007 wop wsum d wbeg wlast wleft B ((fedP op left low high x at' cbad a.2.2.2.2).1.1) ((fedP op left low high x at' cbad a.2.2.2.2).1.2.1) ((fedP op left low high x at' cbad a.2.2.2.2).1.2.2.1) ((fedP op left low high x at' cbad a.2.2.2.2).1.2.2.2) ((fedP op left low high x at' cbad a.2.2.2.2).2.1) ((fedP op left low high x at' cbad a.2.2.2.2).2.2) (⟨(hJ.fail (by decide)).le (by omega), hC.bad7 ht d, (hT.fail (by decide)).le (by omega)⟩))
     apply w
     all_goals first | rfl | assumption | exact trivial | exact f0 | exact ⟨⟨c1, c2⟩, hpp⟩ | omega | simp
    ·skip
     have w := plays_w8_5 lim l.length (aQ l) bad op sum bn begun last lacks wbad wop wsum d wbeg wlast wleft B left low high x at' cbad i
     simp only [g5, Int.toNat_natCast, hg, toInt, Am.toBool, toStr, isInt, isBool, isStr] at w
     have w := w _ (rp_okC hJ hC c1 c2) _ rfl
     refine Gets.ends ?_ (M3 bad op sum (bn + slen a.2.2.2.2) begun last (IntKind.i64.wrap (lacks - (slen a.2.2.2.2 : Int))) 0 wop wsum (cat d a.2.2.2.2) wbeg wlast (IntKind.i64.wrap (wleft - (slen a.2.2.2.2 : Int))) (B ++ ofBytes a.2.2.2.2) ((fedP op left low high x at' cbad a.2.2.2.2).1.1) ((fedP op left low high x at' cbad a.2.2.2.2).1.2.1) ((fedP op left low high x at' cbad a.2.2.2.2).1.2.2.1) ((fedP op left low high x at' cbad a.2.2.2.2).1.2.2.2) ((fedP op left low high x at' cbad a.2.2.2.2).2.1) ((fedP op left low high x at' cbad a.2.2.2.2).2.2) (⟨MJ.piece hl hJ ht c1, hC.piece ht c2, hT.piece ht⟩))
     apply w
     all_goals first | rfl | assumption | exact trivial | exact f0 | exact ⟨⟨c1, c2⟩, hpp⟩ | omega | simp
   ·have hc : pcode bad lacks begun a.2.2.2.2 ≠ 0 := by simpa using c1
    have w := plays_w8_4 lim l.length (aQ l) bad op sum bn begun last lacks wbad wop wsum d wbeg wlast wleft B left low high x at' cbad i
    simp only [g5, Int.toNat_natCast, hg, toInt, Am.toBool, toStr, isInt, isBool, isStr] at w
    have w := w _ (rp_F hJ.1 c1)
    refine Gets.ends ?_ (M3 (pcode bad lacks begun a.2.2.2.2) op sum bn begun last lacks (pcode bad lacks begun a.2.2.2.2) wop wsum d wbeg wlast wleft B left low high x at' cbad (⟨(hJ.fail hc).le (by omega), (hC.fail hc).le (by omega), (hT.fail hc).le (by omega)⟩))
    apply w
    all_goals first | rfl | assumption | exact trivial | exact f0 | exact ⟨c1, hpp⟩ | omega | simp
  ·have er := re_C hJ hC
   rcases Bool.eq_false_or_eq_true (ecode bad op lacks left begun last cbad == 0) with c1 | c1
   ·have hb0 := (ecode_0 c1).1
    rw [c1] at er
    rcases Bool.eq_false_or_eq_true last with c2 | c2
    ·have hwo := hJ.opE hb0
     have hm : (!(op == wop && (toL (bytesOf B) == toL d && true))) = false := by rw [hwo, hb2, hb5 hb0, ob_back]; simp
     have er2 : rend_t0 lim wbad wop wsum d wbeg wlast wleft = (wop, d, true, 0, 0, 0, 0, ⟨#[]⟩, false) := by rw [er, c2]; rfl
     have w := plays_w8_6 lim l.length (aQ l) bad op sum bn begun last lacks wbad wop wsum d wbeg wlast wleft B left low high x at' cbad i
     simp only [g5, Int.toNat_natCast, hg, toInt, Am.toBool, toStr, isInt, isBool, isStr] at w
     have w := w _ er2
     refine Gets.ends ?_ (M1 bad 0 0 false last lacks 0 0 0 ⟨#[]⟩ false wlast wleft left low high x at' cbad (⟨(MJ.endW hK0 hl (ecode_0 c1)).le (by omega), hC.endW.le (by omega), fun _ => rfl⟩))
     apply w
     all_goals first | rfl | assumption | exact trivial | exact f0 | exact ⟨⟨c1, c2⟩, hpe⟩ | exact hm | omega | simp
    ·have er2 : rend_t0 lim wbad wop wsum d wbeg wlast wleft = (0, ⟨#[]⟩, false, 0, 0, wop, wsum, d, false) := by rw [er, c2]; rfl
     have w := plays_w8_8 lim l.length (aQ l) bad op sum bn begun last lacks wbad wop wsum d wbeg wlast wleft B left low high x at' cbad i
     simp only [g5, Int.toNat_natCast, hg, toInt, Am.toBool, toStr, isInt, isBool, isStr] at w
     have w := w _ er2
     refine Gets.ends ?_ (M3 bad op sum bn false last lacks 0 wop wsum d false wlast wleft B left low high x at' cbad (⟨(MJ.endM hJ (ecode_0 c1)).le (by omega), hC.le (by omega), hT.le (by omega)⟩))
     apply w
     all_goals first | rfl | assumption | exact trivial | exact f0 | exact ⟨⟨c1, c2⟩, hpe⟩ | omega | simp
   ·have hc : ecode bad op lacks left begun last cbad ≠ 0 := by simpa using c1
    rw [c1] at er
    simp only [cond_false] at er
    have w := plays_w8_7 lim l.length (aQ l) bad op sum bn begun last lacks wbad wop wsum d wbeg wlast wleft B left low high x at' cbad i
    simp only [g5, Int.toNat_natCast, hg, toInt, Am.toBool, toStr, isInt, isBool, isStr] at w
    have w := w _ er
    refine Gets.ends ?_ (M3 (ecode bad op lacks left begun last cbad) op sum bn begun last lacks (ecode bad op lacks left begun last cbad) wop wsum d wbeg wlast wleft B left low high x at' cbad (⟨(hJ.fail hc).le (by omega), (hC.fail hc).le (by omega), (hT.fail hc).le (by omega)⟩))
    apply w
    all_goals first | rfl | assumption | exact trivial | exact f0 | exact ⟨c1, hpe⟩ | omega | simp

end Go.Proofs.Ytgaedhpeiamdfaa
