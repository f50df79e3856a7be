/-
  Plain laws of a text that is cut, and of how it is cut.
-/
import Derived.Test.YtgaedhpeiamdfaaMessageH
import Derived.Test.YtgaedhpeiamdfaaUtfO18
set_option linter.unusedVariables false
set_option linter.unusedSimpArgs false
open Go Go.Am
namespace Go.Proofs.Ytgaedhpeiamdfaa

theorem slen_subV (s : ByteArray) (l h : Nat) : slen (sub s l h) = min (h - l) (slen s - l) := by
  unfold slen sub
  simp [toL, ofL]
theorem toL_subV (s : ByteArray) (l h : Nat) : toL (sub s l h) = ((toL s).drop l).take (h - l) := by simp [sub, toL, ofL]
theorem baExt {x y : ByteArray} (h : toL x = toL y) : x = y := by
  have e1 : ofL (toL x) = x := rfl
  have e2 : ofL (toL y) = y := rfl
  rw [← e1, ← e2, h]
theorem cat_subV (s : ByteArray) {a b : Nat} (h : a ≤ b) : cat (sub s 0 a) (sub s a b) = sub s 0 b := by
  apply baExt
  have e : toL (cat (sub s 0 a) (sub s a b)) = toL (sub s 0 a) ++ toL (sub s a b) := rfl
  rw [e, toL_subV, toL_subV, toL_subV, List.drop_zero, Nat.sub_zero, Nat.sub_zero]
  have := List.take_add (l := toL s) (i := a) (j := b - a)
  rw [show a + (b - a) = b by omega] at this
  exact this.symm
theorem sub_allV (s : ByteArray) : sub s 0 (slen s) = s := by
  apply baExt
  rw [toL_subV, List.drop_zero, Nat.sub_zero]
  exact List.take_of_length_le (Nat.le_refl _)
theorem sub_nilV (s : ByteArray) (a : Nat) : sub s a a = ⟨#[]⟩ := by
  apply baExt
  rw [toL_subV, Nat.sub_self]
  rfl
theorem nil_ofV (s : ByteArray) (h : slen s = 0) : s = ⟨#[]⟩ := baExt (List.length_eq_zero_iff.1 h)
theorem valid_pref {s : ByteArray} (h : wholeD (0, 0, 0, 0) (toL s) = true) (k : Nat) : (feedL (0, 0, 0, 0) 0 false (toL (sub s 0 k))).2.2 = false := by
  rw [wholeD_feed _ _ 0] at h
  have e : toL s = toL (sub s 0 k) ++ (toL s).drop k := by rw [toL_subV, List.drop_zero, Nat.sub_zero, List.take_append_drop]
  rw [e, feedL_append] at h
  cases hb : (feedL (0, 0, 0, 0) 0 false (toL (sub s 0 k))).2.2 with
  | false => rfl
  | true =>
    rw [hb, feedL_bad] at h
    simp at h
theorem turn_inV (n many : Int) (hm : 0 < many) (hb : many ≤ 1000000) : ∃ k : Nat, turn_t0 n many = (k : Int) ∧ (k : Int) < many := by
  have h1 := Int.tmod_lt_of_pos n hm
  have h2 : -many < n.tmod many := by
    have := Int.tmod_lt_of_pos (-n) hm
    rw [Int.neg_tmod] at this
    omega
  unfold turn_t0
  by_cases c : n.tmod many < 0
  · simp only [decide_eq_true c, cond_true]
    rw [wrap64_in (by omega) (by omega)]
    refine ⟨(n.tmod many + many).toNat, ?_, by omega⟩
    show (n.tmod many + many : Int) = _
    omega
  · simp only [decide_eq_false c, cond_false]
    refine ⟨(n.tmod many).toNat, ?_, by omega⟩
    show (n.tmod many : Int) = _
    omega
/-- What the next cut is: so many, or all where no cut is left. -/
theorem next_val (most at' n : Nat) (A : List Value) (hm : most ≤ 300) (ha : at' ≤ n) (hn : n ≤ 60) :
    ∃ k b : Nat, next_t0 most at' n A = ((k : Int), (b : Int)) ∧ k ≤ most ∧ at' ≤ b ∧ b ≤ n ∧ (b = at' → k = most) := by
  unfold next_t0
  by_cases c1 : (n : Int) ≤ at'
  · simp only [decide_eq_true c1, cond_true]
    exact ⟨most, at', rfl, Nat.le_refl _, Nat.le_refl _, ha, fun _ => rfl⟩
  · simp only [decide_eq_false c1, cond_false]
    by_cases c2 : (most : Int) < 1
    · simp only [decide_eq_true c2, cond_true]
      exact ⟨most, at', rfl, Nat.le_refl _, Nat.le_refl _, ha, fun _ => rfl⟩
    · simp only [decide_eq_false c2, cond_false]
      have w1 : IntKind.i64.wrap ((at' : Int) + 1) = ((at' + 1 : Nat) : Int) := by rw [wrap64_in (by omega) (by omega)]; omega
      have w2 : IntKind.i64.wrap ((most : Int) + 1) = (most : Int) + 1 := wrap64_in (by omega) (by omega)
      rw [w1, w2]
      obtain ⟨k, hk, hk2⟩ := turn_inV (toInt (A.getD ((IntKind.i64.wrap (((at' + 1 : Nat) : Int) - 1)).toNat * 1) undef)) ((most : Int) + 1) (by omega) (by omega)
      rw [hk]
      exact ⟨k, at' + 1, rfl, by omega, by omega, by omega, fun e => by omega⟩
theorem next_safe (most at' n : Nat) (A : List Value) (hm : most ≤ 300) (ha : at' ≤ n) (hn : n ≤ 60) (hA : A.length = n) (hi : ∀ v ∈ A, isInt .i64 v = true) (hf : A.all flat = true) : next_S0 most at' n A := by
  unfold next_S0
  have w1 : (at' : Int) < n → IntKind.i64.wrap (IntKind.i64.wrap ((at' : Int) + 1) - 1) = (at' : Int) := fun h => by
    rw [wrap64_in (x := (at' : Int) + 1) (by omega) (by omega), wrap64_in (by omega) (by omega)]
    omega
  have w2 : IntKind.i64.wrap ((most : Int) + 1) = (most : Int) + 1 := wrap64_in (by omega) (by omega)
  refine ⟨fun _ => trivial, fun c1 => ⟨fun _ => trivial, fun c2 => ?_⟩⟩
  have c1 := of_decide_eq_false c1
  have hlt : at' < A.length := by omega
  rw [w1 (by omega), w2]
  have t : turn_S0 (toInt (A.getD ((at' : Int).toNat * 1) undef)) ((most : Int) + 1) := by
    have : ((most : Int) + 1 != 0) = true := by simp; omega
    exact ⟨fun _ => this, fun _ => this⟩
  have g : A.getD at' undef ∈ A := by
    rw [List.getD_eq_getElem?_getD, List.getElem?_eq_getElem hlt]
    exact List.getElem_mem hlt
  have g2 := hi _ g
  simp only [Int.toNat_natCast, Nat.mul_one] at t ⊢
  refine ⟨t, hlt, g2, ?_⟩
  exact ⟨by omega, by omega, by omega⟩

theorem bneV (a b : Int) : (a != b) = decide (¬ a = b) := by
  by_cases h : a = b
  · subst h; simp
  · simp [h]
theorem beqV (a b : Int) : (a == b) = decide (a = b) := by
  by_cases h : a = b
  · subst h; simp
  · simp [h]
theorem bopV (o op : Int) : bop o op = decide (o = 0 ↔ op = 0) := by
  unfold bop
  rw [bneV, beqV]
  by_cases h : o = 0 <;> by_cases g : op = 0 <;> simp [h, g]
/-- The code of a frame that goes on, or begins, where none is open. -/
theorem bcodeV {lim op sum o n : Int} (hl : 0 ≤ lim ∧ lim ≤ 1099511627776) (hs : 0 ≤ sum ∧ sum ≤ lim) (hn : 0 ≤ n) (ho : o = 0 ∨ o = 1 ∨ o = 2) (h : o = 0 ↔ ¬ op = 0) :
    bcode lim 0 op sum false o n = if lim - sum < n then 1009 else 0 := by
  have w : IntKind.i64.wrap (lim - sum) = lim - sum := wrap64_in (by omega) (by omega)
  unfold bcode
  rw [w]
  have e1 : ((o != 0) && ((o != 1) && (o != 2))) = false := by
    rcases ho with rfl | rfl | rfl <;> rfl
  have e2 : bop o op = false := by
    rw [bopV, decide_eq_false_iff_not]
    intro h2
    by_cases c : op = 0
    · exact (h.1 (h2.2 c)) c
    · exact c (h2.1 (h.2 c))
  rw [e1, e2, decide_eq_false (show ¬ n < 0 by omega)]
  by_cases c : lim - sum < n
  · simp [c]
  · simp [c]

/-- How a check stands behind a text's beginning. -/
def CK (op left low high x at' : Int) (cbad : Bool) (d : ByteArray) : Prop :=
  (0 ≤ at' ∧ at' ≤ 1000) ∧ (op = 1 → feedL (0, 0, 0, 0) 0 false (toL d) = ((left, low, high, x), at', cbad))
theorem CK.new (op : Int) (s : ByteArray) : CK op 0 0 0 0 0 false (sub s 0 0) := ⟨⟨by omega, by omega⟩, fun _ => by rw [sub_nilV]; rfl⟩
theorem CK.piece {op left low high x at' : Int} {cbad : Bool} {s : ByteArray} (hv : op = 1 → wholeD (0, 0, 0, 0) (toL s) = true) (hs : slen s ≤ 300) {a b : Nat} (hab : a ≤ b) (hb : b ≤ slen s) (h : CK op left low high x at' cbad (sub s 0 a)) :
    CK op (fedP op left low high x at' cbad (sub s a b)).1.1 (fedP op left low high x at' cbad (sub s a b)).1.2.1 (fedP op left low high x at' cbad (sub s a b)).1.2.2.1 (fedP op left low high x at' cbad (sub s a b)).1.2.2.2 (fedP op left low high x at' cbad (sub s a b)).2.1 (fedP op left low high x at' cbad (sub s a b)).2.2 (sub s 0 b) ∧
    ((op == 1) && (fedP op left low high x at' cbad (sub s a b)).2.2) = false := by
  by_cases ho : op = 1
  · have hq := h.2 ho
    have e : feedL (0, 0, 0, 0) 0 false (toL (sub s 0 b)) = fedP op left low high x at' cbad (sub s a b) := by
      rw [← cat_subV s hab]
      have e : toL (cat (sub s 0 a) (sub s a b)) = toL (sub s 0 a) ++ toL (sub s a b) := rfl
      rw [e, feedL_append, hq, ho]
      rfl
    have hb2 := valid_pref (hv ho) b
    rw [e] at hb2
    have hat := feedL_at (toL (sub s 0 b)) (0, 0, 0, 0) 0
    rw [e] at hat
    have hlen : (toL (sub s 0 b)).length ≤ 300 := by
      have := slen_subV s 0 b
      have e3 : (toL (sub s 0 b)).length = slen (sub s 0 b) := rfl
      omega
    refine ⟨⟨by omega, fun _ => e⟩, ?_⟩
    rw [hb2, Bool.and_false]
  · have e : fedP op left low high x at' cbad (sub s a b) = ((left, low, high, x), at', cbad) := by unfold fedP; simp only [beqV, ho, decide_false, cond_false]
    rw [e]
    refine ⟨⟨h.1, fun e => absurd e ho⟩, ?_⟩
    rw [beqV, decide_eq_false ho, Bool.false_and]
/-- At the end of a text that may be the check is whole. -/
theorem CK.whole {op left low high x at' : Int} {cbad : Bool} {s : ByteArray} (hv : op = 1 → wholeD (0, 0, 0, 0) (toL s) = true) (h : CK op left low high x at' cbad s) (l : Bool) : (ecode 0 op 0 left true l cbad == 0) = true := by
  unfold ecode
  by_cases ho : op = 1
  · have hq := h.2 ho
    have hw := hv ho
    rw [wholeD_feed _ _ 0, hq] at hw
    simp only [Bool.and_eq_true, Bool.not_eq_true', beq_iff_eq] at hw
    obtain ⟨rfl, rfl⟩ := hw
    subst ho
    cases l <;> rfl
  · rw [beqV op 1, decide_eq_false ho]
    cases l <;> rfl
theorem ecodeM (op left : Int) (cbad : Bool) : (ecode 0 op 0 left true false cbad == 0) = true := rfl
theorem getStrV {T : List ByteArray} {i : Nat} {s : ByteArray} (h : T[i]? = some s) : (T.map Value.string).getD i undef = .string s := by
  rw [List.getD_eq_getElem?_getD, List.getElem?_map, h]; rfl
theorem getBoolV {T : List Bool} {i : Nat} {s : Bool} (h : T[i]? = some s) : (T.map Value.bool).getD i undef = .bool s := by
  rw [List.getD_eq_getElem?_getD, List.getElem?_map, h]; rfl
end Go.Proofs.Ytgaedhpeiamdfaa
