/-
  A check that is fed: the loop over a text's bytes.
-/
import Derived.Test.YtgaedhpeiamdfaaAmSlim
import Derived.Test.YtgaedhpeiamdfaaUtfB18
set_option linter.unusedVariables false
open Go Go.Am
namespace Go.Proofs.Ytgaedhpeiamdfaa
noncomputable def feed_b1 (left low : Int) (high x at' : Int) (bad : Bool) (s : ByteArray) : Cfg := cfgOf (goNil E K2 2000 19 (some [false]) [] [] [0] [0, 1, 5] [] [] [] (startC E 28 ([.pointer (some ⟨0, 0, none⟩), .string s]) ([some (.cells [.int .i64 left, .int .u8 low, .int .u8 high, .int .i32 x, .int .i64 at', .bool bad] 77 none)])))
noncomputable def feed_h1 (left low : Int) (high x at' : Int) (bad : Bool) (s : ByteArray) (t5 c0_0 : Int) (c0_1 c0_2 : Int) (c0_3 c0_4 : Int) (c0_5 : Bool) : Cfg := wCell 0 5 (.bool c0_5) (wCell 0 4 (.int .i64 c0_4) (wCell 0 3 (.int .i32 c0_3) (wCell 0 2 (.int .u8 c0_2) (wCell 0 1 (.int .u8 c0_1) (wCell 0 0 (.int .i64 c0_0) (wTmp 5 (.int .i64 t5) (feed_b1 left low high x at' bad s)))))))
abbrev feed_R : Type := (Int × Int × Int × Int × Int × Int × Bool) ⊕ (Bool × Int × Int × Int × Int × Int × Bool)
def feed_V (left low : Int) (high x at' : Int) (bad : Bool) (s : ByteArray) (r : Bool × Int × Int × Int × Int × Int × Bool) : Value := .bool r.1
def feed_H (left low : Int) (high x at' : Int) (bad : Bool) (s : ByteArray) (r : Bool × Int × Int × Int × Int × Int × Bool) : Heap := [some (.cells [.int .i64 r.2.1, .int .u8 r.2.2.1, .int .u8 r.2.2.2.1, .int .i32 r.2.2.2.2.1, .int .i64 r.2.2.2.2.2.1, .bool r.2.2.2.2.2.2] 77 none)]
noncomputable def feed_Q (left low : Int) (high x at' : Int) (bad : Bool) (s : ByteArray) (C : Cfg) (r : feed_R) : Prop :=
  match r with
  | .inl (p) => Gets E 1 C (feed_h1 left low high x at' bad s (p.1) (p.2.1) (p.2.2.1) (p.2.2.2.1) (p.2.2.2.2.1) (p.2.2.2.2.2.1) (p.2.2.2.2.2.2))
  | .inr (p) => AEnds E 28 1 C (feed_V left low high x at' bad s p) (feed_H left low high x at' bad s p)
theorem feed_go1 {left : Int} {low : Int} {high : Int} {x : Int} {at' : Int} {bad : Bool} {s : ByteArray} {C : Cfg} {t5 : Int} {c0_0 : Int} {c0_1 : Int} {c0_2 : Int} {c0_3 : Int} {c0_4 : Int} {c0_5 : Bool} (h : feed_Q left low high x at' bad s C (.inl (t5, c0_0, c0_1, c0_2, c0_3, c0_4, c0_5))) : Gets E 1 C (feed_h1 left low high x at' bad s t5 c0_0 c0_1 c0_2 c0_3 c0_4 c0_5) := h
theorem feed_end {left : Int} {low : Int} {high : Int} {x : Int} {at' : Int} {bad : Bool} {s : ByteArray} {C : Cfg} {r : Bool × Int × Int × Int × Int × Int × Bool} (h : feed_Q left low high x at' bad s C (.inr (r))) : AEnds E 28 1 C (feed_V left low high x at' bad s r) (feed_H left low high x at' bad s r) := h
def feed_t0 (left low : Int) (high x at' : Int) (bad : Bool) (s : ByteArray) : feed_R :=
  .inl (0, left, low, high, x, at', bad)
def feed_S0 (left low : Int) (high x at' : Int) (bad : Bool) (s : ByteArray) : Prop :=
  True
theorem feed_ok0 (left low : Int) (high x at' : Int) (bad : Bool) (s : ByteArray) (hS : feed_S0 left low high x at' bad s) : feed_Q left low high x at' bad s (startC E 28 ([.pointer (some ⟨0, 0, none⟩), .string s]) ([some (.cells [.int .i64 left, .int .u8 low, .int .u8 high, .int .i32 x, .int .i64 at', .bool bad] 77 none)])) (feed_t0 left low high x at' bad s) := by
  unfold feed_S0 at hS
  unfold feed_t0
  show Gets E 1 _ (feed_h1 left low high x at' bad s (0) left low high x at' bad)
  exact reach_q K2_ok 2000 19 (some [false]) [] [] [0] [0, 1, 5] [] [] [] (by kernel_rfl) (rfl) (by kernel_rfl)
def feed_t1 (left low : Int) (high x at' : Int) (bad : Bool) (s : ByteArray) (t5 c0_0 : Int) (c0_1 c0_2 : Int) (c0_3 c0_4 : Int) (c0_5 : Bool) : feed_R :=
  bif decide (t5 < (↑(slen s) : Int)) then bif !c0_5 then bif !!(step_t0 c0_0 c0_1 c0_2 c0_3 c0_4 c0_5 (chr s t5.toNat)).fst then .inl (IntKind.i64.wrap (t5 + 1), (step_t0 c0_0 c0_1 c0_2 c0_3 c0_4 c0_5 (chr s t5.toNat)).snd.fst, (step_t0 c0_0 c0_1 c0_2 c0_3 c0_4 c0_5 (chr s t5.toNat)).snd.snd.fst, (step_t0 c0_0 c0_1 c0_2 c0_3 c0_4 c0_5 (chr s t5.toNat)).snd.snd.snd.fst, (step_t0 c0_0 c0_1 c0_2 c0_3 c0_4 c0_5 (chr s t5.toNat)).snd.snd.snd.snd, IntKind.i64.wrap (c0_4 + 1), !(step_t0 c0_0 c0_1 c0_2 c0_3 c0_4 c0_5 (chr s t5.toNat)).fst)
      else .inl (IntKind.i64.wrap (t5 + 1), (step_t0 c0_0 c0_1 c0_2 c0_3 c0_4 c0_5 (chr s t5.toNat)).snd.fst, (step_t0 c0_0 c0_1 c0_2 c0_3 c0_4 c0_5 (chr s t5.toNat)).snd.snd.fst, (step_t0 c0_0 c0_1 c0_2 c0_3 c0_4 c0_5 (chr s t5.toNat)).snd.snd.snd.fst, (step_t0 c0_0 c0_1 c0_2 c0_3 c0_4 c0_5 (chr s t5.toNat)).snd.snd.snd.snd, c0_4, !(step_t0 c0_0 c0_1 c0_2 c0_3 c0_4 c0_5 (chr s t5.toNat)).fst)
    else .inr (!c0_5, c0_0, c0_1, c0_2, c0_3, c0_4, c0_5)
  else .inr (!c0_5, c0_0, c0_1, c0_2, c0_3, c0_4, c0_5)
def feed_S1 (left low : Int) (high x at' : Int) (bad : Bool) (s : ByteArray) (t5 c0_0 : Int) (c0_1 c0_2 : Int) (c0_3 c0_4 : Int) (c0_5 : Bool) : Prop :=
  ((decide (t5 < (↑(slen s) : Int))) = true → ((!c0_5) = true → ((!!(step_t0 c0_0 c0_1 c0_2 c0_3 c0_4 c0_5 (chr s t5.toNat)).fst) = true → (step_S0 c0_0 c0_1 c0_2 c0_3 c0_4 c0_5 (chr s t5.toNat)) ∧ (0 ≤ t5) ∧ (t5 < (↑(slen s) : Int))) ∧
      ((!!(step_t0 c0_0 c0_1 c0_2 c0_3 c0_4 c0_5 (chr s t5.toNat)).fst) = false → (step_S0 c0_0 c0_1 c0_2 c0_3 c0_4 c0_5 (chr s t5.toNat)) ∧ (0 ≤ t5) ∧ (t5 < (↑(slen s) : Int)))) ∧
    ((!c0_5) = false → True)) ∧
  ((decide (t5 < (↑(slen s) : Int))) = false → True)
theorem feed_ok1 (left low : Int) (high x at' : Int) (bad : Bool) (s : ByteArray) (t5 c0_0 : Int) (c0_1 c0_2 : Int) (c0_3 c0_4 : Int) (c0_5 : Bool) (hS : feed_S1 left low high x at' bad s t5 c0_0 c0_1 c0_2 c0_3 c0_4 c0_5) : feed_Q left low high x at' bad s (feed_h1 left low high x at' bad s t5 c0_0 c0_1 c0_2 c0_3 c0_4 c0_5) (feed_t1 left low high x at' bad s t5 c0_0 c0_1 c0_2 c0_3 c0_4 c0_5) := by
  unfold feed_S1 at hS
  unfold feed_t1
  refine cond_intro (P := feed_Q left low high x at' bad s (feed_h1 left low high x at' bad s t5 c0_0 c0_1 c0_2 c0_3 c0_4 c0_5)) _ (fun h0 => ?_) (fun h0 => ?_)
  · skip
    refine cond_intro (P := feed_Q left low high x at' bad s (feed_h1 left low high x at' bad s t5 c0_0 c0_1 c0_2 c0_3 c0_4 c0_5)) _ (fun h1 => ?_) (fun h1 => ?_)
    · skip
      refine cond_intro (P := feed_Q left low high x at' bad s (feed_h1 left low high x at' bad s t5 c0_0 c0_1 c0_2 c0_3 c0_4 c0_5)) _ (fun h2 => ?_) (fun h2 => ?_)
      · skip
        show Gets E 1 _ (feed_h1 left low high x at' bad s (IntKind.i64.wrap (t5 + 1)) ((step_t0 c0_0 c0_1 c0_2 c0_3 c0_4 c0_5 (chr s t5.toNat)).snd.fst) ((step_t0 c0_0 c0_1 c0_2 c0_3 c0_4 c0_5 (chr s t5.toNat)).snd.snd.fst) ((step_t0 c0_0 c0_1 c0_2 c0_3 c0_4 c0_5 (chr s t5.toNat)).snd.snd.snd.fst) ((step_t0 c0_0 c0_1 c0_2 c0_3 c0_4 c0_5 (chr s t5.toNat)).snd.snd.snd.snd) (IntKind.i64.wrap (c0_4 + 1)) (!(step_t0 c0_0 c0_1 c0_2 c0_3 c0_4 c0_5 (chr s t5.toNat)).fst))
        exact reach_q K2_ok 2000 58 (some [true, true, true]) [] [] [0] [0, 1, 5] [] [] [] (by kernel_rfl) (andI (dT h2) (andI (eqA_self [.pointer (some ⟨0, 0, none⟩), .int .u8 (chr s t5.toNat)]) (andI (eqH_self [some (.cells [.int .i64 c0_0, .int .u8 c0_1, .int .u8 c0_2, .int .i32 c0_3, .int .i64 c0_4, .bool c0_5] 77 none)]) (andI (pdec_iff.2 (((hS.1 h0).1 h1).1 h2).1) (andI (decide_eq_true (((hS.1 h0).1 h1).1 h2).2.1) (andI (decide_eq_true (((hS.1 h0).1 h1).1 h2).2.2) (andI (dT h1) (andI (dT h0) (rfl))))))))) (by kernel_rfl)
      · skip
        show Gets E 1 _ (feed_h1 left low high x at' bad s (IntKind.i64.wrap (t5 + 1)) ((step_t0 c0_0 c0_1 c0_2 c0_3 c0_4 c0_5 (chr s t5.toNat)).snd.fst) ((step_t0 c0_0 c0_1 c0_2 c0_3 c0_4 c0_5 (chr s t5.toNat)).snd.snd.fst) ((step_t0 c0_0 c0_1 c0_2 c0_3 c0_4 c0_5 (chr s t5.toNat)).snd.snd.snd.fst) ((step_t0 c0_0 c0_1 c0_2 c0_3 c0_4 c0_5 (chr s t5.toNat)).snd.snd.snd.snd) c0_4 (!(step_t0 c0_0 c0_1 c0_2 c0_3 c0_4 c0_5 (chr s t5.toNat)).fst))
        exact reach_q K2_ok 2000 49 (some [true, true, false]) [] [] [0] [0, 1, 5] [] [] [] (by kernel_rfl) (andI (dF h2) (andI (eqA_self [.pointer (some ⟨0, 0, none⟩), .int .u8 (chr s t5.toNat)]) (andI (eqH_self [some (.cells [.int .i64 c0_0, .int .u8 c0_1, .int .u8 c0_2, .int .i32 c0_3, .int .i64 c0_4, .bool c0_5] 77 none)]) (andI (pdec_iff.2 (((hS.1 h0).1 h1).2 h2).1) (andI (decide_eq_true (((hS.1 h0).1 h1).2 h2).2.1) (andI (decide_eq_true (((hS.1 h0).1 h1).2 h2).2.2) (andI (dT h1) (andI (dT h0) (rfl))))))))) (by kernel_rfl)
    · skip
      exact ends_q K2_ok 2000 26 (some [true, false]) [0] [4] [0] (by kernel_rfl) (andI (dF h1) (andI (dT h0) (rfl))) (by kernel_rfl)
  · skip
    exact ends_q K2_ok 2000 26 (some [false, false]) [0] [4] [0] (by kernel_rfl) (andI (dF h0) (rfl)) (by kernel_rfl)


theorem feed_run (left low high x at0 : Int) (bad0 : Bool) (s : ByteArray) (hs : slen s ≤ 1000000) : ∀ (n i : Nat) (q : Q) (at' : Int) (bad : Bool), i + n = slen s → 0 ≤ at' → at' ≤ 1000000 * 1000000 + i →
    AEnds E 28 1 (feed_h1 left low high x at0 bad0 s i q.1 q.2.1 q.2.2.1 q.2.2.2 at' bad) (.bool !(feedL q at' bad ((toL s).drop i)).2.2)
      [some (.cells [.int .i64 (feedL q at' bad ((toL s).drop i)).1.1, .int .u8 (feedL q at' bad ((toL s).drop i)).1.2.1, .int .u8 (feedL q at' bad ((toL s).drop i)).1.2.2.1, .int .i32 (feedL q at' bad ((toL s).drop i)).1.2.2.2, .int .i64 (feedL q at' bad ((toL s).drop i)).2.1, .bool (feedL q at' bad ((toL s).drop i)).2.2] 77 none)]
  | 0, i, q, at', bad, hi, h1, h2 => by
    have h := feed_ok1 left low high x at0 bad0 s i q.1 q.2.1 q.2.2.1 q.2.2.2 at' bad (by
      unfold feed_S1; simp [show ¬ ((i : Int) < slen s) by omega])
    rw [show feed_t1 left low high x at0 bad0 s i q.1 q.2.1 q.2.2.1 q.2.2.2 at' bad = .inr (!bad, q.1, q.2.1, q.2.2.1, q.2.2.2, at', bad) by
      unfold feed_t1; simp [show ¬ ((i : Int) < slen s) by omega]] at h
    rw [show (toL s).drop i = [] from List.drop_eq_nil_of_le (by unfold slen at hi; omega)]
    exact h
  | n + 1, i, q, at', true, hi, h1, h2 => by
    have h := feed_ok1 left low high x at0 bad0 s i q.1 q.2.1 q.2.2.1 q.2.2.2 at' true (by
      unfold feed_S1; simp)
    rw [show feed_t1 left low high x at0 bad0 s i q.1 q.2.1 q.2.2.1 q.2.2.2 at' true = .inr (!true, q.1, q.2.1, q.2.2.1, q.2.2.2, at', true) by
      unfold feed_t1; simp] at h
    rw [feedL_bad]
    exact h
  | n + 1, i, q, at', false, hi, h1, h2 => by
    have hl : i < (toL s).length := by unfold slen at hi; omega
    have h := feed_ok1 left low high x at0 bad0 s i q.1 q.2.1 q.2.2.1 q.2.2.2 at' false (by
      unfold feed_S1; simp [show ((i : Int) < slen s) by omega, step_safe])
    have hc : chr s (i : Int).toNat = ((toL s)[i].toNat : Int) := by simp [chr, List.getD_eq_getElem?_getD, hl]
    have e : ∀ a b, step_t0 q.1 q.2.1 q.2.2.1 q.2.2.2 a b (chr s (i : Int).toNat) = sst q (toL s)[i].toNat := fun a b => by rw [hc]; rfl
    unfold feed_t1 at h
    simp only [e] at h
    rw [wrap64_in (by omega) (by omega), wrap64_in (by omega) (by omega)] at h
    rw [List.drop_eq_getElem_cons hl, feedL]
    have ih := feed_run left low high x at0 bad0 s hs n (i + 1) (sst q (toL s)[i].toNat).2 (bif (sst q (toL s)[i].toNat).1 then at' + 1 else at') (!(sst q (toL s)[i].toNat).1) (by omega) (by cases (sst q (toL s)[i].toNat).1 <;> simp <;> omega) (by cases (sst q (toL s)[i].toNat).1 <;> simp <;> omega)
    simp only [show decide ((i : Int) < slen s) = true by simp; omega, cond_true, Bool.not_false, Bool.not_not] at h
    simp only [cond_false]
    refine Gets.ends ?_ ih
    cases hb : (sst q (toL s)[i].toNat).1 <;> simp only [hb, cond_true, cond_false] at h ⊢ <;> exact h

def feed_pre (left low high x at' : Int) (bad : Bool) (s : ByteArray) : Prop := slen s ≤ 1000000 ∧ 0 ≤ at' ∧ at' ≤ 1000000 * 1000000
def feed_v (left low high x at' : Int) (bad : Bool) (s : ByteArray) : Value := .bool !(feedL (left, low, high, x) at' bad (toL s)).2.2
def feed_h (left low high x at' : Int) (bad : Bool) (s : ByteArray) : Heap :=
  [some (.cells [.int .i64 (feedL (left, low, high, x) at' bad (toL s)).1.1, .int .u8 (feedL (left, low, high, x) at' bad (toL s)).1.2.1, .int .u8 (feedL (left, low, high, x) at' bad (toL s)).1.2.2.1, .int .i32 (feedL (left, low, high, x) at' bad (toL s)).1.2.2.2, .int .i64 (feedL (left, low, high, x) at' bad (toL s)).2.1, .bool (feedL (left, low, high, x) at' bad (toL s)).2.2] 77 none)]
theorem feed_call (left low high x at' : Int) (bad : Bool) (s : ByteArray) (h : feed_pre left low high x at' bad s) :
    CallOk E 28 [.pointer (some ⟨0, 0, none⟩), .string s] [some (.cells [.int .i64 left, .int .u8 low, .int .u8 high, .int .i32 x, .int .i64 at', .bool bad] 77 none)] (feed_v left low high x at' bad s) (feed_h left low high x at' bad s) :=
  callOk_of_ends ((feed_ok0 left low high x at' bad s trivial).ends (feed_run left low high x at' bad s h.1 (slen s) 0 (left, low, high, x) at' bad (by omega) h.2.1 (by have := h.2.2; omega))) (by kernel_rfl) (Nat.le_of_ble_eq_true (by kernel_rfl))

def feed_ex (a : List Value) (h : Heap) : Int × Int × Int × Int × Int × Bool × ByteArray := ((toInt ((cellsOf h 0).getD 0 undef)), (toInt ((cellsOf h 0).getD 1 undef)), (toInt ((cellsOf h 0).getD 2 undef)), (toInt ((cellsOf h 0).getD 3 undef)), (toInt ((cellsOf h 0).getD 4 undef)), (toBool ((cellsOf h 0).getD 5 undef)), (toStr (a.getD 1 undef)))
noncomputable def feed_k : Ct := kP feed_ex (fun (a0, a1, a2, a3, a4, a5, a6) => [.pointer (some ⟨0, 0, none⟩), .string a6]) (fun (a0, a1, a2, a3, a4, a5, a6) => [some (.cells [.int .i64 a0, .int .u8 a1, .int .u8 a2, .int .i32 a3, .int .i64 a4, .bool a5] 77 none)]) (fun (a0, a1, a2, a3, a4, a5, a6) => feed_pre a0 a1 a2 a3 a4 a5 a6) (fun (a0, a1, a2, a3, a4, a5, a6) => feed_v a0 a1 a2 a3 a4 a5 a6) (fun (a0, a1, a2, a3, a4, a5, a6) => feed_h a0 a1 a2 a3 a4 a5 a6)
theorem feed_k_ok : KFor E 28 feed_k := kP_ok (fun (a0, a1, a2, a3, a4, a5, a6) hx => feed_call a0 a1 a2 a3 a4 a5 a6 hx)


end Go.Proofs.Ytgaedhpeiamdfaa
