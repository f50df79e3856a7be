/-
  A joiner of frames: what Piece does, by the shapes of its memory, and by what comes of it.
-/
import Derived.Test.YtgaedhpeiamdfaaMessageJ0
import Derived.Test.YtgaedhpeiamdfaaMessageJp
set_option linter.unusedVariables false
set_option linter.unusedSimpArgs false
set_option maxRecDepth 10000
open Go Go.Am
namespace Go.Proofs.Ytgaedhpeiamdfaa

def p_v0 (lim bad : Int) (op sum : Int) (begun last : Bool) (lacks : Int) (s : ByteArray) : Value := .int .i64 (pcode bad lacks begun s)
def p_h0 (lim bad : Int) (op sum : Int) (begun last : Bool) (lacks : Int) (s : ByteArray) : Heap := [some (.cells [.int .i64 lim, .bool true, .int .i64 (pcode bad lacks begun s), .int .i64 op, .int .i64 sum, .pointer none, .slice none 0 0, .pointer none, .bool begun, .bool last, .int .i64 lacks] 51 none)]
def p_pr0 (lim bad : Int) (op sum : Int) (begun last : Bool) (lacks : Int) (s : ByteArray) : Prop := (begun = false)
theorem fin_p0 {lim : Int} {bad : Int} {op : Int} {sum : Int} {begun : Bool} {last : Bool} {lacks : Int} {s : ByteArray} {v : Value} {h : Heap} (e1 : p_v0 lim bad op sum begun last lacks s = v) (e2 : p_h0 lim bad op sum begun last lacks s = h) (w : AEnds E 14 1 (startC E 14 [.pointer (some ⟨0, 0, none⟩), .string s] [some (.cells [.int .i64 lim, .bool true, .int .i64 bad, .int .i64 op, .int .i64 sum, .pointer none, .slice none 0 0, .pointer none, .bool begun, .bool last, .int .i64 lacks] 51 none)]) v h) (hl : Nat.ble 1 h.length = true) : CallOk E 14 [.pointer (some ⟨0, 0, none⟩), .string s] [some (.cells [.int .i64 lim, .bool true, .int .i64 bad, .int .i64 op, .int .i64 sum, .pointer none, .slice none 0 0, .pointer none, .bool begun, .bool last, .int .i64 lacks] 51 none)] (p_v0 lim bad op sum begun last lacks s) (p_h0 lim bad op sum begun last lacks s) := by
  rw [e1, e2]
  exact callOk_of_ends w (by kernel_rfl) (Nat.le_of_ble_eq_true hl)
theorem p0_all (lim bad : Int) (op sum : Int) (begun last : Bool) (lacks : Int) (s : ByteArray) (hp : p_pr0 lim bad op sum begun last lacks s) : CallOk E 14 [.pointer (some ⟨0, 0, none⟩), .string s] [some (.cells [.int .i64 lim, .bool true, .int .i64 bad, .int .i64 op, .int .i64 sum, .pointer none, .slice none 0 0, .pointer none, .bool begun, .bool last, .int .i64 lacks] 51 none)] (p_v0 lim bad op sum begun last lacks s) (p_h0 lim bad op sum begun last lacks s) := by
  unfold p_pr0 at hp
  rcases Bool.eq_false_or_eq_true (bad != 0) with d0 | d0
  ·
    have d0z : (bad == 0) = false := by simpa using d0
    have w := p0_w0_0 lim bad op sum begun last lacks s d0
    try simp only [take_ob] at w
    exact fin_p0 (by simp only [p_v0, bcode, pcode, ecode, fedP, Bool.and_true, Bool.true_and, Bool.and_false, Bool.false_and, Bool.or_true, Bool.or_false, Bool.true_or, Bool.false_or, Bool.not_true, Bool.not_false, cond_true, cond_false, d0, d0z] <;> first | rfl | (simp; done)) (by simp only [p_h0, bcode, pcode, ecode, fedP, Bool.and_true, Bool.true_and, Bool.and_false, Bool.false_and, Bool.or_true, Bool.or_false, Bool.true_or, Bool.false_or, Bool.not_true, Bool.not_false, cond_true, cond_false, d0, d0z] <;> first | rfl | (simp; done)) w (by kernel_rfl)
  ·
    have d0z : (bad == 0) = true := by simpa using d0
    rcases Bool.eq_false_or_eq_true (!begun) with d1 | d1
    ·
      have d1z : (begun) = false := by simpa using d1
      rcases Bool.eq_false_or_eq_true (bad == 0) with d2 | d2
      ·
        have w := p0_w0_1 lim bad op sum begun last lacks s d2 d1 d0
        try simp only [take_ob] at w
        exact fin_p0 (by simp only [p_v0, bcode, pcode, ecode, fedP, Bool.and_true, Bool.true_and, Bool.and_false, Bool.false_and, Bool.or_true, Bool.or_false, Bool.true_or, Bool.false_or, Bool.not_true, Bool.not_false, cond_true, cond_false, d0, d0z, d1, d1z, d2] <;> first | rfl | (simp; done)) (by simp only [p_h0, bcode, pcode, ecode, fedP, Bool.and_true, Bool.true_and, Bool.and_false, Bool.false_and, Bool.or_true, Bool.or_false, Bool.true_or, Bool.false_or, Bool.not_true, Bool.not_false, cond_true, cond_false, d0, d0z, d1, d1z, d2] <;> first | rfl | (simp; done)) w (by kernel_rfl)
      ·
        exfalso; simp_all
    ·
      have d1z : (begun) = true := by simpa using d1
      exfalso; simp_all

def p_v1 (lim bad : Int) (op sum : Int) (begun last : Bool) (lacks left : Int) (low high : Int) (x at' : Int) (cbad : Bool) (s : ByteArray) : Value := (bif (pcode bad lacks begun s == 0) then (bif ((op == 1) && (fedP op left low high x at' cbad s).2.2) then .int .i64 1007 else (bif (decide (slen s = 0)) then .int .i64 0 else .int .i64 0)) else .int .i64 (pcode bad lacks begun s))
def p_h1 (lim bad : Int) (op sum : Int) (begun last : Bool) (lacks left : Int) (low high : Int) (x at' : Int) (cbad : Bool) (s : ByteArray) : Heap := (bif (pcode bad lacks begun s == 0) then (bif ((op == 1) && (fedP op left low high x at' cbad s).2.2) then [some (.cells [.int .i64 lim, .bool true, .int .i64 1007, .int .i64 op, .int .i64 sum, .pointer none, .slice none 0 0, .pointer (some ⟨1, 0, none⟩), .bool begun, .bool last, .int .i64 lacks] 51 none), some (.cells [.int .i64 (fedP op left low high x at' cbad s).1.1, .int .u8 (fedP op left low high x at' cbad s).1.2.1, .int .u8 (fedP op left low high x at' cbad s).1.2.2.1, .int .i32 (fedP op left low high x at' cbad s).1.2.2.2, .int .i64 (fedP op left low high x at' cbad s).2.1, .bool (fedP op left low high x at' cbad s).2.2] 77 none)] else (bif (decide (slen s = 0)) then [some (.cells [.int .i64 lim, .bool true, .int .i64 bad, .int .i64 op, .int .i64 sum, .pointer (some ⟨0, 5, none⟩), .slice none 0 0, .pointer (some ⟨1, 0, none⟩), .bool begun, .bool last, .int .i64 (IntKind.wrap .i64 (lacks - (slen s : Int)))] 51 none), some (.cells [.int .i64 (fedP op left low high x at' cbad s).1.1, .int .u8 (fedP op left low high x at' cbad s).1.2.1, .int .u8 (fedP op left low high x at' cbad s).1.2.2.1, .int .i32 (fedP op left low high x at' cbad s).1.2.2.2, .int .i64 (fedP op left low high x at' cbad s).2.1, .bool (fedP op left low high x at' cbad s).2.2] 77 none)] else [some (.cells [.int .i64 lim, .bool true, .int .i64 bad, .int .i64 op, .int .i64 sum, .pointer (some ⟨0, 5, none⟩), .slice (some ⟨2, 0, none⟩) (slen s) 0, .pointer (some ⟨1, 0, none⟩), .bool begun, .bool last, .int .i64 (IntKind.wrap .i64 (lacks - (slen s : Int)))] 51 none), some (.cells [.int .i64 (fedP op left low high x at' cbad s).1.1, .int .u8 (fedP op left low high x at' cbad s).1.2.1, .int .u8 (fedP op left low high x at' cbad s).1.2.2.1, .int .i32 (fedP op left low high x at' cbad s).1.2.2.2, .int .i64 (fedP op left low high x at' cbad s).2.1, .bool (fedP op left low high x at' cbad s).2.2] 77 none), some (.cells (ofBytes s) 5 (some 1))])) else [some (.cells [.int .i64 lim, .bool true, .int .i64 (pcode bad lacks begun s), .int .i64 op, .int .i64 sum, .pointer none, .slice none 0 0, .pointer (some ⟨1, 0, none⟩), .bool begun, .bool last, .int .i64 lacks] 51 none), some (.cells [.int .i64 left, .int .u8 low, .int .u8 high, .int .i32 x, .int .i64 at', .bool cbad] 77 none)])
def p_pr1 (lim bad : Int) (op sum : Int) (begun last : Bool) (lacks left : Int) (low high : Int) (x at' : Int) (cbad : Bool) (s : ByteArray) : Prop := (0 ≤ at') ∧ (at' ≤ 1000000) ∧ (slen s ≤ 1000000)
theorem fin_p1 {lim : Int} {bad : Int} {op : Int} {sum : Int} {begun : Bool} {last : Bool} {lacks : Int} {left : Int} {low : Int} {high : Int} {x : Int} {at' : Int} {cbad : Bool} {s : ByteArray} {v : Value} {h : Heap} (e1 : p_v1 lim bad op sum begun last lacks left low high x at' cbad s = v) (e2 : p_h1 lim bad op sum begun last lacks left low high x at' cbad s = h) (w : AEnds E 14 2 (startC E 14 [.pointer (some ⟨0, 0, none⟩), .string s] [some (.cells [.int .i64 lim, .bool true, .int .i64 bad, .int .i64 op, .int .i64 sum, .pointer none, .slice none 0 0, .pointer (some ⟨1, 0, none⟩), .bool begun, .bool last, .int .i64 lacks] 51 none), some (.cells [.int .i64 left, .int .u8 low, .int .u8 high, .int .i32 x, .int .i64 at', .bool cbad] 77 none)]) v h) (hl : Nat.ble 2 h.length = true) : CallOk E 14 [.pointer (some ⟨0, 0, none⟩), .string s] [some (.cells [.int .i64 lim, .bool true, .int .i64 bad, .int .i64 op, .int .i64 sum, .pointer none, .slice none 0 0, .pointer (some ⟨1, 0, none⟩), .bool begun, .bool last, .int .i64 lacks] 51 none), some (.cells [.int .i64 left, .int .u8 low, .int .u8 high, .int .i32 x, .int .i64 at', .bool cbad] 77 none)] (p_v1 lim bad op sum begun last lacks left low high x at' cbad s) (p_h1 lim bad op sum begun last lacks left low high x at' cbad s) := by
  rw [e1, e2]
  exact callOk_of_ends w (by kernel_rfl) (Nat.le_of_ble_eq_true hl)
theorem p1_all (lim bad : Int) (op sum : Int) (begun last : Bool) (lacks left : Int) (low high : Int) (x at' : Int) (cbad : Bool) (s : ByteArray) (hp : p_pr1 lim bad op sum begun last lacks left low high x at' cbad s) : CallOk E 14 [.pointer (some ⟨0, 0, none⟩), .string s] [some (.cells [.int .i64 lim, .bool true, .int .i64 bad, .int .i64 op, .int .i64 sum, .pointer none, .slice none 0 0, .pointer (some ⟨1, 0, none⟩), .bool begun, .bool last, .int .i64 lacks] 51 none), some (.cells [.int .i64 left, .int .u8 low, .int .u8 high, .int .i32 x, .int .i64 at', .bool cbad] 77 none)] (p_v1 lim bad op sum begun last lacks left low high x at' cbad s) (p_h1 lim bad op sum begun last lacks left low high x at' cbad s) := by
  unfold p_pr1 at hp
  rcases Bool.eq_false_or_eq_true (bad != 0) with d0 | d0
  ·
    have d0z : (bad == 0) = false := by simpa using d0
    have w := p1_w0_0 lim bad op sum begun last lacks left low high x at' cbad s d0
    try simp only [take_ob] at w
    exact fin_p1 (by simp only [p_v1, bcode, pcode, ecode, fedP, Bool.and_true, Bool.true_and, Bool.and_false, Bool.false_and, Bool.or_true, Bool.or_false, Bool.true_or, Bool.false_or, Bool.not_true, Bool.not_false, cond_true, cond_false, d0, d0z] <;> first | rfl | (simp; done)) (by simp only [p_h1, bcode, pcode, ecode, fedP, Bool.and_true, Bool.true_and, Bool.and_false, Bool.false_and, Bool.or_true, Bool.or_false, Bool.true_or, Bool.false_or, Bool.not_true, Bool.not_false, cond_true, cond_false, d0, d0z] <;> first | rfl | (simp; done)) w (by kernel_rfl)
  ·
    have d0z : (bad == 0) = true := by simpa using d0
    rcases Bool.eq_false_or_eq_true (!begun) with d1 | d1
    ·
      have d1z : (begun) = false := by simpa using d1
      rcases Bool.eq_false_or_eq_true (bad == 0) with d2 | d2
      ·
        have w := p1_w0_1 lim bad op sum begun last lacks left low high x at' cbad s d2 d1 d0
        try simp only [take_ob] at w
        exact fin_p1 (by simp only [p_v1, bcode, pcode, ecode, fedP, Bool.and_true, Bool.true_and, Bool.and_false, Bool.false_and, Bool.or_true, Bool.or_false, Bool.true_or, Bool.false_or, Bool.not_true, Bool.not_false, cond_true, cond_false, d0, d0z, d1, d1z, d2] <;> first | rfl | (simp; done)) (by simp only [p_h1, bcode, pcode, ecode, fedP, Bool.and_true, Bool.true_and, Bool.and_false, Bool.false_and, Bool.or_true, Bool.or_false, Bool.true_or, Bool.false_or, Bool.not_true, Bool.not_false, cond_true, cond_false, d0, d0z, d1, d1z, d2] <;> first | rfl | (simp; done)) w (by kernel_rfl)
      ·
        exfalso; simp_all
    ·
      have d1z : (begun) = true := by simpa using d1
      rcases Bool.eq_false_or_eq_true (decide (lacks < (↑(slen s) : Int))) with d2 | d2
      ·
        rcases Bool.eq_false_or_eq_true (bad == 0) with d3 | d3
        ·
          have w := p1_w0_3 lim bad op sum begun last lacks left low high x at' cbad s d3 d2 d1 d0
          try simp only [take_ob] at w
          exact fin_p1 (by simp only [p_v1, bcode, pcode, ecode, fedP, Bool.and_true, Bool.true_and, Bool.and_false, Bool.false_and, Bool.or_true, Bool.or_false, Bool.true_or, Bool.false_or, Bool.not_true, Bool.not_false, cond_true, cond_false, d0, d0z, d1, d1z, d2, d3] <;> first | rfl | (simp; done)) (by simp only [p_h1, bcode, pcode, ecode, fedP, Bool.and_true, Bool.true_and, Bool.and_false, Bool.false_and, Bool.or_true, Bool.or_false, Bool.true_or, Bool.false_or, Bool.not_true, Bool.not_false, cond_true, cond_false, d0, d0z, d1, d1z, d2, d3] <;> first | rfl | (simp; done)) w (by kernel_rfl)
        ·
          exfalso; simp_all
      ·
        rcases Bool.eq_false_or_eq_true (op == 1) with d3 | d3
        ·
          rcases Bool.eq_false_or_eq_true (!!(feedL (left, low, high, x) at' cbad (toL s)).snd.snd) with d4 | d4
          ·
            have d4z : (feedL (left, low, high, x) at' cbad (toL s)).snd.snd = true := by simpa using d4
            rcases Bool.eq_false_or_eq_true (bad == 0) with d5 | d5
            ·
              have w := p1_w0_5 lim bad op sum begun last lacks left low high x at' cbad s _ rfl d5 d4 ⟨by omega, by omega, by omega⟩ d3 d2 d1 d0
              try simp only [take_ob] at w
              exact fin_p1 (by simp only [p_v1, bcode, pcode, ecode, fedP, Bool.and_true, Bool.true_and, Bool.and_false, Bool.false_and, Bool.or_true, Bool.or_false, Bool.true_or, Bool.false_or, Bool.not_true, Bool.not_false, cond_true, cond_false, d0, d0z, d1, d1z, d2, d3, d4, d4z, d5] <;> first | rfl | (simp; done)) (by simp only [p_h1, bcode, pcode, ecode, fedP, Bool.and_true, Bool.true_and, Bool.and_false, Bool.false_and, Bool.or_true, Bool.or_false, Bool.true_or, Bool.false_or, Bool.not_true, Bool.not_false, cond_true, cond_false, d0, d0z, d1, d1z, d2, d3, d4, d4z, d5] <;> first | rfl | (simp; done)) w (by kernel_rfl)
            ·
              exfalso; simp_all
          ·
            have d4z : (feedL (left, low, high, x) at' cbad (toL s)).snd.snd = false := by simpa using d4
            rcases Bool.eq_false_or_eq_true (decide (slen s = 0)) with d5 | d5
            ·
              have w := p1_w0_7 lim bad op sum begun last lacks left low high x at' cbad s _ rfl d5 d4 ⟨by omega, by omega, by omega⟩ d3 d2 d1 d0
              try simp only [take_ob] at w
              exact fin_p1 (by simp only [p_v1, bcode, pcode, ecode, fedP, Bool.and_true, Bool.true_and, Bool.and_false, Bool.false_and, Bool.or_true, Bool.or_false, Bool.true_or, Bool.false_or, Bool.not_true, Bool.not_false, cond_true, cond_false, d0, d0z, d1, d1z, d2, d3, d4, d4z, d5] <;> first | rfl | (simp; done)) (by simp only [p_h1, bcode, pcode, ecode, fedP, Bool.and_true, Bool.true_and, Bool.and_false, Bool.false_and, Bool.or_true, Bool.or_false, Bool.true_or, Bool.false_or, Bool.not_true, Bool.not_false, cond_true, cond_false, d0, d0z, d1, d1z, d2, d3, d4, d4z, d5] <;> first | rfl | (simp; done)) w (by kernel_rfl)
            ·
              have w := p1_w0_8 lim bad op sum begun last lacks left low high x at' cbad s _ rfl (ob_tf s) (ob_to s) (Nat.le_refl _) (by have := of_decide_eq_false d5; omega) (by omega) (by omega) d5 d4 ⟨by omega, by omega, by omega⟩ d3 d2 d1 d0
              try simp only [take_ob] at w
              exact fin_p1 (by simp only [p_v1, bcode, pcode, ecode, fedP, Bool.and_true, Bool.true_and, Bool.and_false, Bool.false_and, Bool.or_true, Bool.or_false, Bool.true_or, Bool.false_or, Bool.not_true, Bool.not_false, cond_true, cond_false, d0, d0z, d1, d1z, d2, d3, d4, d4z, d5] <;> first | rfl | (simp; done)) (by simp only [p_h1, bcode, pcode, ecode, fedP, Bool.and_true, Bool.true_and, Bool.and_false, Bool.false_and, Bool.or_true, Bool.or_false, Bool.true_or, Bool.false_or, Bool.not_true, Bool.not_false, cond_true, cond_false, d0, d0z, d1, d1z, d2, d3, d4, d4z, d5] <;> first | rfl | (simp; done)) w (by kernel_rfl)
        ·
          rcases Bool.eq_false_or_eq_true (decide (slen s = 0)) with d4 | d4
          ·
            have w := p1_w0_9 lim bad op sum begun last lacks left low high x at' cbad s d4 d3 d2 d1 d0
            try simp only [take_ob] at w
            exact fin_p1 (by simp only [p_v1, bcode, pcode, ecode, fedP, Bool.and_true, Bool.true_and, Bool.and_false, Bool.false_and, Bool.or_true, Bool.or_false, Bool.true_or, Bool.false_or, Bool.not_true, Bool.not_false, cond_true, cond_false, d0, d0z, d1, d1z, d2, d3, d4] <;> first | rfl | (simp; done)) (by simp only [p_h1, bcode, pcode, ecode, fedP, Bool.and_true, Bool.true_and, Bool.and_false, Bool.false_and, Bool.or_true, Bool.or_false, Bool.true_or, Bool.false_or, Bool.not_true, Bool.not_false, cond_true, cond_false, d0, d0z, d1, d1z, d2, d3, d4] <;> first | rfl | (simp; done)) w (by kernel_rfl)
          ·
            have w := p1_w0_10 lim bad op sum begun last lacks left low high x at' cbad s (ob_tf s) (ob_to s) (Nat.le_refl _) (by have := of_decide_eq_false d4; omega) (by omega) (by omega) d4 d3 d2 d1 d0
            try simp only [take_ob] at w
            exact fin_p1 (by simp only [p_v1, bcode, pcode, ecode, fedP, Bool.and_true, Bool.true_and, Bool.and_false, Bool.false_and, Bool.or_true, Bool.or_false, Bool.true_or, Bool.false_or, Bool.not_true, Bool.not_false, cond_true, cond_false, d0, d0z, d1, d1z, d2, d3, d4] <;> first | rfl | (simp; done)) (by simp only [p_h1, bcode, pcode, ecode, fedP, Bool.and_true, Bool.true_and, Bool.and_false, Bool.false_and, Bool.or_true, Bool.or_false, Bool.true_or, Bool.false_or, Bool.not_true, Bool.not_false, cond_true, cond_false, d0, d0z, d1, d1z, d2, d3, d4] <;> first | rfl | (simp; done)) w (by kernel_rfl)

def p_v2 (lim bad : Int) (op sum : Int) (begun last : Bool) (lacks left : Int) (low high : Int) (x at' : Int) (cbad : Bool) (s : ByteArray) : Value := (bif (pcode bad lacks begun s == 0) then (bif ((op == 1) && (fedP op left low high x at' cbad s).2.2) then .int .i64 1007 else (bif (decide (slen s = 0)) then .int .i64 0 else .int .i64 0)) else .int .i64 (pcode bad lacks begun s))
def p_h2 (lim bad : Int) (op sum : Int) (begun last : Bool) (lacks left : Int) (low high : Int) (x at' : Int) (cbad : Bool) (s : ByteArray) : Heap := (bif (pcode bad lacks begun s == 0) then (bif ((op == 1) && (fedP op left low high x at' cbad s).2.2) then [some (.cells [.int .i64 lim, .bool true, .int .i64 1007, .int .i64 op, .int .i64 sum, .pointer (some ⟨0, 5, none⟩), .slice none 0 0, .pointer (some ⟨1, 0, none⟩), .bool begun, .bool last, .int .i64 lacks] 51 none), some (.cells [.int .i64 (fedP op left low high x at' cbad s).1.1, .int .u8 (fedP op left low high x at' cbad s).1.2.1, .int .u8 (fedP op left low high x at' cbad s).1.2.2.1, .int .i32 (fedP op left low high x at' cbad s).1.2.2.2, .int .i64 (fedP op left low high x at' cbad s).2.1, .bool (fedP op left low high x at' cbad s).2.2] 77 none)] else (bif (decide (slen s = 0)) then [some (.cells [.int .i64 lim, .bool true, .int .i64 bad, .int .i64 op, .int .i64 sum, .pointer (some ⟨0, 5, none⟩), .slice none 0 0, .pointer (some ⟨1, 0, none⟩), .bool begun, .bool last, .int .i64 (IntKind.wrap .i64 (lacks - (slen s : Int)))] 51 none), some (.cells [.int .i64 (fedP op left low high x at' cbad s).1.1, .int .u8 (fedP op left low high x at' cbad s).1.2.1, .int .u8 (fedP op left low high x at' cbad s).1.2.2.1, .int .i32 (fedP op left low high x at' cbad s).1.2.2.2, .int .i64 (fedP op left low high x at' cbad s).2.1, .bool (fedP op left low high x at' cbad s).2.2] 77 none)] else [some (.cells [.int .i64 lim, .bool true, .int .i64 bad, .int .i64 op, .int .i64 sum, .pointer (some ⟨0, 5, none⟩), .slice (some ⟨2, 0, none⟩) (slen s) 0, .pointer (some ⟨1, 0, none⟩), .bool begun, .bool last, .int .i64 (IntKind.wrap .i64 (lacks - (slen s : Int)))] 51 none), some (.cells [.int .i64 (fedP op left low high x at' cbad s).1.1, .int .u8 (fedP op left low high x at' cbad s).1.2.1, .int .u8 (fedP op left low high x at' cbad s).1.2.2.1, .int .i32 (fedP op left low high x at' cbad s).1.2.2.2, .int .i64 (fedP op left low high x at' cbad s).2.1, .bool (fedP op left low high x at' cbad s).2.2] 77 none), some (.cells (ofBytes s) 5 (some 1))])) else [some (.cells [.int .i64 lim, .bool true, .int .i64 (pcode bad lacks begun s), .int .i64 op, .int .i64 sum, .pointer (some ⟨0, 5, none⟩), .slice none 0 0, .pointer (some ⟨1, 0, none⟩), .bool begun, .bool last, .int .i64 lacks] 51 none), some (.cells [.int .i64 left, .int .u8 low, .int .u8 high, .int .i32 x, .int .i64 at', .bool cbad] 77 none)])
def p_pr2 (lim bad : Int) (op sum : Int) (begun last : Bool) (lacks left : Int) (low high : Int) (x at' : Int) (cbad : Bool) (s : ByteArray) : Prop := (0 ≤ at') ∧ (at' ≤ 1000000) ∧ (slen s ≤ 1000000)
theorem fin_p2 {lim : Int} {bad : Int} {op : Int} {sum : Int} {begun : Bool} {last : Bool} {lacks : Int} {left : Int} {low : Int} {high : Int} {x : Int} {at' : Int} {cbad : Bool} {s : ByteArray} {v : Value} {h : Heap} (e1 : p_v2 lim bad op sum begun last lacks left low high x at' cbad s = v) (e2 : p_h2 lim bad op sum begun last lacks left low high x at' cbad s = h) (w : AEnds E 14 2 (startC E 14 [.pointer (some ⟨0, 0, none⟩), .string s] [some (.cells [.int .i64 lim, .bool true, .int .i64 bad, .int .i64 op, .int .i64 sum, .pointer (some ⟨0, 5, none⟩), .slice none 0 0, .pointer (some ⟨1, 0, none⟩), .bool begun, .bool last, .int .i64 lacks] 51 none), some (.cells [.int .i64 left, .int .u8 low, .int .u8 high, .int .i32 x, .int .i64 at', .bool cbad] 77 none)]) v h) (hl : Nat.ble 2 h.length = true) : CallOk E 14 [.pointer (some ⟨0, 0, none⟩), .string s] [some (.cells [.int .i64 lim, .bool true, .int .i64 bad, .int .i64 op, .int .i64 sum, .pointer (some ⟨0, 5, none⟩), .slice none 0 0, .pointer (some ⟨1, 0, none⟩), .bool begun, .bool last, .int .i64 lacks] 51 none), some (.cells [.int .i64 left, .int .u8 low, .int .u8 high, .int .i32 x, .int .i64 at', .bool cbad] 77 none)] (p_v2 lim bad op sum begun last lacks left low high x at' cbad s) (p_h2 lim bad op sum begun last lacks left low high x at' cbad s) := by
  rw [e1, e2]
  exact callOk_of_ends w (by kernel_rfl) (Nat.le_of_ble_eq_true hl)
theorem p2_all (lim bad : Int) (op sum : Int) (begun last : Bool) (lacks left : Int) (low high : Int) (x at' : Int) (cbad : Bool) (s : ByteArray) (hp : p_pr2 lim bad op sum begun last lacks left low high x at' cbad s) : CallOk E 14 [.pointer (some ⟨0, 0, none⟩), .string s] [some (.cells [.int .i64 lim, .bool true, .int .i64 bad, .int .i64 op, .int .i64 sum, .pointer (some ⟨0, 5, none⟩), .slice none 0 0, .pointer (some ⟨1, 0, none⟩), .bool begun, .bool last, .int .i64 lacks] 51 none), some (.cells [.int .i64 left, .int .u8 low, .int .u8 high, .int .i32 x, .int .i64 at', .bool cbad] 77 none)] (p_v2 lim bad op sum begun last lacks left low high x at' cbad s) (p_h2 lim bad op sum begun last lacks left low high x at' cbad s) := by
  unfold p_pr2 at hp
  rcases Bool.eq_false_or_eq_true (bad != 0) with d0 | d0
  ·
    have d0z : (bad == 0) = false := by simpa using d0
    have w := p2_w0_0 lim bad op sum begun last lacks left low high x at' cbad s d0
    try simp only [take_ob] at w
    exact fin_p2 (by simp only [p_v2, bcode, pcode, ecode, fedP, Bool.and_true, Bool.true_and, Bool.and_false, Bool.false_and, Bool.or_true, Bool.or_false, Bool.true_or, Bool.false_or, Bool.not_true, Bool.not_false, cond_true, cond_false, d0, d0z] <;> first | rfl | (simp; done)) (by simp only [p_h2, bcode, pcode, ecode, fedP, Bool.and_true, Bool.true_and, Bool.and_false, Bool.false_and, Bool.or_true, Bool.or_false, Bool.true_or, Bool.false_or, Bool.not_true, Bool.not_false, cond_true, cond_false, d0, d0z] <;> first | rfl | (simp; done)) w (by kernel_rfl)
  ·
    have d0z : (bad == 0) = true := by simpa using d0
    rcases Bool.eq_false_or_eq_true (!begun) with d1 | d1
    ·
      have d1z : (begun) = false := by simpa using d1
      rcases Bool.eq_false_or_eq_true (bad == 0) with d2 | d2
      ·
        have w := p2_w0_1 lim bad op sum begun last lacks left low high x at' cbad s d2 d1 d0
        try simp only [take_ob] at w
        exact fin_p2 (by simp only [p_v2, bcode, pcode, ecode, fedP, Bool.and_true, Bool.true_and, Bool.and_false, Bool.false_and, Bool.or_true, Bool.or_false, Bool.true_or, Bool.false_or, Bool.not_true, Bool.not_false, cond_true, cond_false, d0, d0z, d1, d1z, d2] <;> first | rfl | (simp; done)) (by simp only [p_h2, bcode, pcode, ecode, fedP, Bool.and_true, Bool.true_and, Bool.and_false, Bool.false_and, Bool.or_true, Bool.or_false, Bool.true_or, Bool.false_or, Bool.not_true, Bool.not_false, cond_true, cond_false, d0, d0z, d1, d1z, d2] <;> first | rfl | (simp; done)) w (by kernel_rfl)
      ·
        exfalso; simp_all
    ·
      have d1z : (begun) = true := by simpa using d1
      rcases Bool.eq_false_or_eq_true (decide (lacks < (↑(slen s) : Int))) with d2 | d2
      ·
        rcases Bool.eq_false_or_eq_true (bad == 0) with d3 | d3
        ·
          have w := p2_w0_3 lim bad op sum begun last lacks left low high x at' cbad s d3 d2 d1 d0
          try simp only [take_ob] at w
          exact fin_p2 (by simp only [p_v2, bcode, pcode, ecode, fedP, Bool.and_true, Bool.true_and, Bool.and_false, Bool.false_and, Bool.or_true, Bool.or_false, Bool.true_or, Bool.false_or, Bool.not_true, Bool.not_false, cond_true, cond_false, d0, d0z, d1, d1z, d2, d3] <;> first | rfl | (simp; done)) (by simp only [p_h2, bcode, pcode, ecode, fedP, Bool.and_true, Bool.true_and, Bool.and_false, Bool.false_and, Bool.or_true, Bool.or_false, Bool.true_or, Bool.false_or, Bool.not_true, Bool.not_false, cond_true, cond_false, d0, d0z, d1, d1z, d2, d3] <;> first | rfl | (simp; done)) w (by kernel_rfl)
        ·
          exfalso; simp_all
      ·
        rcases Bool.eq_false_or_eq_true (op == 1) with d3 | d3
        ·
          rcases Bool.eq_false_or_eq_true (!!(feedL (left, low, high, x) at' cbad (toL s)).snd.snd) with d4 | d4
          ·
            have d4z : (feedL (left, low, high, x) at' cbad (toL s)).snd.snd = true := by simpa using d4
            rcases Bool.eq_false_or_eq_true (bad == 0) with d5 | d5
            ·
              have w := p2_w0_5 lim bad op sum begun last lacks left low high x at' cbad s _ rfl d5 d4 ⟨by omega, by omega, by omega⟩ d3 d2 d1 d0
              try simp only [take_ob] at w
              exact fin_p2 (by simp only [p_v2, bcode, pcode, ecode, fedP, Bool.and_true, Bool.true_and, Bool.and_false, Bool.false_and, Bool.or_true, Bool.or_false, Bool.true_or, Bool.false_or, Bool.not_true, Bool.not_false, cond_true, cond_false, d0, d0z, d1, d1z, d2, d3, d4, d4z, d5] <;> first | rfl | (simp; done)) (by simp only [p_h2, bcode, pcode, ecode, fedP, Bool.and_true, Bool.true_and, Bool.and_false, Bool.false_and, Bool.or_true, Bool.or_false, Bool.true_or, Bool.false_or, Bool.not_true, Bool.not_false, cond_true, cond_false, d0, d0z, d1, d1z, d2, d3, d4, d4z, d5] <;> first | rfl | (simp; done)) w (by kernel_rfl)
            ·
              exfalso; simp_all
          ·
            have d4z : (feedL (left, low, high, x) at' cbad (toL s)).snd.snd = false := by simpa using d4
            rcases Bool.eq_false_or_eq_true (decide (slen s = 0)) with d5 | d5
            ·
              have w := p2_w0_7 lim bad op sum begun last lacks left low high x at' cbad s _ rfl d5 d4 ⟨by omega, by omega, by omega⟩ d3 d2 d1 d0
              try simp only [take_ob] at w
              exact fin_p2 (by simp only [p_v2, bcode, pcode, ecode, fedP, Bool.and_true, Bool.true_and, Bool.and_false, Bool.false_and, Bool.or_true, Bool.or_false, Bool.true_or, Bool.false_or, Bool.not_true, Bool.not_false, cond_true, cond_false, d0, d0z, d1, d1z, d2, d3, d4, d4z, d5] <;> first | rfl | (simp; done)) (by simp only [p_h2, bcode, pcode, ecode, fedP, Bool.and_true, Bool.true_and, Bool.and_false, Bool.false_and, Bool.or_true, Bool.or_false, Bool.true_or, Bool.false_or, Bool.not_true, Bool.not_false, cond_true, cond_false, d0, d0z, d1, d1z, d2, d3, d4, d4z, d5] <;> first | rfl | (simp; done)) w (by kernel_rfl)
            ·
              have w := p2_w0_8 lim bad op sum begun last lacks left low high x at' cbad s _ rfl (ob_tf s) (ob_to s) (Nat.le_refl _) (by have := of_decide_eq_false d5; omega) (by omega) (by omega) d5 d4 ⟨by omega, by omega, by omega⟩ d3 d2 d1 d0
              try simp only [take_ob] at w
              exact fin_p2 (by simp only [p_v2, bcode, pcode, ecode, fedP, Bool.and_true, Bool.true_and, Bool.and_false, Bool.false_and, Bool.or_true, Bool.or_false, Bool.true_or, Bool.false_or, Bool.not_true, Bool.not_false, cond_true, cond_false, d0, d0z, d1, d1z, d2, d3, d4, d4z, d5] <;> first | rfl | (simp; done)) (by simp only [p_h2, bcode, pcode, ecode, fedP, Bool.and_true, Bool.true_and, Bool.and_false, Bool.false_and, Bool.or_true, Bool.or_false, Bool.true_or, Bool.false_or, Bool.not_true, Bool.not_false, cond_true, cond_false, d0, d0z, d1, d1z, d2, d3, d4, d4z, d5] <;> first | rfl | (simp; done)) w (by kernel_rfl)
        ·
          rcases Bool.eq_false_or_eq_true (decide (slen s = 0)) with d4 | d4
          ·
            have w := p2_w0_9 lim bad op sum begun last lacks left low high x at' cbad s d4 d3 d2 d1 d0
            try simp only [take_ob] at w
            exact fin_p2 (by simp only [p_v2, bcode, pcode, ecode, fedP, Bool.and_true, Bool.true_and, Bool.and_false, Bool.false_and, Bool.or_true, Bool.or_false, Bool.true_or, Bool.false_or, Bool.not_true, Bool.not_false, cond_true, cond_false, d0, d0z, d1, d1z, d2, d3, d4] <;> first | rfl | (simp; done)) (by simp only [p_h2, bcode, pcode, ecode, fedP, Bool.and_true, Bool.true_and, Bool.and_false, Bool.false_and, Bool.or_true, Bool.or_false, Bool.true_or, Bool.false_or, Bool.not_true, Bool.not_false, cond_true, cond_false, d0, d0z, d1, d1z, d2, d3, d4] <;> first | rfl | (simp; done)) w (by kernel_rfl)
          ·
            have w := p2_w0_10 lim bad op sum begun last lacks left low high x at' cbad s (ob_tf s) (ob_to s) (Nat.le_refl _) (by have := of_decide_eq_false d4; omega) (by omega) (by omega) d4 d3 d2 d1 d0
            try simp only [take_ob] at w
            exact fin_p2 (by simp only [p_v2, bcode, pcode, ecode, fedP, Bool.and_true, Bool.true_and, Bool.and_false, Bool.false_and, Bool.or_true, Bool.or_false, Bool.true_or, Bool.false_or, Bool.not_true, Bool.not_false, cond_true, cond_false, d0, d0z, d1, d1z, d2, d3, d4] <;> first | rfl | (simp; done)) (by simp only [p_h2, bcode, pcode, ecode, fedP, Bool.and_true, Bool.true_and, Bool.and_false, Bool.false_and, Bool.or_true, Bool.or_false, Bool.true_or, Bool.false_or, Bool.not_true, Bool.not_false, cond_true, cond_false, d0, d0z, d1, d1z, d2, d3, d4] <;> first | rfl | (simp; done)) w (by kernel_rfl)

def p_v3 (lim bad : Int) (op sum : Int) (begun last : Bool) (lacks : Int) (bn : Nat) (B : List Value) (left low : Int) (high x at' : Int) (cbad : Bool) (s : ByteArray) : Value := (bif (pcode bad lacks begun s == 0) then (bif ((op == 1) && (fedP op left low high x at' cbad s).2.2) then .int .i64 1007 else .int .i64 0) else .int .i64 (pcode bad lacks begun s))
def p_h3 (lim bad : Int) (op sum : Int) (begun last : Bool) (lacks : Int) (bn : Nat) (B : List Value) (left low : Int) (high x at' : Int) (cbad : Bool) (s : ByteArray) : Heap := (bif (pcode bad lacks begun s == 0) then (bif ((op == 1) && (fedP op left low high x at' cbad s).2.2) then [some (.cells [.int .i64 lim, .bool true, .int .i64 1007, .int .i64 op, .int .i64 sum, .pointer (some ⟨0, 5, none⟩), .slice (some ⟨1, 0, none⟩) bn 0, .pointer (some ⟨2, 0, none⟩), .bool begun, .bool last, .int .i64 lacks] 51 none), some (.cells B 5 (some 1)), some (.cells [.int .i64 (fedP op left low high x at' cbad s).1.1, .int .u8 (fedP op left low high x at' cbad s).1.2.1, .int .u8 (fedP op left low high x at' cbad s).1.2.2.1, .int .i32 (fedP op left low high x at' cbad s).1.2.2.2, .int .i64 (fedP op left low high x at' cbad s).2.1, .bool (fedP op left low high x at' cbad s).2.2] 77 none)] else [some (.cells [.int .i64 lim, .bool true, .int .i64 bad, .int .i64 op, .int .i64 sum, .pointer (some ⟨0, 5, none⟩), .slice (some ⟨3, 0, none⟩) (bn + slen s) 0, .pointer (some ⟨2, 0, none⟩), .bool begun, .bool last, .int .i64 (IntKind.wrap .i64 (lacks - (slen s : Int)))] 51 none), none, some (.cells [.int .i64 (fedP op left low high x at' cbad s).1.1, .int .u8 (fedP op left low high x at' cbad s).1.2.1, .int .u8 (fedP op left low high x at' cbad s).1.2.2.1, .int .i32 (fedP op left low high x at' cbad s).1.2.2.2, .int .i64 (fedP op left low high x at' cbad s).2.1, .bool (fedP op left low high x at' cbad s).2.2] 77 none), some (.cells (B ++ ofBytes s) 5 (some 1))]) else [some (.cells [.int .i64 lim, .bool true, .int .i64 (pcode bad lacks begun s), .int .i64 op, .int .i64 sum, .pointer (some ⟨0, 5, none⟩), .slice (some ⟨1, 0, none⟩) bn 0, .pointer (some ⟨2, 0, none⟩), .bool begun, .bool last, .int .i64 lacks] 51 none), some (.cells B 5 (some 1)), some (.cells [.int .i64 left, .int .u8 low, .int .u8 high, .int .i32 x, .int .i64 at', .bool cbad] 77 none)])
def p_pr3 (lim bad : Int) (op sum : Int) (begun last : Bool) (lacks : Int) (bn : Nat) (B : List Value) (left low : Int) (high x at' : Int) (cbad : Bool) (s : ByteArray) : Prop := (∃ b : ByteArray, slen b = bn ∧ B = ofBytes b) ∧ (0 ≤ at') ∧ (at' ≤ 1000000) ∧ (slen s ≤ 1000000) ∧ (bn ≤ 1000000000)
theorem fin_p3 {lim : Int} {bad : Int} {op : Int} {sum : Int} {begun : Bool} {last : Bool} {lacks : Int} {bn : Nat} {B : List Value} {left : Int} {low : Int} {high : Int} {x : Int} {at' : Int} {cbad : Bool} {s : ByteArray} {v : Value} {h : Heap} (e1 : p_v3 lim bad op sum begun last lacks bn B left low high x at' cbad s = v) (e2 : p_h3 lim bad op sum begun last lacks bn B left low high x at' cbad s = h) (w : AEnds E 14 3 (startC E 14 [.pointer (some ⟨0, 0, none⟩), .string s] [some (.cells [.int .i64 lim, .bool true, .int .i64 bad, .int .i64 op, .int .i64 sum, .pointer (some ⟨0, 5, none⟩), .slice (some ⟨1, 0, none⟩) bn 0, .pointer (some ⟨2, 0, none⟩), .bool begun, .bool last, .int .i64 lacks] 51 none), some (.cells B 5 (some 1)), some (.cells [.int .i64 left, .int .u8 low, .int .u8 high, .int .i32 x, .int .i64 at', .bool cbad] 77 none)]) v h) (hl : Nat.ble 3 h.length = true) : CallOk E 14 [.pointer (some ⟨0, 0, none⟩), .string s] [some (.cells [.int .i64 lim, .bool true, .int .i64 bad, .int .i64 op, .int .i64 sum, .pointer (some ⟨0, 5, none⟩), .slice (some ⟨1, 0, none⟩) bn 0, .pointer (some ⟨2, 0, none⟩), .bool begun, .bool last, .int .i64 lacks] 51 none), some (.cells B 5 (some 1)), some (.cells [.int .i64 left, .int .u8 low, .int .u8 high, .int .i32 x, .int .i64 at', .bool cbad] 77 none)] (p_v3 lim bad op sum begun last lacks bn B left low high x at' cbad s) (p_h3 lim bad op sum begun last lacks bn B left low high x at' cbad s) := by
  rw [e1, e2]
  exact callOk_of_ends w (by kernel_rfl) (Nat.le_of_ble_eq_true hl)
theorem p3_all (lim bad : Int) (op sum : Int) (begun last : Bool) (lacks : Int) (bn : Nat) (B : List Value) (left low : Int) (high x at' : Int) (cbad : Bool) (s : ByteArray) (hp : p_pr3 lim bad op sum begun last lacks bn B left low high x at' cbad s) : CallOk E 14 [.pointer (some ⟨0, 0, none⟩), .string s] [some (.cells [.int .i64 lim, .bool true, .int .i64 bad, .int .i64 op, .int .i64 sum, .pointer (some ⟨0, 5, none⟩), .slice (some ⟨1, 0, none⟩) bn 0, .pointer (some ⟨2, 0, none⟩), .bool begun, .bool last, .int .i64 lacks] 51 none), some (.cells B 5 (some 1)), some (.cells [.int .i64 left, .int .u8 low, .int .u8 high, .int .i32 x, .int .i64 at', .bool cbad] 77 none)] (p_v3 lim bad op sum begun last lacks bn B left low high x at' cbad s) (p_h3 lim bad op sum begun last lacks bn B left low high x at' cbad s) := by
  unfold p_pr3 at hp
  obtain ⟨b, hb1, hb2⟩ := hp.1
  have hT : List.take (bn * 1) (List.drop 0 B) = B := by rw [hb2, List.drop_zero, Nat.mul_one, ← hb1, take_ob]
  have hV : List.take (bn : Int).toNat (List.drop 0 B) = B := by rw [hb2, List.drop_zero, Int.toNat_natCast, ← hb1, take_ob]
  rcases Bool.eq_false_or_eq_true (bad != 0) with d0 | d0
  ·
    have d0z : (bad == 0) = false := by simpa using d0
    have w := p3_w0_0 lim bad op sum begun last lacks bn B left low high x at' cbad s (by rw [hb2]; exact ob_flat b) d0
    try simp only [hT, hV, take_ob] at w
    exact fin_p3 (by simp only [p_v3, bcode, pcode, ecode, fedP, Bool.and_true, Bool.true_and, Bool.and_false, Bool.false_and, Bool.or_true, Bool.or_false, Bool.true_or, Bool.false_or, Bool.not_true, Bool.not_false, cond_true, cond_false, d0, d0z] <;> first | rfl | (simp; done)) (by simp only [p_h3, bcode, pcode, ecode, fedP, Bool.and_true, Bool.true_and, Bool.and_false, Bool.false_and, Bool.or_true, Bool.or_false, Bool.true_or, Bool.false_or, Bool.not_true, Bool.not_false, cond_true, cond_false, d0, d0z] <;> first | rfl | (simp; done)) w (by kernel_rfl)
  ·
    have d0z : (bad == 0) = true := by simpa using d0
    rcases Bool.eq_false_or_eq_true (!begun) with d1 | d1
    ·
      have d1z : (begun) = false := by simpa using d1
      rcases Bool.eq_false_or_eq_true (bad == 0) with d2 | d2
      ·
        have w := p3_w0_1 lim bad op sum begun last lacks bn B left low high x at' cbad s (by rw [hb2]; exact ob_flat b) d2 d1 d0
        try simp only [hT, hV, take_ob] at w
        exact fin_p3 (by simp only [p_v3, bcode, pcode, ecode, fedP, Bool.and_true, Bool.true_and, Bool.and_false, Bool.false_and, Bool.or_true, Bool.or_false, Bool.true_or, Bool.false_or, Bool.not_true, Bool.not_false, cond_true, cond_false, d0, d0z, d1, d1z, d2] <;> first | rfl | (simp; done)) (by simp only [p_h3, bcode, pcode, ecode, fedP, Bool.and_true, Bool.true_and, Bool.and_false, Bool.false_and, Bool.or_true, Bool.or_false, Bool.true_or, Bool.false_or, Bool.not_true, Bool.not_false, cond_true, cond_false, d0, d0z, d1, d1z, d2] <;> first | rfl | (simp; done)) w (by kernel_rfl)
      ·
        exfalso; simp_all
    ·
      have d1z : (begun) = true := by simpa using d1
      rcases Bool.eq_false_or_eq_true (decide (lacks < (↑(slen s) : Int))) with d2 | d2
      ·
        rcases Bool.eq_false_or_eq_true (bad == 0) with d3 | d3
        ·
          have w := p3_w0_3 lim bad op sum begun last lacks bn B left low high x at' cbad s (by rw [hb2]; exact ob_flat b) d3 d2 d1 d0
          try simp only [hT, hV, take_ob] at w
          exact fin_p3 (by simp only [p_v3, bcode, pcode, ecode, fedP, Bool.and_true, Bool.true_and, Bool.and_false, Bool.false_and, Bool.or_true, Bool.or_false, Bool.true_or, Bool.false_or, Bool.not_true, Bool.not_false, cond_true, cond_false, d0, d0z, d1, d1z, d2, d3] <;> first | rfl | (simp; done)) (by simp only [p_h3, bcode, pcode, ecode, fedP, Bool.and_true, Bool.true_and, Bool.and_false, Bool.false_and, Bool.or_true, Bool.or_false, Bool.true_or, Bool.false_or, Bool.not_true, Bool.not_false, cond_true, cond_false, d0, d0z, d1, d1z, d2, d3] <;> first | rfl | (simp; done)) w (by kernel_rfl)
        ·
          exfalso; simp_all
      ·
        rcases Bool.eq_false_or_eq_true (op == 1) with d3 | d3
        ·
          rcases Bool.eq_false_or_eq_true (!!(feedL (left, low, high, x) at' cbad (toL s)).snd.snd) with d4 | d4
          ·
            have d4z : (feedL (left, low, high, x) at' cbad (toL s)).snd.snd = true := by simpa using d4
            rcases Bool.eq_false_or_eq_true (bad == 0) with d5 | d5
            ·
              have w := p3_w0_5 lim bad op sum begun last lacks bn B left low high x at' cbad s _ rfl (by rw [hb2]; exact ob_flat b) d5 d4 ⟨by omega, by omega, by omega⟩ d3 d2 d1 d0
              try simp only [hT, hV, take_ob] at w
              exact fin_p3 (by simp only [p_v3, bcode, pcode, ecode, fedP, Bool.and_true, Bool.true_and, Bool.and_false, Bool.false_and, Bool.or_true, Bool.or_false, Bool.true_or, Bool.false_or, Bool.not_true, Bool.not_false, cond_true, cond_false, d0, d0z, d1, d1z, d2, d3, d4, d4z, d5] <;> first | rfl | (simp; done)) (by simp only [p_h3, bcode, pcode, ecode, fedP, Bool.and_true, Bool.true_and, Bool.and_false, Bool.false_and, Bool.or_true, Bool.or_false, Bool.true_or, Bool.false_or, Bool.not_true, Bool.not_false, cond_true, cond_false, d0, d0z, d1, d1z, d2, d3, d4, d4z, d5] <;> first | rfl | (simp; done)) w (by kernel_rfl)
            ·
              exfalso; simp_all
          ·
            have d4z : (feedL (left, low, high, x) at' cbad (toL s)).snd.snd = false := by simpa using d4
            have w := p3_w0_7 lim bad op sum begun last lacks bn B left low high x at' cbad s _ rfl (by rw [hT, hb2]; exact ob_app b s) (ob_to s) (Nat.le_refl _) (by rw [hb2, ob_len]; omega) (by omega) (by omega) d4 ⟨by omega, by omega, by omega⟩ d3 d2 d1 d0
            try simp only [hT, hV, take_ob] at w
            exact fin_p3 (by simp only [p_v3, bcode, pcode, ecode, fedP, Bool.and_true, Bool.true_and, Bool.and_false, Bool.false_and, Bool.or_true, Bool.or_false, Bool.true_or, Bool.false_or, Bool.not_true, Bool.not_false, cond_true, cond_false, d0, d0z, d1, d1z, d2, d3, d4, d4z] <;> first | rfl | (simp; done)) (by simp only [p_h3, bcode, pcode, ecode, fedP, Bool.and_true, Bool.true_and, Bool.and_false, Bool.false_and, Bool.or_true, Bool.or_false, Bool.true_or, Bool.false_or, Bool.not_true, Bool.not_false, cond_true, cond_false, d0, d0z, d1, d1z, d2, d3, d4, d4z] <;> first | rfl | (simp; done)) w (by kernel_rfl)
        ·
          have w := p3_w0_8 lim bad op sum begun last lacks bn B left low high x at' cbad s (by rw [hT, hb2]; exact ob_app b s) (ob_to s) (Nat.le_refl _) (by rw [hb2, ob_len]; omega) (by omega) (by omega) d3 d2 d1 d0
          try simp only [hT, hV, take_ob] at w
          exact fin_p3 (by simp only [p_v3, bcode, pcode, ecode, fedP, Bool.and_true, Bool.true_and, Bool.and_false, Bool.false_and, Bool.or_true, Bool.or_false, Bool.true_or, Bool.false_or, Bool.not_true, Bool.not_false, cond_true, cond_false, d0, d0z, d1, d1z, d2, d3] <;> first | rfl | (simp; done)) (by simp only [p_h3, bcode, pcode, ecode, fedP, Bool.and_true, Bool.true_and, Bool.and_false, Bool.false_and, Bool.or_true, Bool.or_false, Bool.true_or, Bool.false_or, Bool.not_true, Bool.not_false, cond_true, cond_false, d0, d0z, d1, d1z, d2, d3] <;> first | rfl | (simp; done)) w (by kernel_rfl)


end Go.Proofs.Ytgaedhpeiamdfaa
