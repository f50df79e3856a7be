/-
  A joiner of frames: what Begin does, by the shapes of its memory, and by what comes of it.
-/
import Derived.Test.YtgaedhpeiamdfaaMessageJ0
import Derived.Test.YtgaedhpeiamdfaaMessageJ
set_option linter.unusedVariables false
set_option linter.unusedSimpArgs false
set_option maxRecDepth 10000
open Go Go.Am
namespace Go.Proofs.Ytgaedhpeiamdfaa

def b_v0 (lim bad : Int) (op sum : Int) (begun last : Bool) (lacks : Int) (l : Bool) (o n : Int) : Value := (bif (bcode lim bad op sum begun o n == 0) then (bif (o == 0) then .int .i64 0 else .int .i64 0) else .int .i64 (bcode lim bad op sum begun o n))
def b_h0 (lim bad : Int) (op sum : Int) (begun last : Bool) (lacks : Int) (l : Bool) (o n : Int) : Heap := (bif (bcode lim bad op sum begun o n == 0) then (bif (o == 0) then [some (.cells [.int .i64 lim, .bool true, .int .i64 bad, .int .i64 op, .int .i64 (IntKind.wrap .i64 (sum + n)), .pointer none, .slice none 0 0, .pointer none, .bool true, .bool l, .int .i64 n] 51 none)] else [some (.cells [.int .i64 lim, .bool true, .int .i64 bad, .int .i64 o, .int .i64 (IntKind.wrap .i64 (sum + n)), .pointer none, .slice none 0 0, .pointer (some ⟨1, 0, none⟩), .bool true, .bool l, .int .i64 n] 51 none), some (.cells [.int .i64 0, .int .u8 0, .int .u8 0, .int .i32 0, .int .i64 0, .bool false] 77 none)]) else [some (.cells [.int .i64 lim, .bool true, .int .i64 (bcode lim bad op sum begun o n), .int .i64 op, .int .i64 sum, .pointer none, .slice none 0 0, .pointer none, .bool begun, .bool last, .int .i64 lacks] 51 none)])
def b_pr0 (lim bad : Int) (op sum : Int) (begun last : Bool) (lacks : Int) (l : Bool) (o n : Int) : Prop := True
theorem fin_b0 {lim : Int} {bad : Int} {op : Int} {sum : Int} {begun : Bool} {last : Bool} {lacks : Int} {l : Bool} {o : Int} {n : Int} {v : Value} {h : Heap} (e1 : b_v0 lim bad op sum begun last lacks l o n = v) (e2 : b_h0 lim bad op sum begun last lacks l o n = h) (w : AEnds E 12 1 (startC E 12 [.pointer (some ⟨0, 0, none⟩), .bool l, .int .i64 o, .int .i64 n] [some (.cells [.int .i64 lim, .bool true, .int .i64 bad, .int .i64 op, .int .i64 sum, .pointer none, .slice none 0 0, .pointer none, .bool begun, .bool last, .int .i64 lacks] 51 none)]) v h) (hl : Nat.ble 1 h.length = true) : CallOk E 12 [.pointer (some ⟨0, 0, none⟩), .bool l, .int .i64 o, .int .i64 n] [some (.cells [.int .i64 lim, .bool true, .int .i64 bad, .int .i64 op, .int .i64 sum, .pointer none, .slice none 0 0, .pointer none, .bool begun, .bool last, .int .i64 lacks] 51 none)] (b_v0 lim bad op sum begun last lacks l o n) (b_h0 lim bad op sum begun last lacks l o n) := by
  rw [e1, e2]
  exact callOk_of_ends w (by kernel_rfl) (Nat.le_of_ble_eq_true hl)
theorem b0_all (lim bad : Int) (op sum : Int) (begun last : Bool) (lacks : Int) (l : Bool) (o n : Int) (hp : b_pr0 lim bad op sum begun last lacks l o n) : CallOk E 12 [.pointer (some ⟨0, 0, none⟩), .bool l, .int .i64 o, .int .i64 n] [some (.cells [.int .i64 lim, .bool true, .int .i64 bad, .int .i64 op, .int .i64 sum, .pointer none, .slice none 0 0, .pointer none, .bool begun, .bool last, .int .i64 lacks] 51 none)] (b_v0 lim bad op sum begun last lacks l o n) (b_h0 lim bad op sum begun last lacks l o n) := by
  unfold b_pr0 at hp
  rcases Bool.eq_false_or_eq_true (bad != 0) with d0 | d0
  ·
    have d0z : (bad == 0) = false := by simpa using d0
    have w := b0_w0_0 lim bad op sum begun last lacks l o n d0
    exact fin_b0 (by simp only [b_v0, bcode, pcode, ecode, fedP, Bool.and_true, Bool.true_and, Bool.and_false, Bool.false_and, Bool.or_true, Bool.or_false, Bool.true_or, Bool.false_or, Bool.not_true, Bool.not_false, cond_true, cond_false, d0, d0z] <;> first | rfl | (simp; done)) (by simp only [b_h0, bcode, pcode, ecode, fedP, Bool.and_true, Bool.true_and, Bool.and_false, Bool.false_and, Bool.or_true, Bool.or_false, Bool.true_or, Bool.false_or, Bool.not_true, Bool.not_false, cond_true, cond_false, d0, d0z] <;> first | rfl | (simp; done)) w (by kernel_rfl)
  ·
    have d0z : (bad == 0) = true := by simpa using d0
    rcases Bool.eq_false_or_eq_true begun with d1 | d1
    ·
      rcases Bool.eq_false_or_eq_true (bad == 0) with d2 | d2
      ·
        have w := b0_w0_1 lim bad op sum begun last lacks l o n d2 d1 d0
        exact fin_b0 (by simp only [b_v0, bcode, pcode, ecode, fedP, Bool.and_true, Bool.true_and, Bool.and_false, Bool.false_and, Bool.or_true, Bool.or_false, Bool.true_or, Bool.false_or, Bool.not_true, Bool.not_false, cond_true, cond_false, d0, d0z, d1, d2] <;> first | rfl | (simp; done)) (by simp only [b_h0, bcode, pcode, ecode, fedP, Bool.and_true, Bool.true_and, Bool.and_false, Bool.false_and, Bool.or_true, Bool.or_false, Bool.true_or, Bool.false_or, Bool.not_true, Bool.not_false, cond_true, cond_false, d0, d0z, d1, d2] <;> first | rfl | (simp; done)) w (by kernel_rfl)
      ·
        exfalso; simp_all
    ·
      rcases Bool.eq_false_or_eq_true (decide (n < 0)) with d2 | d2
      ·
        rcases Bool.eq_false_or_eq_true (bad == 0) with d3 | d3
        ·
          have w := b0_w0_3 lim bad op sum begun last lacks l o n d3 d2 d1 d0
          exact fin_b0 (by simp only [b_v0, bcode, pcode, ecode, fedP, Bool.and_true, Bool.true_and, Bool.and_false, Bool.false_and, Bool.or_true, Bool.or_false, Bool.true_or, Bool.false_or, Bool.not_true, Bool.not_false, cond_true, cond_false, d0, d0z, d1, d2, d3] <;> first | rfl | (simp; done)) (by simp only [b_h0, bcode, pcode, ecode, fedP, Bool.and_true, Bool.true_and, Bool.and_false, Bool.false_and, Bool.or_true, Bool.or_false, Bool.true_or, Bool.false_or, Bool.not_true, Bool.not_false, cond_true, cond_false, d0, d0z, d1, d2, d3] <;> first | rfl | (simp; done)) w (by kernel_rfl)
        ·
          exfalso; simp_all
      ·
        rcases Bool.eq_false_or_eq_true (o != 0) with d3 | d3
        ·
          have d3z : (o == 0) = false := by simpa using d3
          rcases Bool.eq_false_or_eq_true (o != 1) with d4 | d4
          ·
            rcases Bool.eq_false_or_eq_true (o != 2) with d5 | d5
            ·
              rcases Bool.eq_false_or_eq_true (bad == 0) with d6 | d6
              ·
                have w := b0_w0_5 lim bad op sum begun last lacks l o n d6 d5 d4 d3 d2 d1 d0
                exact fin_b0 (by simp only [b_v0, bcode, pcode, ecode, fedP, Bool.and_true, Bool.true_and, Bool.and_false, Bool.false_and, Bool.or_true, Bool.or_false, Bool.true_or, Bool.false_or, Bool.not_true, Bool.not_false, cond_true, cond_false, d0, d0z, d1, d2, d3, d3z, d4, d5, d6] <;> first | rfl | (simp; done)) (by simp only [b_h0, bcode, pcode, ecode, fedP, Bool.and_true, Bool.true_and, Bool.and_false, Bool.false_and, Bool.or_true, Bool.or_false, Bool.true_or, Bool.false_or, Bool.not_true, Bool.not_false, cond_true, cond_false, d0, d0z, d1, d2, d3, d3z, d4, d5, d6] <;> first | rfl | (simp; done)) w (by kernel_rfl)
              ·
                exfalso; simp_all
            ·
              rcases Bool.eq_false_or_eq_true (!(o == 0) == (op != 0)) with d6 | d6
              ·
                have d6z : bop o op = true := d6
                rcases Bool.eq_false_or_eq_true (bad == 0) with d7 | d7
                ·
                  have w := b0_w0_7 lim bad op sum begun last lacks l o n d7 d6 d5 d4 d3 d2 d1 d0
                  exact fin_b0 (by simp only [b_v0, bcode, pcode, ecode, fedP, Bool.and_true, Bool.true_and, Bool.and_false, Bool.false_and, Bool.or_true, Bool.or_false, Bool.true_or, Bool.false_or, Bool.not_true, Bool.not_false, cond_true, cond_false, d0, d0z, d1, d2, d3, d3z, d4, d5, d6z, d7] <;> first | rfl | (simp; done)) (by simp only [b_h0, bcode, pcode, ecode, fedP, Bool.and_true, Bool.true_and, Bool.and_false, Bool.false_and, Bool.or_true, Bool.or_false, Bool.true_or, Bool.false_or, Bool.not_true, Bool.not_false, cond_true, cond_false, d0, d0z, d1, d2, d3, d3z, d4, d5, d6z, d7] <;> first | rfl | (simp; done)) w (by kernel_rfl)
                ·
                  exfalso; simp_all
              ·
                have d6z : bop o op = false := d6
                rcases Bool.eq_false_or_eq_true (decide (IntKind.i64.wrap (lim - sum) < n)) with d7 | d7
                ·
                  rcases Bool.eq_false_or_eq_true (bad == 0) with d8 | d8
                  ·
                    have w := b0_w0_9 lim bad op sum begun last lacks l o n d8 d7 d6 d5 d4 d3 d2 d1 d0
                    exact fin_b0 (by simp only [b_v0, bcode, pcode, ecode, fedP, Bool.and_true, Bool.true_and, Bool.and_false, Bool.false_and, Bool.or_true, Bool.or_false, Bool.true_or, Bool.false_or, Bool.not_true, Bool.not_false, cond_true, cond_false, d0, d0z, d1, d2, d3, d3z, d4, d5, d6z, d7, d8] <;> first | rfl | (simp; done)) (by simp only [b_h0, bcode, pcode, ecode, fedP, Bool.and_true, Bool.true_and, Bool.and_false, Bool.false_and, Bool.or_true, Bool.or_false, Bool.true_or, Bool.false_or, Bool.not_true, Bool.not_false, cond_true, cond_false, d0, d0z, d1, d2, d3, d3z, d4, d5, d6z, d7, d8] <;> first | rfl | (simp; done)) w (by kernel_rfl)
                  ·
                    exfalso; simp_all
                ·
                  have w := b0_w0_11 lim bad op sum begun last lacks l o n d3 d7 d6 d5 d4 d2 d1 d0
                  exact fin_b0 (by simp only [b_v0, bcode, pcode, ecode, fedP, Bool.and_true, Bool.true_and, Bool.and_false, Bool.false_and, Bool.or_true, Bool.or_false, Bool.true_or, Bool.false_or, Bool.not_true, Bool.not_false, cond_true, cond_false, d0, d0z, d1, d2, d3, d3z, d4, d5, d6z, d7] <;> first | rfl | (simp; done)) (by simp only [b_h0, bcode, pcode, ecode, fedP, Bool.and_true, Bool.true_and, Bool.and_false, Bool.false_and, Bool.or_true, Bool.or_false, Bool.true_or, Bool.false_or, Bool.not_true, Bool.not_false, cond_true, cond_false, d0, d0z, d1, d2, d3, d3z, d4, d5, d6z, d7] <;> first | rfl | (simp; done)) w (by kernel_rfl)
          ·
            rcases Bool.eq_false_or_eq_true (!(o == 0) == (op != 0)) with d5 | d5
            ·
              have d5z : bop o op = true := d5
              rcases Bool.eq_false_or_eq_true (bad == 0) with d6 | d6
              ·
                have w := b0_w0_12 lim bad op sum begun last lacks l o n d6 d5 d4 d3 d2 d1 d0
                exact fin_b0 (by simp only [b_v0, bcode, pcode, ecode, fedP, Bool.and_true, Bool.true_and, Bool.and_false, Bool.false_and, Bool.or_true, Bool.or_false, Bool.true_or, Bool.false_or, Bool.not_true, Bool.not_false, cond_true, cond_false, d0, d0z, d1, d2, d3, d3z, d4, d5z, d6] <;> first | rfl | (simp; done)) (by simp only [b_h0, bcode, pcode, ecode, fedP, Bool.and_true, Bool.true_and, Bool.and_false, Bool.false_and, Bool.or_true, Bool.or_false, Bool.true_or, Bool.false_or, Bool.not_true, Bool.not_false, cond_true, cond_false, d0, d0z, d1, d2, d3, d3z, d4, d5z, d6] <;> first | rfl | (simp; done)) w (by kernel_rfl)
              ·
                exfalso; simp_all
            ·
              have d5z : bop o op = false := d5
              rcases Bool.eq_false_or_eq_true (decide (IntKind.i64.wrap (lim - sum) < n)) with d6 | d6
              ·
                rcases Bool.eq_false_or_eq_true (bad == 0) with d7 | d7
                ·
                  have w := b0_w0_14 lim bad op sum begun last lacks l o n d7 d6 d5 d4 d3 d2 d1 d0
                  exact fin_b0 (by simp only [b_v0, bcode, pcode, ecode, fedP, Bool.and_true, Bool.true_and, Bool.and_false, Bool.false_and, Bool.or_true, Bool.or_false, Bool.true_or, Bool.false_or, Bool.not_true, Bool.not_false, cond_true, cond_false, d0, d0z, d1, d2, d3, d3z, d4, d5z, d6, d7] <;> first | rfl | (simp; done)) (by simp only [b_h0, bcode, pcode, ecode, fedP, Bool.and_true, Bool.true_and, Bool.and_false, Bool.false_and, Bool.or_true, Bool.or_false, Bool.true_or, Bool.false_or, Bool.not_true, Bool.not_false, cond_true, cond_false, d0, d0z, d1, d2, d3, d3z, d4, d5z, d6, d7] <;> first | rfl | (simp; done)) w (by kernel_rfl)
                ·
                  exfalso; simp_all
              ·
                have w := b0_w0_16 lim bad op sum begun last lacks l o n d3 d6 d5 d4 d2 d1 d0
                exact fin_b0 (by simp only [b_v0, bcode, pcode, ecode, fedP, Bool.and_true, Bool.true_and, Bool.and_false, Bool.false_and, Bool.or_true, Bool.or_false, Bool.true_or, Bool.false_or, Bool.not_true, Bool.not_false, cond_true, cond_false, d0, d0z, d1, d2, d3, d3z, d4, d5z, d6] <;> first | rfl | (simp; done)) (by simp only [b_h0, bcode, pcode, ecode, fedP, Bool.and_true, Bool.true_and, Bool.and_false, Bool.false_and, Bool.or_true, Bool.or_false, Bool.true_or, Bool.false_or, Bool.not_true, Bool.not_false, cond_true, cond_false, d0, d0z, d1, d2, d3, d3z, d4, d5z, d6] <;> first | rfl | (simp; done)) w (by kernel_rfl)
        ·
          have d3z : (o == 0) = true := by simpa using d3
          rcases Bool.eq_false_or_eq_true (!(o == 0) == (op != 0)) with d4 | d4
          ·
            have d4z : bop o op = true := d4
            rcases Bool.eq_false_or_eq_true (bad == 0) with d5 | d5
            ·
              have w := b0_w0_17 lim bad op sum begun last lacks l o n d5 d4 d3 d2 d1 d0
              exact fin_b0 (by simp only [b_v0, bcode, pcode, ecode, fedP, Bool.and_true, Bool.true_and, Bool.and_false, Bool.false_and, Bool.or_true, Bool.or_false, Bool.true_or, Bool.false_or, Bool.not_true, Bool.not_false, cond_true, cond_false, d0, d0z, d1, d2, d3, d3z, d4z, d5] <;> first | rfl | (simp; done)) (by simp only [b_h0, bcode, pcode, ecode, fedP, Bool.and_true, Bool.true_and, Bool.and_false, Bool.false_and, Bool.or_true, Bool.or_false, Bool.true_or, Bool.false_or, Bool.not_true, Bool.not_false, cond_true, cond_false, d0, d0z, d1, d2, d3, d3z, d4z, d5] <;> first | rfl | (simp; done)) w (by kernel_rfl)
            ·
              exfalso; simp_all
          ·
            have d4z : bop o op = false := d4
            rcases Bool.eq_false_or_eq_true (decide (IntKind.i64.wrap (lim - sum) < n)) with d5 | d5
            ·
              rcases Bool.eq_false_or_eq_true (bad == 0) with d6 | d6
              ·
                have w := b0_w0_19 lim bad op sum begun last lacks l o n d6 d5 d4 d3 d2 d1 d0
                exact fin_b0 (by simp only [b_v0, bcode, pcode, ecode, fedP, Bool.and_true, Bool.true_and, Bool.and_false, Bool.false_and, Bool.or_true, Bool.or_false, Bool.true_or, Bool.false_or, Bool.not_true, Bool.not_false, cond_true, cond_false, d0, d0z, d1, d2, d3, d3z, d4z, d5, d6] <;> first | rfl | (simp; done)) (by simp only [b_h0, bcode, pcode, ecode, fedP, Bool.and_true, Bool.true_and, Bool.and_false, Bool.false_and, Bool.or_true, Bool.or_false, Bool.true_or, Bool.false_or, Bool.not_true, Bool.not_false, cond_true, cond_false, d0, d0z, d1, d2, d3, d3z, d4z, d5, d6] <;> first | rfl | (simp; done)) w (by kernel_rfl)
              ·
                exfalso; simp_all
            ·
              have w := b0_w0_21 lim bad op sum begun last lacks l o n d3 d5 d4 d2 d1 d0
              exact fin_b0 (by simp only [b_v0, bcode, pcode, ecode, fedP, Bool.and_true, Bool.true_and, Bool.and_false, Bool.false_and, Bool.or_true, Bool.or_false, Bool.true_or, Bool.false_or, Bool.not_true, Bool.not_false, cond_true, cond_false, d0, d0z, d1, d2, d3, d3z, d4z, d5] <;> first | rfl | (simp; done)) (by simp only [b_h0, bcode, pcode, ecode, fedP, Bool.and_true, Bool.true_and, Bool.and_false, Bool.false_and, Bool.or_true, Bool.or_false, Bool.true_or, Bool.false_or, Bool.not_true, Bool.not_false, cond_true, cond_false, d0, d0z, d1, d2, d3, d3z, d4z, d5] <;> first | rfl | (simp; done)) w (by kernel_rfl)

def b_v1 (lim bad : Int) (op sum : Int) (begun last : Bool) (lacks left : Int) (low high : Int) (x at' : Int) (cbad l : Bool) (o n : Int) : Value := (bif (bcode lim bad op sum begun o n == 0) then (bif (o == 0) then .int .i64 0 else .int .i64 0) else .int .i64 (bcode lim bad op sum begun o n))
def b_h1 (lim bad : Int) (op sum : Int) (begun last : Bool) (lacks left : Int) (low high : Int) (x at' : Int) (cbad l : Bool) (o n : Int) : Heap := (bif (bcode lim bad op sum begun o n == 0) then (bif (o == 0) then [some (.cells [.int .i64 lim, .bool true, .int .i64 bad, .int .i64 op, .int .i64 (IntKind.wrap .i64 (sum + n)), .pointer none, .slice none 0 0, .pointer (some ⟨1, 0, none⟩), .bool true, .bool l, .int .i64 n] 51 none), some (.cells [.int .i64 left, .int .u8 low, .int .u8 high, .int .i32 x, .int .i64 at', .bool cbad] 77 none)] else [some (.cells [.int .i64 lim, .bool true, .int .i64 bad, .int .i64 o, .int .i64 (IntKind.wrap .i64 (sum + n)), .pointer none, .slice none 0 0, .pointer (some ⟨2, 0, none⟩), .bool true, .bool l, .int .i64 n] 51 none), some (.cells [.int .i64 left, .int .u8 low, .int .u8 high, .int .i32 x, .int .i64 at', .bool cbad] 77 none), some (.cells [.int .i64 0, .int .u8 0, .int .u8 0, .int .i32 0, .int .i64 0, .bool false] 77 none)]) else [some (.cells [.int .i64 lim, .bool true, .int .i64 (bcode lim bad op sum begun o n), .int .i64 op, .int .i64 sum, .pointer none, .slice none 0 0, .pointer (some ⟨1, 0, none⟩), .bool begun, .bool last, .int .i64 lacks] 51 none), some (.cells [.int .i64 left, .int .u8 low, .int .u8 high, .int .i32 x, .int .i64 at', .bool cbad] 77 none)])
def b_pr1 (lim bad : Int) (op sum : Int) (begun last : Bool) (lacks left : Int) (low high : Int) (x at' : Int) (cbad l : Bool) (o n : Int) : Prop := True
theorem fin_b1 {lim : Int} {bad : Int} {op : Int} {sum : Int} {begun : Bool} {last : Bool} {lacks : Int} {left : Int} {low : Int} {high : Int} {x : Int} {at' : Int} {cbad : Bool} {l : Bool} {o : Int} {n : Int} {v : Value} {h : Heap} (e1 : b_v1 lim bad op sum begun last lacks left low high x at' cbad l o n = v) (e2 : b_h1 lim bad op sum begun last lacks left low high x at' cbad l o n = h) (w : AEnds E 12 2 (startC E 12 [.pointer (some ⟨0, 0, none⟩), .bool l, .int .i64 o, .int .i64 n] [some (.cells [.int .i64 lim, .bool true, .int .i64 bad, .int .i64 op, .int .i64 sum, .pointer none, .slice none 0 0, .pointer (some ⟨1, 0, none⟩), .bool begun, .bool last, .int .i64 lacks] 51 none), some (.cells [.int .i64 left, .int .u8 low, .int .u8 high, .int .i32 x, .int .i64 at', .bool cbad] 77 none)]) v h) (hl : Nat.ble 2 h.length = true) : CallOk E 12 [.pointer (some ⟨0, 0, none⟩), .bool l, .int .i64 o, .int .i64 n] [some (.cells [.int .i64 lim, .bool true, .int .i64 bad, .int .i64 op, .int .i64 sum, .pointer none, .slice none 0 0, .pointer (some ⟨1, 0, none⟩), .bool begun, .bool last, .int .i64 lacks] 51 none), some (.cells [.int .i64 left, .int .u8 low, .int .u8 high, .int .i32 x, .int .i64 at', .bool cbad] 77 none)] (b_v1 lim bad op sum begun last lacks left low high x at' cbad l o n) (b_h1 lim bad op sum begun last lacks left low high x at' cbad l o n) := by
  rw [e1, e2]
  exact callOk_of_ends w (by kernel_rfl) (Nat.le_of_ble_eq_true hl)
theorem b1_all (lim bad : Int) (op sum : Int) (begun last : Bool) (lacks left : Int) (low high : Int) (x at' : Int) (cbad l : Bool) (o n : Int) (hp : b_pr1 lim bad op sum begun last lacks left low high x at' cbad l o n) : CallOk E 12 [.pointer (some ⟨0, 0, none⟩), .bool l, .int .i64 o, .int .i64 n] [some (.cells [.int .i64 lim, .bool true, .int .i64 bad, .int .i64 op, .int .i64 sum, .pointer none, .slice none 0 0, .pointer (some ⟨1, 0, none⟩), .bool begun, .bool last, .int .i64 lacks] 51 none), some (.cells [.int .i64 left, .int .u8 low, .int .u8 high, .int .i32 x, .int .i64 at', .bool cbad] 77 none)] (b_v1 lim bad op sum begun last lacks left low high x at' cbad l o n) (b_h1 lim bad op sum begun last lacks left low high x at' cbad l o n) := by
  unfold b_pr1 at hp
  rcases Bool.eq_false_or_eq_true (bad != 0) with d0 | d0
  ·
    have d0z : (bad == 0) = false := by simpa using d0
    have w := b1_w0_0 lim bad op sum begun last lacks left low high x at' cbad l o n d0
    exact fin_b1 (by simp only [b_v1, bcode, pcode, ecode, fedP, Bool.and_true, Bool.true_and, Bool.and_false, Bool.false_and, Bool.or_true, Bool.or_false, Bool.true_or, Bool.false_or, Bool.not_true, Bool.not_false, cond_true, cond_false, d0, d0z] <;> first | rfl | (simp; done)) (by simp only [b_h1, bcode, pcode, ecode, fedP, Bool.and_true, Bool.true_and, Bool.and_false, Bool.false_and, Bool.or_true, Bool.or_false, Bool.true_or, Bool.false_or, Bool.not_true, Bool.not_false, cond_true, cond_false, d0, d0z] <;> first | rfl | (simp; done)) w (by kernel_rfl)
  ·
    have d0z : (bad == 0) = true := by simpa using d0
    rcases Bool.eq_false_or_eq_true begun with d1 | d1
    ·
      rcases Bool.eq_false_or_eq_true (bad == 0) with d2 | d2
      ·
        have w := b1_w0_1 lim bad op sum begun last lacks left low high x at' cbad l o n d2 d1 d0
        exact fin_b1 (by simp only [b_v1, bcode, pcode, ecode, fedP, Bool.and_true, Bool.true_and, Bool.and_false, Bool.false_and, Bool.or_true, Bool.or_false, Bool.true_or, Bool.false_or, Bool.not_true, Bool.not_false, cond_true, cond_false, d0, d0z, d1, d2] <;> first | rfl | (simp; done)) (by simp only [b_h1, bcode, pcode, ecode, fedP, Bool.and_true, Bool.true_and, Bool.and_false, Bool.false_and, Bool.or_true, Bool.or_false, Bool.true_or, Bool.false_or, Bool.not_true, Bool.not_false, cond_true, cond_false, d0, d0z, d1, d2] <;> first | rfl | (simp; done)) w (by kernel_rfl)
      ·
        exfalso; simp_all
    ·
      rcases Bool.eq_false_or_eq_true (decide (n < 0)) with d2 | d2
      ·
        rcases Bool.eq_false_or_eq_true (bad == 0) with d3 | d3
        ·
          have w := b1_w0_3 lim bad op sum begun last lacks left low high x at' cbad l o n d3 d2 d1 d0
          exact fin_b1 (by simp only [b_v1, bcode, pcode, ecode, fedP, Bool.and_true, Bool.true_and, Bool.and_false, Bool.false_and, Bool.or_true, Bool.or_false, Bool.true_or, Bool.false_or, Bool.not_true, Bool.not_false, cond_true, cond_false, d0, d0z, d1, d2, d3] <;> first | rfl | (simp; done)) (by simp only [b_h1, bcode, pcode, ecode, fedP, Bool.and_true, Bool.true_and, Bool.and_false, Bool.false_and, Bool.or_true, Bool.or_false, Bool.true_or, Bool.false_or, Bool.not_true, Bool.not_false, cond_true, cond_false, d0, d0z, d1, d2, d3] <;> first | rfl | (simp; done)) w (by kernel_rfl)
        ·
          exfalso; simp_all
      ·
        rcases Bool.eq_false_or_eq_true (o != 0) with d3 | d3
        ·
          have d3z : (o == 0) = false := by simpa using d3
          rcases Bool.eq_false_or_eq_true (o != 1) with d4 | d4
          ·
            rcases Bool.eq_false_or_eq_true (o != 2) with d5 | d5
            ·
              rcases Bool.eq_false_or_eq_true (bad == 0) with d6 | d6
              ·
                have w := b1_w0_5 lim bad op sum begun last lacks left low high x at' cbad l o n d6 d5 d4 d3 d2 d1 d0
                exact fin_b1 (by simp only [b_v1, bcode, pcode, ecode, fedP, Bool.and_true, Bool.true_and, Bool.and_false, Bool.false_and, Bool.or_true, Bool.or_false, Bool.true_or, Bool.false_or, Bool.not_true, Bool.not_false, cond_true, cond_false, d0, d0z, d1, d2, d3, d3z, d4, d5, d6] <;> first | rfl | (simp; done)) (by simp only [b_h1, bcode, pcode, ecode, fedP, Bool.and_true, Bool.true_and, Bool.and_false, Bool.false_and, Bool.or_true, Bool.or_false, Bool.true_or, Bool.false_or, Bool.not_true, Bool.not_false, cond_true, cond_false, d0, d0z, d1, d2, d3, d3z, d4, d5, d6] <;> first | rfl | (simp; done)) w (by kernel_rfl)
              ·
                exfalso; simp_all
            ·
              rcases Bool.eq_false_or_eq_true (!(o == 0) == (op != 0)) with d6 | d6
              ·
                have d6z : bop o op = true := d6
                rcases Bool.eq_false_or_eq_true (bad == 0) with d7 | d7
                ·
                  have w := b1_w0_7 lim bad op sum begun last lacks left low high x at' cbad l o n d7 d6 d5 d4 d3 d2 d1 d0
                  exact fin_b1 (by simp only [b_v1, bcode, pcode, ecode, fedP, Bool.and_true, Bool.true_and, Bool.and_false, Bool.false_and, Bool.or_true, Bool.or_false, Bool.true_or, Bool.false_or, Bool.not_true, Bool.not_false, cond_true, cond_false, d0, d0z, d1, d2, d3, d3z, d4, d5, d6z, d7] <;> first | rfl | (simp; done)) (by simp only [b_h1, bcode, pcode, ecode, fedP, Bool.and_true, Bool.true_and, Bool.and_false, Bool.false_and, Bool.or_true, Bool.or_false, Bool.true_or, Bool.false_or, Bool.not_true, Bool.not_false, cond_true, cond_false, d0, d0z, d1, d2, d3, d3z, d4, d5, d6z, d7] <;> first | rfl | (simp; done)) w (by kernel_rfl)
                ·
                  exfalso; simp_all
              ·
                have d6z : bop o op = false := d6
                rcases Bool.eq_false_or_eq_true (decide (IntKind.i64.wrap (lim - sum) < n)) with d7 | d7
                ·
                  rcases Bool.eq_false_or_eq_true (bad == 0) with d8 | d8
                  ·
                    have w := b1_w0_9 lim bad op sum begun last lacks left low high x at' cbad l o n d8 d7 d6 d5 d4 d3 d2 d1 d0
                    exact fin_b1 (by simp only [b_v1, bcode, pcode, ecode, fedP, Bool.and_true, Bool.true_and, Bool.and_false, Bool.false_and, Bool.or_true, Bool.or_false, Bool.true_or, Bool.false_or, Bool.not_true, Bool.not_false, cond_true, cond_false, d0, d0z, d1, d2, d3, d3z, d4, d5, d6z, d7, d8] <;> first | rfl | (simp; done)) (by simp only [b_h1, bcode, pcode, ecode, fedP, Bool.and_true, Bool.true_and, Bool.and_false, Bool.false_and, Bool.or_true, Bool.or_false, Bool.true_or, Bool.false_or, Bool.not_true, Bool.not_false, cond_true, cond_false, d0, d0z, d1, d2, d3, d3z, d4, d5, d6z, d7, d8] <;> first | rfl | (simp; done)) w (by kernel_rfl)
                  ·
                    exfalso; simp_all
                ·
                  have w := b1_w0_11 lim bad op sum begun last lacks left low high x at' cbad l o n d3 d7 d6 d5 d4 d2 d1 d0
                  exact fin_b1 (by simp only [b_v1, bcode, pcode, ecode, fedP, Bool.and_true, Bool.true_and, Bool.and_false, Bool.false_and, Bool.or_true, Bool.or_false, Bool.true_or, Bool.false_or, Bool.not_true, Bool.not_false, cond_true, cond_false, d0, d0z, d1, d2, d3, d3z, d4, d5, d6z, d7] <;> first | rfl | (simp; done)) (by simp only [b_h1, bcode, pcode, ecode, fedP, Bool.and_true, Bool.true_and, Bool.and_false, Bool.false_and, Bool.or_true, Bool.or_false, Bool.true_or, Bool.false_or, Bool.not_true, Bool.not_false, cond_true, cond_false, d0, d0z, d1, d2, d3, d3z, d4, d5, d6z, d7] <;> first | rfl | (simp; done)) w (by kernel_rfl)
          ·
            rcases Bool.eq_false_or_eq_true (!(o == 0) == (op != 0)) with d5 | d5
            ·
              have d5z : bop o op = true := d5
              rcases Bool.eq_false_or_eq_true (bad == 0) with d6 | d6
              ·
                have w := b1_w0_12 lim bad op sum begun last lacks left low high x at' cbad l o n d6 d5 d4 d3 d2 d1 d0
                exact fin_b1 (by simp only [b_v1, bcode, pcode, ecode, fedP, Bool.and_true, Bool.true_and, Bool.and_false, Bool.false_and, Bool.or_true, Bool.or_false, Bool.true_or, Bool.false_or, Bool.not_true, Bool.not_false, cond_true, cond_false, d0, d0z, d1, d2, d3, d3z, d4, d5z, d6] <;> first | rfl | (simp; done)) (by simp only [b_h1, bcode, pcode, ecode, fedP, Bool.and_true, Bool.true_and, Bool.and_false, Bool.false_and, Bool.or_true, Bool.or_false, Bool.true_or, Bool.false_or, Bool.not_true, Bool.not_false, cond_true, cond_false, d0, d0z, d1, d2, d3, d3z, d4, d5z, d6] <;> first | rfl | (simp; done)) w (by kernel_rfl)
              ·
                exfalso; simp_all
            ·
              have d5z : bop o op = false := d5
              rcases Bool.eq_false_or_eq_true (decide (IntKind.i64.wrap (lim - sum) < n)) with d6 | d6
              ·
                rcases Bool.eq_false_or_eq_true (bad == 0) with d7 | d7
                ·
                  have w := b1_w0_14 lim bad op sum begun last lacks left low high x at' cbad l o n d7 d6 d5 d4 d3 d2 d1 d0
                  exact fin_b1 (by simp only [b_v1, bcode, pcode, ecode, fedP, Bool.and_true, Bool.true_and, Bool.and_false, Bool.false_and, Bool.or_true, Bool.or_false, Bool.true_or, Bool.false_or, Bool.not_true, Bool.not_false, cond_true, cond_false, d0, d0z, d1, d2, d3, d3z, d4, d5z, d6, d7] <;> first | rfl | (simp; done)) (by simp only [b_h1, bcode, pcode, ecode, fedP, Bool.and_true, Bool.true_and, Bool.and_false, Bool.false_and, Bool.or_true, Bool.or_false, Bool.true_or, Bool.false_or, Bool.not_true, Bool.not_false, cond_true, cond_false, d0, d0z, d1, d2, d3, d3z, d4, d5z, d6, d7] <;> first | rfl | (simp; done)) w (by kernel_rfl)
                ·
                  exfalso; simp_all
              ·
                have w := b1_w0_16 lim bad op sum begun last lacks left low high x at' cbad l o n d3 d6 d5 d4 d2 d1 d0
                exact fin_b1 (by simp only [b_v1, bcode, pcode, ecode, fedP, Bool.and_true, Bool.true_and, Bool.and_false, Bool.false_and, Bool.or_true, Bool.or_false, Bool.true_or, Bool.false_or, Bool.not_true, Bool.not_false, cond_true, cond_false, d0, d0z, d1, d2, d3, d3z, d4, d5z, d6] <;> first | rfl | (simp; done)) (by simp only [b_h1, bcode, pcode, ecode, fedP, Bool.and_true, Bool.true_and, Bool.and_false, Bool.false_and, Bool.or_true, Bool.or_false, Bool.true_or, Bool.false_or, Bool.not_true, Bool.not_false, cond_true, cond_false, d0, d0z, d1, d2, d3, d3z, d4, d5z, d6] <;> first | rfl | (simp; done)) w (by kernel_rfl)
        ·
          have d3z : (o == 0) = true := by simpa using d3
          rcases Bool.eq_false_or_eq_true (!(o == 0) == (op != 0)) with d4 | d4
          ·
            have d4z : bop o op = true := d4
            rcases Bool.eq_false_or_eq_true (bad == 0) with d5 | d5
            ·
              have w := b1_w0_17 lim bad op sum begun last lacks left low high x at' cbad l o n d5 d4 d3 d2 d1 d0
              exact fin_b1 (by simp only [b_v1, bcode, pcode, ecode, fedP, Bool.and_true, Bool.true_and, Bool.and_false, Bool.false_and, Bool.or_true, Bool.or_false, Bool.true_or, Bool.false_or, Bool.not_true, Bool.not_false, cond_true, cond_false, d0, d0z, d1, d2, d3, d3z, d4z, d5] <;> first | rfl | (simp; done)) (by simp only [b_h1, bcode, pcode, ecode, fedP, Bool.and_true, Bool.true_and, Bool.and_false, Bool.false_and, Bool.or_true, Bool.or_false, Bool.true_or, Bool.false_or, Bool.not_true, Bool.not_false, cond_true, cond_false, d0, d0z, d1, d2, d3, d3z, d4z, d5] <;> first | rfl | (simp; done)) w (by kernel_rfl)
            ·
              exfalso; simp_all
          ·
            have d4z : bop o op = false := d4
            rcases Bool.eq_false_or_eq_true (decide (IntKind.i64.wrap (lim - sum) < n)) with d5 | d5
            ·
              rcases Bool.eq_false_or_eq_true (bad == 0) with d6 | d6
              ·
                have w := b1_w0_19 lim bad op sum begun last lacks left low high x at' cbad l o n d6 d5 d4 d3 d2 d1 d0
                exact fin_b1 (by simp only [b_v1, bcode, pcode, ecode, fedP, Bool.and_true, Bool.true_and, Bool.and_false, Bool.false_and, Bool.or_true, Bool.or_false, Bool.true_or, Bool.false_or, Bool.not_true, Bool.not_false, cond_true, cond_false, d0, d0z, d1, d2, d3, d3z, d4z, d5, d6] <;> first | rfl | (simp; done)) (by simp only [b_h1, bcode, pcode, ecode, fedP, Bool.and_true, Bool.true_and, Bool.and_false, Bool.false_and, Bool.or_true, Bool.or_false, Bool.true_or, Bool.false_or, Bool.not_true, Bool.not_false, cond_true, cond_false, d0, d0z, d1, d2, d3, d3z, d4z, d5, d6] <;> first | rfl | (simp; done)) w (by kernel_rfl)
              ·
                exfalso; simp_all
            ·
              have w := b1_w0_21 lim bad op sum begun last lacks left low high x at' cbad l o n d3 d5 d4 d2 d1 d0
              exact fin_b1 (by simp only [b_v1, bcode, pcode, ecode, fedP, Bool.and_true, Bool.true_and, Bool.and_false, Bool.false_and, Bool.or_true, Bool.or_false, Bool.true_or, Bool.false_or, Bool.not_true, Bool.not_false, cond_true, cond_false, d0, d0z, d1, d2, d3, d3z, d4z, d5] <;> first | rfl | (simp; done)) (by simp only [b_h1, bcode, pcode, ecode, fedP, Bool.and_true, Bool.true_and, Bool.and_false, Bool.false_and, Bool.or_true, Bool.or_false, Bool.true_or, Bool.false_or, Bool.not_true, Bool.not_false, cond_true, cond_false, d0, d0z, d1, d2, d3, d3z, d4z, d5] <;> first | rfl | (simp; done)) w (by kernel_rfl)

def b_v2 (lim bad : Int) (op sum : Int) (begun last : Bool) (lacks left : Int) (low high : Int) (x at' : Int) (cbad l : Bool) (o n : Int) : Value := (bif (bcode lim bad op sum begun o n == 0) then (bif (o == 0) then .int .i64 0 else .int .i64 0) else .int .i64 (bcode lim bad op sum begun o n))
def b_h2 (lim bad : Int) (op sum : Int) (begun last : Bool) (lacks left : Int) (low high : Int) (x at' : Int) (cbad l : Bool) (o n : Int) : Heap := (bif (bcode lim bad op sum begun o n == 0) then (bif (o == 0) then [some (.cells [.int .i64 lim, .bool true, .int .i64 bad, .int .i64 op, .int .i64 (IntKind.wrap .i64 (sum + n)), .pointer (some ⟨0, 5, none⟩), .slice none 0 0, .pointer (some ⟨1, 0, none⟩), .bool true, .bool l, .int .i64 n] 51 none), some (.cells [.int .i64 left, .int .u8 low, .int .u8 high, .int .i32 x, .int .i64 at', .bool cbad] 77 none)] else [some (.cells [.int .i64 lim, .bool true, .int .i64 bad, .int .i64 o, .int .i64 (IntKind.wrap .i64 (sum + n)), .pointer (some ⟨0, 5, none⟩), .slice none 0 0, .pointer (some ⟨2, 0, none⟩), .bool true, .bool l, .int .i64 n] 51 none), some (.cells [.int .i64 left, .int .u8 low, .int .u8 high, .int .i32 x, .int .i64 at', .bool cbad] 77 none), some (.cells [.int .i64 0, .int .u8 0, .int .u8 0, .int .i32 0, .int .i64 0, .bool false] 77 none)]) else [some (.cells [.int .i64 lim, .bool true, .int .i64 (bcode lim bad op sum begun o n), .int .i64 op, .int .i64 sum, .pointer (some ⟨0, 5, none⟩), .slice none 0 0, .pointer (some ⟨1, 0, none⟩), .bool begun, .bool last, .int .i64 lacks] 51 none), some (.cells [.int .i64 left, .int .u8 low, .int .u8 high, .int .i32 x, .int .i64 at', .bool cbad] 77 none)])
def b_pr2 (lim bad : Int) (op sum : Int) (begun last : Bool) (lacks left : Int) (low high : Int) (x at' : Int) (cbad l : Bool) (o n : Int) : Prop := True
theorem fin_b2 {lim : Int} {bad : Int} {op : Int} {sum : Int} {begun : Bool} {last : Bool} {lacks : Int} {left : Int} {low : Int} {high : Int} {x : Int} {at' : Int} {cbad : Bool} {l : Bool} {o : Int} {n : Int} {v : Value} {h : Heap} (e1 : b_v2 lim bad op sum begun last lacks left low high x at' cbad l o n = v) (e2 : b_h2 lim bad op sum begun last lacks left low high x at' cbad l o n = h) (w : AEnds E 12 2 (startC E 12 [.pointer (some ⟨0, 0, none⟩), .bool l, .int .i64 o, .int .i64 n] [some (.cells [.int .i64 lim, .bool true, .int .i64 bad, .int .i64 op, .int .i64 sum, .pointer (some ⟨0, 5, none⟩), .slice none 0 0, .pointer (some ⟨1, 0, none⟩), .bool begun, .bool last, .int .i64 lacks] 51 none), some (.cells [.int .i64 left, .int .u8 low, .int .u8 high, .int .i32 x, .int .i64 at', .bool cbad] 77 none)]) v h) (hl : Nat.ble 2 h.length = true) : CallOk E 12 [.pointer (some ⟨0, 0, none⟩), .bool l, .int .i64 o, .int .i64 n] [some (.cells [.int .i64 lim, .bool true, .int .i64 bad, .int .i64 op, .int .i64 sum, .pointer (some ⟨0, 5, none⟩), .slice none 0 0, .pointer (some ⟨1, 0, none⟩), .bool begun, .bool last, .int .i64 lacks] 51 none), some (.cells [.int .i64 left, .int .u8 low, .int .u8 high, .int .i32 x, .int .i64 at', .bool cbad] 77 none)] (b_v2 lim bad op sum begun last lacks left low high x at' cbad l o n) (b_h2 lim bad op sum begun last lacks left low high x at' cbad l o n) := by
  rw [e1, e2]
  exact callOk_of_ends w (by kernel_rfl) (Nat.le_of_ble_eq_true hl)
theorem b2_all (lim bad : Int) (op sum : Int) (begun last : Bool) (lacks left : Int) (low high : Int) (x at' : Int) (cbad l : Bool) (o n : Int) (hp : b_pr2 lim bad op sum begun last lacks left low high x at' cbad l o n) : CallOk E 12 [.pointer (some ⟨0, 0, none⟩), .bool l, .int .i64 o, .int .i64 n] [some (.cells [.int .i64 lim, .bool true, .int .i64 bad, .int .i64 op, .int .i64 sum, .pointer (some ⟨0, 5, none⟩), .slice none 0 0, .pointer (some ⟨1, 0, none⟩), .bool begun, .bool last, .int .i64 lacks] 51 none), some (.cells [.int .i64 left, .int .u8 low, .int .u8 high, .int .i32 x, .int .i64 at', .bool cbad] 77 none)] (b_v2 lim bad op sum begun last lacks left low high x at' cbad l o n) (b_h2 lim bad op sum begun last lacks left low high x at' cbad l o n) := by
  unfold b_pr2 at hp
  rcases Bool.eq_false_or_eq_true (bad != 0) with d0 | d0
  ·
    have d0z : (bad == 0) = false := by simpa using d0
    have w := b2_w0_0 lim bad op sum begun last lacks left low high x at' cbad l o n d0
    exact fin_b2 (by simp only [b_v2, bcode, pcode, ecode, fedP, Bool.and_true, Bool.true_and, Bool.and_false, Bool.false_and, Bool.or_true, Bool.or_false, Bool.true_or, Bool.false_or, Bool.not_true, Bool.not_false, cond_true, cond_false, d0, d0z] <;> first | rfl | (simp; done)) (by simp only [b_h2, bcode, pcode, ecode, fedP, Bool.and_true, Bool.true_and, Bool.and_false, Bool.false_and, Bool.or_true, Bool.or_false, Bool.true_or, Bool.false_or, Bool.not_true, Bool.not_false, cond_true, cond_false, d0, d0z] <;> first | rfl | (simp; done)) w (by kernel_rfl)
  ·
    have d0z : (bad == 0) = true := by simpa using d0
    rcases Bool.eq_false_or_eq_true begun with d1 | d1
    ·
      rcases Bool.eq_false_or_eq_true (bad == 0) with d2 | d2
      ·
        have w := b2_w0_1 lim bad op sum begun last lacks left low high x at' cbad l o n d2 d1 d0
        exact fin_b2 (by simp only [b_v2, bcode, pcode, ecode, fedP, Bool.and_true, Bool.true_and, Bool.and_false, Bool.false_and, Bool.or_true, Bool.or_false, Bool.true_or, Bool.false_or, Bool.not_true, Bool.not_false, cond_true, cond_false, d0, d0z, d1, d2] <;> first | rfl | (simp; done)) (by simp only [b_h2, bcode, pcode, ecode, fedP, Bool.and_true, Bool.true_and, Bool.and_false, Bool.false_and, Bool.or_true, Bool.or_false, Bool.true_or, Bool.false_or, Bool.not_true, Bool.not_false, cond_true, cond_false, d0, d0z, d1, d2] <;> first | rfl | (simp; done)) w (by kernel_rfl)
      ·
        exfalso; simp_all
    ·
      rcases Bool.eq_false_or_eq_true (decide (n < 0)) with d2 | d2
      ·
        rcases Bool.eq_false_or_eq_true (bad == 0) with d3 | d3
        ·
          have w := b2_w0_3 lim bad op sum begun last lacks left low high x at' cbad l o n d3 d2 d1 d0
          exact fin_b2 (by simp only [b_v2, bcode, pcode, ecode, fedP, Bool.and_true, Bool.true_and, Bool.and_false, Bool.false_and, Bool.or_true, Bool.or_false, Bool.true_or, Bool.false_or, Bool.not_true, Bool.not_false, cond_true, cond_false, d0, d0z, d1, d2, d3] <;> first | rfl | (simp; done)) (by simp only [b_h2, bcode, pcode, ecode, fedP, Bool.and_true, Bool.true_and, Bool.and_false, Bool.false_and, Bool.or_true, Bool.or_false, Bool.true_or, Bool.false_or, Bool.not_true, Bool.not_false, cond_true, cond_false, d0, d0z, d1, d2, d3] <;> first | rfl | (simp; done)) w (by kernel_rfl)
        ·
          exfalso; simp_all
      ·
        rcases Bool.eq_false_or_eq_true (o != 0) with d3 | d3
        ·
          have d3z : (o == 0) = false := by simpa using d3
          rcases Bool.eq_false_or_eq_true (o != 1) with d4 | d4
          ·
            rcases Bool.eq_false_or_eq_true (o != 2) with d5 | d5
            ·
              rcases Bool.eq_false_or_eq_true (bad == 0) with d6 | d6
              ·
                have w := b2_w0_5 lim bad op sum begun last lacks left low high x at' cbad l o n d6 d5 d4 d3 d2 d1 d0
                exact fin_b2 (by simp only [b_v2, bcode, pcode, ecode, fedP, Bool.and_true, Bool.true_and, Bool.and_false, Bool.false_and, Bool.or_true, Bool.or_false, Bool.true_or, Bool.false_or, Bool.not_true, Bool.not_false, cond_true, cond_false, d0, d0z, d1, d2, d3, d3z, d4, d5, d6] <;> first | rfl | (simp; done)) (by simp only [b_h2, bcode, pcode, ecode, fedP, Bool.and_true, Bool.true_and, Bool.and_false, Bool.false_and, Bool.or_true, Bool.or_false, Bool.true_or, Bool.false_or, Bool.not_true, Bool.not_false, cond_true, cond_false, d0, d0z, d1, d2, d3, d3z, d4, d5, d6] <;> first | rfl | (simp; done)) w (by kernel_rfl)
              ·
                exfalso; simp_all
            ·
              rcases Bool.eq_false_or_eq_true (!(o == 0) == (op != 0)) with d6 | d6
              ·
                have d6z : bop o op = true := d6
                rcases Bool.eq_false_or_eq_true (bad == 0) with d7 | d7
                ·
                  have w := b2_w0_7 lim bad op sum begun last lacks left low high x at' cbad l o n d7 d6 d5 d4 d3 d2 d1 d0
                  exact fin_b2 (by simp only [b_v2, bcode, pcode, ecode, fedP, Bool.and_true, Bool.true_and, Bool.and_false, Bool.false_and, Bool.or_true, Bool.or_false, Bool.true_or, Bool.false_or, Bool.not_true, Bool.not_false, cond_true, cond_false, d0, d0z, d1, d2, d3, d3z, d4, d5, d6z, d7] <;> first | rfl | (simp; done)) (by simp only [b_h2, bcode, pcode, ecode, fedP, Bool.and_true, Bool.true_and, Bool.and_false, Bool.false_and, Bool.or_true, Bool.or_false, Bool.true_or, Bool.false_or, Bool.not_true, Bool.not_false, cond_true, cond_false, d0, d0z, d1, d2, d3, d3z, d4, d5, d6z, d7] <;> first | rfl | (simp; done)) w (by kernel_rfl)
                ·
                  exfalso; simp_all
              ·
                have d6z : bop o op = false := d6
                rcases Bool.eq_false_or_eq_true (decide (IntKind.i64.wrap (lim - sum) < n)) with d7 | d7
                ·
                  rcases Bool.eq_false_or_eq_true (bad == 0) with d8 | d8
                  ·
                    have w := b2_w0_9 lim bad op sum begun last lacks left low high x at' cbad l o n d8 d7 d6 d5 d4 d3 d2 d1 d0
                    exact fin_b2 (by simp only [b_v2, bcode, pcode, ecode, fedP, Bool.and_true, Bool.true_and, Bool.and_false, Bool.false_and, Bool.or_true, Bool.or_false, Bool.true_or, Bool.false_or, Bool.not_true, Bool.not_false, cond_true, cond_false, d0, d0z, d1, d2, d3, d3z, d4, d5, d6z, d7, d8] <;> first | rfl | (simp; done)) (by simp only [b_h2, bcode, pcode, ecode, fedP, Bool.and_true, Bool.true_and, Bool.and_false, Bool.false_and, Bool.or_true, Bool.or_false, Bool.true_or, Bool.false_or, Bool.not_true, Bool.not_false, cond_true, cond_false, d0, d0z, d1, d2, d3, d3z, d4, d5, d6z, d7, d8] <;> first | rfl | (simp; done)) w (by kernel_rfl)
                  ·
                    exfalso; simp_all
                ·
                  have w := b2_w0_11 lim bad op sum begun last lacks left low high x at' cbad l o n d3 d7 d6 d5 d4 d2 d1 d0
                  exact fin_b2 (by simp only [b_v2, bcode, pcode, ecode, fedP, Bool.and_true, Bool.true_and, Bool.and_false, Bool.false_and, Bool.or_true, Bool.or_false, Bool.true_or, Bool.false_or, Bool.not_true, Bool.not_false, cond_true, cond_false, d0, d0z, d1, d2, d3, d3z, d4, d5, d6z, d7] <;> first | rfl | (simp; done)) (by simp only [b_h2, bcode, pcode, ecode, fedP, Bool.and_true, Bool.true_and, Bool.and_false, Bool.false_and, Bool.or_true, Bool.or_false, Bool.true_or, Bool.false_or, Bool.not_true, Bool.not_false, cond_true, cond_false, d0, d0z, d1, d2, d3, d3z, d4, d5, d6z, d7] <;> first | rfl | (simp; done)) w (by kernel_rfl)
          ·
            rcases Bool.eq_false_or_eq_true (!(o == 0) == (op != 0)) with d5 | d5
            ·
              have d5z : bop o op = true := d5
              rcases Bool.eq_false_or_eq_true (bad == 0) with d6 | d6
              ·
                have w := b2_w0_12 lim bad op sum begun last lacks left low high x at' cbad l o n d6 d5 d4 d3 d2 d1 d0
                exact fin_b2 (by simp only [b_v2, bcode, pcode, ecode, fedP, Bool.and_true, Bool.true_and, Bool.and_false, Bool.false_and, Bool.or_true, Bool.or_false, Bool.true_or, Bool.false_or, Bool.not_true, Bool.not_false, cond_true, cond_false, d0, d0z, d1, d2, d3, d3z, d4, d5z, d6] <;> first | rfl | (simp; done)) (by simp only [b_h2, bcode, pcode, ecode, fedP, Bool.and_true, Bool.true_and, Bool.and_false, Bool.false_and, Bool.or_true, Bool.or_false, Bool.true_or, Bool.false_or, Bool.not_true, Bool.not_false, cond_true, cond_false, d0, d0z, d1, d2, d3, d3z, d4, d5z, d6] <;> first | rfl | (simp; done)) w (by kernel_rfl)
              ·
                exfalso; simp_all
            ·
              have d5z : bop o op = false := d5
              rcases Bool.eq_false_or_eq_true (decide (IntKind.i64.wrap (lim - sum) < n)) with d6 | d6
              ·
                rcases Bool.eq_false_or_eq_true (bad == 0) with d7 | d7
                ·
                  have w := b2_w0_14 lim bad op sum begun last lacks left low high x at' cbad l o n d7 d6 d5 d4 d3 d2 d1 d0
                  exact fin_b2 (by simp only [b_v2, bcode, pcode, ecode, fedP, Bool.and_true, Bool.true_and, Bool.and_false, Bool.false_and, Bool.or_true, Bool.or_false, Bool.true_or, Bool.false_or, Bool.not_true, Bool.not_false, cond_true, cond_false, d0, d0z, d1, d2, d3, d3z, d4, d5z, d6, d7] <;> first | rfl | (simp; done)) (by simp only [b_h2, bcode, pcode, ecode, fedP, Bool.and_true, Bool.true_and, Bool.and_false, Bool.false_and, Bool.or_true, Bool.or_false, Bool.true_or, Bool.false_or, Bool.not_true, Bool.not_false, cond_true, cond_false, d0, d0z, d1, d2, d3, d3z, d4, d5z, d6, d7] <;> first | rfl | (simp; done)) w (by kernel_rfl)
                ·
                  exfalso; simp_all
              ·
                have w := b2_w0_16 lim bad op sum begun last lacks left low high x at' cbad l o n d3 d6 d5 d4 d2 d1 d0
                exact fin_b2 (by simp only [b_v2, bcode, pcode, ecode, fedP, Bool.and_true, Bool.true_and, Bool.and_false, Bool.false_and, Bool.or_true, Bool.or_false, Bool.true_or, Bool.false_or, Bool.not_true, Bool.not_false, cond_true, cond_false, d0, d0z, d1, d2, d3, d3z, d4, d5z, d6] <;> first | rfl | (simp; done)) (by simp only [b_h2, bcode, pcode, ecode, fedP, Bool.and_true, Bool.true_and, Bool.and_false, Bool.false_and, Bool.or_true, Bool.or_false, Bool.true_or, Bool.false_or, Bool.not_true, Bool.not_false, cond_true, cond_false, d0, d0z, d1, d2, d3, d3z, d4, d5z, d6] <;> first | rfl | (simp; done)) w (by kernel_rfl)
        ·
          have d3z : (o == 0) = true := by simpa using d3
          rcases Bool.eq_false_or_eq_true (!(o == 0) == (op != 0)) with d4 | d4
          ·
            have d4z : bop o op = true := d4
            rcases Bool.eq_false_or_eq_true (bad == 0) with d5 | d5
            ·
              have w := b2_w0_17 lim bad op sum begun last lacks left low high x at' cbad l o n d5 d4 d3 d2 d1 d0
              exact fin_b2 (by simp only [b_v2, bcode, pcode, ecode, fedP, Bool.and_true, Bool.true_and, Bool.and_false, Bool.false_and, Bool.or_true, Bool.or_false, Bool.true_or, Bool.false_or, Bool.not_true, Bool.not_false, cond_true, cond_false, d0, d0z, d1, d2, d3, d3z, d4z, d5] <;> first | rfl | (simp; done)) (by simp only [b_h2, bcode, pcode, ecode, fedP, Bool.and_true, Bool.true_and, Bool.and_false, Bool.false_and, Bool.or_true, Bool.or_false, Bool.true_or, Bool.false_or, Bool.not_true, Bool.not_false, cond_true, cond_false, d0, d0z, d1, d2, d3, d3z, d4z, d5] <;> first | rfl | (simp; done)) w (by kernel_rfl)
            ·
              exfalso; simp_all
          ·
            have d4z : bop o op = false := d4
            rcases Bool.eq_false_or_eq_true (decide (IntKind.i64.wrap (lim - sum) < n)) with d5 | d5
            ·
              rcases Bool.eq_false_or_eq_true (bad == 0) with d6 | d6
              ·
                have w := b2_w0_19 lim bad op sum begun last lacks left low high x at' cbad l o n d6 d5 d4 d3 d2 d1 d0
                exact fin_b2 (by simp only [b_v2, bcode, pcode, ecode, fedP, Bool.and_true, Bool.true_and, Bool.and_false, Bool.false_and, Bool.or_true, Bool.or_false, Bool.true_or, Bool.false_or, Bool.not_true, Bool.not_false, cond_true, cond_false, d0, d0z, d1, d2, d3, d3z, d4z, d5, d6] <;> first | rfl | (simp; done)) (by simp only [b_h2, bcode, pcode, ecode, fedP, Bool.and_true, Bool.true_and, Bool.and_false, Bool.false_and, Bool.or_true, Bool.or_false, Bool.true_or, Bool.false_or, Bool.not_true, Bool.not_false, cond_true, cond_false, d0, d0z, d1, d2, d3, d3z, d4z, d5, d6] <;> first | rfl | (simp; done)) w (by kernel_rfl)
              ·
                exfalso; simp_all
            ·
              have w := b2_w0_21 lim bad op sum begun last lacks left low high x at' cbad l o n d3 d5 d4 d2 d1 d0
              exact fin_b2 (by simp only [b_v2, bcode, pcode, ecode, fedP, Bool.and_true, Bool.true_and, Bool.and_false, Bool.false_and, Bool.or_true, Bool.or_false, Bool.true_or, Bool.false_or, Bool.not_true, Bool.not_false, cond_true, cond_false, d0, d0z, d1, d2, d3, d3z, d4z, d5] <;> first | rfl | (simp; done)) (by simp only [b_h2, bcode, pcode, ecode, fedP, Bool.and_true, Bool.true_and, Bool.and_false, Bool.false_and, Bool.or_true, Bool.or_false, Bool.true_or, Bool.false_or, Bool.not_true, Bool.not_false, cond_true, cond_false, d0, d0z, d1, d2, d3, d3z, d4z, d5] <;> first | rfl | (simp; done)) w (by kernel_rfl)

def b_v3 (lim bad : Int) (op sum : Int) (begun last : Bool) (lacks : Int) (bn : Nat) (B : List Value) (left low : Int) (high x at' : Int) (cbad l : Bool) (o n : Int) : Value := (bif (bcode lim bad op sum begun o n == 0) then (bif (o == 0) then .int .i64 0 else .int .i64 0) else .int .i64 (bcode lim bad op sum begun o n))
def b_h3 (lim bad : Int) (op sum : Int) (begun last : Bool) (lacks : Int) (bn : Nat) (B : List Value) (left low : Int) (high x at' : Int) (cbad l : Bool) (o n : Int) : Heap := (bif (bcode lim bad op sum begun o n == 0) then (bif (o == 0) then [some (.cells [.int .i64 lim, .bool true, .int .i64 bad, .int .i64 op, .int .i64 (IntKind.wrap .i64 (sum + n)), .pointer (some ⟨0, 5, none⟩), .slice (some ⟨1, 0, none⟩) bn 0, .pointer (some ⟨2, 0, none⟩), .bool true, .bool l, .int .i64 n] 51 none), some (.cells B 5 (some 1)), some (.cells [.int .i64 left, .int .u8 low, .int .u8 high, .int .i32 x, .int .i64 at', .bool cbad] 77 none)] else [some (.cells [.int .i64 lim, .bool true, .int .i64 bad, .int .i64 o, .int .i64 (IntKind.wrap .i64 (sum + n)), .pointer (some ⟨0, 5, none⟩), .slice (some ⟨1, 0, none⟩) bn 0, .pointer (some ⟨3, 0, none⟩), .bool true, .bool l, .int .i64 n] 51 none), some (.cells B 5 (some 1)), some (.cells [.int .i64 left, .int .u8 low, .int .u8 high, .int .i32 x, .int .i64 at', .bool cbad] 77 none), some (.cells [.int .i64 0, .int .u8 0, .int .u8 0, .int .i32 0, .int .i64 0, .bool false] 77 none)]) else [some (.cells [.int .i64 lim, .bool true, .int .i64 (bcode lim bad op sum begun o n), .int .i64 op, .int .i64 sum, .pointer (some ⟨0, 5, none⟩), .slice (some ⟨1, 0, none⟩) bn 0, .pointer (some ⟨2, 0, none⟩), .bool begun, .bool last, .int .i64 lacks] 51 none), some (.cells B 5 (some 1)), some (.cells [.int .i64 left, .int .u8 low, .int .u8 high, .int .i32 x, .int .i64 at', .bool cbad] 77 none)])
def b_pr3 (lim bad : Int) (op sum : Int) (begun last : Bool) (lacks : Int) (bn : Nat) (B : List Value) (left low : Int) (high x at' : Int) (cbad l : Bool) (o n : Int) : Prop := (∃ b : ByteArray, slen b = bn ∧ B = ofBytes b)
theorem fin_b3 {lim : Int} {bad : Int} {op : Int} {sum : Int} {begun : Bool} {last : Bool} {lacks : Int} {bn : Nat} {B : List Value} {left : Int} {low : Int} {high : Int} {x : Int} {at' : Int} {cbad : Bool} {l : Bool} {o : Int} {n : Int} {v : Value} {h : Heap} (e1 : b_v3 lim bad op sum begun last lacks bn B left low high x at' cbad l o n = v) (e2 : b_h3 lim bad op sum begun last lacks bn B left low high x at' cbad l o n = h) (w : AEnds E 12 3 (startC E 12 [.pointer (some ⟨0, 0, none⟩), .bool l, .int .i64 o, .int .i64 n] [some (.cells [.int .i64 lim, .bool true, .int .i64 bad, .int .i64 op, .int .i64 sum, .pointer (some ⟨0, 5, none⟩), .slice (some ⟨1, 0, none⟩) bn 0, .pointer (some ⟨2, 0, none⟩), .bool begun, .bool last, .int .i64 lacks] 51 none), some (.cells B 5 (some 1)), some (.cells [.int .i64 left, .int .u8 low, .int .u8 high, .int .i32 x, .int .i64 at', .bool cbad] 77 none)]) v h) (hl : Nat.ble 3 h.length = true) : CallOk E 12 [.pointer (some ⟨0, 0, none⟩), .bool l, .int .i64 o, .int .i64 n] [some (.cells [.int .i64 lim, .bool true, .int .i64 bad, .int .i64 op, .int .i64 sum, .pointer (some ⟨0, 5, none⟩), .slice (some ⟨1, 0, none⟩) bn 0, .pointer (some ⟨2, 0, none⟩), .bool begun, .bool last, .int .i64 lacks] 51 none), some (.cells B 5 (some 1)), some (.cells [.int .i64 left, .int .u8 low, .int .u8 high, .int .i32 x, .int .i64 at', .bool cbad] 77 none)] (b_v3 lim bad op sum begun last lacks bn B left low high x at' cbad l o n) (b_h3 lim bad op sum begun last lacks bn B left low high x at' cbad l o n) := by
  rw [e1, e2]
  exact callOk_of_ends w (by kernel_rfl) (Nat.le_of_ble_eq_true hl)
theorem b3_all (lim bad : Int) (op sum : Int) (begun last : Bool) (lacks : Int) (bn : Nat) (B : List Value) (left low : Int) (high x at' : Int) (cbad l : Bool) (o n : Int) (hp : b_pr3 lim bad op sum begun last lacks bn B left low high x at' cbad l o n) : CallOk E 12 [.pointer (some ⟨0, 0, none⟩), .bool l, .int .i64 o, .int .i64 n] [some (.cells [.int .i64 lim, .bool true, .int .i64 bad, .int .i64 op, .int .i64 sum, .pointer (some ⟨0, 5, none⟩), .slice (some ⟨1, 0, none⟩) bn 0, .pointer (some ⟨2, 0, none⟩), .bool begun, .bool last, .int .i64 lacks] 51 none), some (.cells B 5 (some 1)), some (.cells [.int .i64 left, .int .u8 low, .int .u8 high, .int .i32 x, .int .i64 at', .bool cbad] 77 none)] (b_v3 lim bad op sum begun last lacks bn B left low high x at' cbad l o n) (b_h3 lim bad op sum begun last lacks bn B left low high x at' cbad l o n) := by
  unfold b_pr3 at hp
  obtain ⟨b, hb1, hb2⟩ := hp
  have hT : List.take (bn * 1) (List.drop 0 B) = B := by rw [hb2, List.drop_zero, Nat.mul_one, ← hb1, take_ob]
  have hV : List.take (bn : Int).toNat (List.drop 0 B) = B := by rw [hb2, List.drop_zero, Int.toNat_natCast, ← hb1, take_ob]
  rcases Bool.eq_false_or_eq_true (bad != 0) with d0 | d0
  ·
    have d0z : (bad == 0) = false := by simpa using d0
    have w := b3_w0_0 lim bad op sum begun last lacks bn B left low high x at' cbad l o n (by rw [hb2]; exact ob_flat b) d0
    try simp only [hT, hV] at w
    exact fin_b3 (by simp only [b_v3, bcode, pcode, ecode, fedP, Bool.and_true, Bool.true_and, Bool.and_false, Bool.false_and, Bool.or_true, Bool.or_false, Bool.true_or, Bool.false_or, Bool.not_true, Bool.not_false, cond_true, cond_false, d0, d0z] <;> first | rfl | (simp; done)) (by simp only [b_h3, bcode, pcode, ecode, fedP, Bool.and_true, Bool.true_and, Bool.and_false, Bool.false_and, Bool.or_true, Bool.or_false, Bool.true_or, Bool.false_or, Bool.not_true, Bool.not_false, cond_true, cond_false, d0, d0z] <;> first | rfl | (simp; done)) w (by kernel_rfl)
  ·
    have d0z : (bad == 0) = true := by simpa using d0
    rcases Bool.eq_false_or_eq_true begun with d1 | d1
    ·
      rcases Bool.eq_false_or_eq_true (bad == 0) with d2 | d2
      ·
        have w := b3_w0_1 lim bad op sum begun last lacks bn B left low high x at' cbad l o n (by rw [hb2]; exact ob_flat b) d2 d1 d0
        try simp only [hT, hV] at w
        exact fin_b3 (by simp only [b_v3, bcode, pcode, ecode, fedP, Bool.and_true, Bool.true_and, Bool.and_false, Bool.false_and, Bool.or_true, Bool.or_false, Bool.true_or, Bool.false_or, Bool.not_true, Bool.not_false, cond_true, cond_false, d0, d0z, d1, d2] <;> first | rfl | (simp; done)) (by simp only [b_h3, bcode, pcode, ecode, fedP, Bool.and_true, Bool.true_and, Bool.and_false, Bool.false_and, Bool.or_true, Bool.or_false, Bool.true_or, Bool.false_or, Bool.not_true, Bool.not_false, cond_true, cond_false, d0, d0z, d1, d2] <;> first | rfl | (simp; done)) w (by kernel_rfl)
      ·
        exfalso; simp_all
    ·
      rcases Bool.eq_false_or_eq_true (decide (n < 0)) with d2 | d2
      ·
        rcases Bool.eq_false_or_eq_true (bad == 0) with d3 | d3
        ·
          have w := b3_w0_3 lim bad op sum begun last lacks bn B left low high x at' cbad l o n (by rw [hb2]; exact ob_flat b) d3 d2 d1 d0
          try simp only [hT, hV] at w
          exact fin_b3 (by simp only [b_v3, bcode, pcode, ecode, fedP, Bool.and_true, Bool.true_and, Bool.and_false, Bool.false_and, Bool.or_true, Bool.or_false, Bool.true_or, Bool.false_or, Bool.not_true, Bool.not_false, cond_true, cond_false, d0, d0z, d1, d2, d3] <;> first | rfl | (simp; done)) (by simp only [b_h3, bcode, pcode, ecode, fedP, Bool.and_true, Bool.true_and, Bool.and_false, Bool.false_and, Bool.or_true, Bool.or_false, Bool.true_or, Bool.false_or, Bool.not_true, Bool.not_false, cond_true, cond_false, d0, d0z, d1, d2, d3] <;> first | rfl | (simp; done)) w (by kernel_rfl)
        ·
          exfalso; simp_all
      ·
        rcases Bool.eq_false_or_eq_true (o != 0) with d3 | d3
        ·
          have d3z : (o == 0) = false := by simpa using d3
          rcases Bool.eq_false_or_eq_true (o != 1) with d4 | d4
          ·
            rcases Bool.eq_false_or_eq_true (o != 2) with d5 | d5
            ·
              rcases Bool.eq_false_or_eq_true (bad == 0) with d6 | d6
              ·
                have w := b3_w0_5 lim bad op sum begun last lacks bn B left low high x at' cbad l o n (by rw [hb2]; exact ob_flat b) d6 d5 d4 d3 d2 d1 d0
                try simp only [hT, hV] at w
                exact fin_b3 (by simp only [b_v3, bcode, pcode, ecode, fedP, Bool.and_true, Bool.true_and, Bool.and_false, Bool.false_and, Bool.or_true, Bool.or_false, Bool.true_or, Bool.false_or, Bool.not_true, Bool.not_false, cond_true, cond_false, d0, d0z, d1, d2, d3, d3z, d4, d5, d6] <;> first | rfl | (simp; done)) (by simp only [b_h3, bcode, pcode, ecode, fedP, Bool.and_true, Bool.true_and, Bool.and_false, Bool.false_and, Bool.or_true, Bool.or_false, Bool.true_or, Bool.false_or, Bool.not_true, Bool.not_false, cond_true, cond_false, d0, d0z, d1, d2, d3, d3z, d4, d5, d6] <;> first | rfl | (simp; done)) w (by kernel_rfl)
              ·
                exfalso; simp_all
            ·
              rcases Bool.eq_false_or_eq_true (!(o == 0) == (op != 0)) with d6 | d6
              ·
                have d6z : bop o op = true := d6
                rcases Bool.eq_false_or_eq_true (bad == 0) with d7 | d7
                ·
                  have w := b3_w0_7 lim bad op sum begun last lacks bn B left low high x at' cbad l o n (by rw [hb2]; exact ob_flat b) d7 d6 d5 d4 d3 d2 d1 d0
                  try simp only [hT, hV] at w
                  exact fin_b3 (by simp only [b_v3, bcode, pcode, ecode, fedP, Bool.and_true, Bool.true_and, Bool.and_false, Bool.false_and, Bool.or_true, Bool.or_false, Bool.true_or, Bool.false_or, Bool.not_true, Bool.not_false, cond_true, cond_false, d0, d0z, d1, d2, d3, d3z, d4, d5, d6z, d7] <;> first | rfl | (simp; done)) (by simp only [b_h3, bcode, pcode, ecode, fedP, Bool.and_true, Bool.true_and, Bool.and_false, Bool.false_and, Bool.or_true, Bool.or_false, Bool.true_or, Bool.false_or, Bool.not_true, Bool.not_false, cond_true, cond_false, d0, d0z, d1, d2, d3, d3z, d4, d5, d6z, d7] <;> first | rfl | (simp; done)) w (by kernel_rfl)
                ·
                  exfalso; simp_all
              ·
                have d6z : bop o op = false := d6
                rcases Bool.eq_false_or_eq_true (decide (IntKind.i64.wrap (lim - sum) < n)) with d7 | d7
                ·
                  rcases Bool.eq_false_or_eq_true (bad == 0) with d8 | d8
                  ·
                    have w := b3_w0_9 lim bad op sum begun last lacks bn B left low high x at' cbad l o n (by rw [hb2]; exact ob_flat b) d8 d7 d6 d5 d4 d3 d2 d1 d0
                    try simp only [hT, hV] at w
                    exact fin_b3 (by simp only [b_v3, bcode, pcode, ecode, fedP, Bool.and_true, Bool.true_and, Bool.and_false, Bool.false_and, Bool.or_true, Bool.or_false, Bool.true_or, Bool.false_or, Bool.not_true, Bool.not_false, cond_true, cond_false, d0, d0z, d1, d2, d3, d3z, d4, d5, d6z, d7, d8] <;> first | rfl | (simp; done)) (by simp only [b_h3, bcode, pcode, ecode, fedP, Bool.and_true, Bool.true_and, Bool.and_false, Bool.false_and, Bool.or_true, Bool.or_false, Bool.true_or, Bool.false_or, Bool.not_true, Bool.not_false, cond_true, cond_false, d0, d0z, d1, d2, d3, d3z, d4, d5, d6z, d7, d8] <;> first | rfl | (simp; done)) w (by kernel_rfl)
                  ·
                    exfalso; simp_all
                ·
                  have w := b3_w0_11 lim bad op sum begun last lacks bn B left low high x at' cbad l o n (by rw [hb2]; exact ob_flat b) d3 d7 d6 d5 d4 d2 d1 d0
                  try simp only [hT, hV] at w
                  exact fin_b3 (by simp only [b_v3, bcode, pcode, ecode, fedP, Bool.and_true, Bool.true_and, Bool.and_false, Bool.false_and, Bool.or_true, Bool.or_false, Bool.true_or, Bool.false_or, Bool.not_true, Bool.not_false, cond_true, cond_false, d0, d0z, d1, d2, d3, d3z, d4, d5, d6z, d7] <;> first | rfl | (simp; done)) (by simp only [b_h3, bcode, pcode, ecode, fedP, Bool.and_true, Bool.true_and, Bool.and_false, Bool.false_and, Bool.or_true, Bool.or_false, Bool.true_or, Bool.false_or, Bool.not_true, Bool.not_false, cond_true, cond_false, d0, d0z, d1, d2, d3, d3z, d4, d5, d6z, d7] <;> first | rfl | (simp; done)) w (by kernel_rfl)
          ·
            rcases Bool.eq_false_or_eq_true (!(o == 0) == (op != 0)) with d5 | d5
            ·
              have d5z : bop o op = true := d5
              rcases Bool.eq_false_or_eq_true (bad == 0) with d6 | d6
              ·
                have w := b3_w0_12 lim bad op sum begun last lacks bn B left low high x at' cbad l o n (by rw [hb2]; exact ob_flat b) d6 d5 d4 d3 d2 d1 d0
                try simp only [hT, hV] at w
                exact fin_b3 (by simp only [b_v3, bcode, pcode, ecode, fedP, Bool.and_true, Bool.true_and, Bool.and_false, Bool.false_and, Bool.or_true, Bool.or_false, Bool.true_or, Bool.false_or, Bool.not_true, Bool.not_false, cond_true, cond_false, d0, d0z, d1, d2, d3, d3z, d4, d5z, d6] <;> first | rfl | (simp; done)) (by simp only [b_h3, bcode, pcode, ecode, fedP, Bool.and_true, Bool.true_and, Bool.and_false, Bool.false_and, Bool.or_true, Bool.or_false, Bool.true_or, Bool.false_or, Bool.not_true, Bool.not_false, cond_true, cond_false, d0, d0z, d1, d2, d3, d3z, d4, d5z, d6] <;> first | rfl | (simp; done)) w (by kernel_rfl)
              ·
                exfalso; simp_all
            ·
              have d5z : bop o op = false := d5
              rcases Bool.eq_false_or_eq_true (decide (IntKind.i64.wrap (lim - sum) < n)) with d6 | d6
              ·
                rcases Bool.eq_false_or_eq_true (bad == 0) with d7 | d7
                ·
                  have w := b3_w0_14 lim bad op sum begun last lacks bn B left low high x at' cbad l o n (by rw [hb2]; exact ob_flat b) d7 d6 d5 d4 d3 d2 d1 d0
                  try simp only [hT, hV] at w
                  exact fin_b3 (by simp only [b_v3, bcode, pcode, ecode, fedP, Bool.and_true, Bool.true_and, Bool.and_false, Bool.false_and, Bool.or_true, Bool.or_false, Bool.true_or, Bool.false_or, Bool.not_true, Bool.not_false, cond_true, cond_false, d0, d0z, d1, d2, d3, d3z, d4, d5z, d6, d7] <;> first | rfl | (simp; done)) (by simp only [b_h3, bcode, pcode, ecode, fedP, Bool.and_true, Bool.true_and, Bool.and_false, Bool.false_and, Bool.or_true, Bool.or_false, Bool.true_or, Bool.false_or, Bool.not_true, Bool.not_false, cond_true, cond_false, d0, d0z, d1, d2, d3, d3z, d4, d5z, d6, d7] <;> first | rfl | (simp; done)) w (by kernel_rfl)
                ·
                  exfalso; simp_all
              ·
                have w := b3_w0_16 lim bad op sum begun last lacks bn B left low high x at' cbad l o n (by rw [hb2]; exact ob_flat b) d3 d6 d5 d4 d2 d1 d0
                try simp only [hT, hV] at w
                exact fin_b3 (by simp only [b_v3, bcode, pcode, ecode, fedP, Bool.and_true, Bool.true_and, Bool.and_false, Bool.false_and, Bool.or_true, Bool.or_false, Bool.true_or, Bool.false_or, Bool.not_true, Bool.not_false, cond_true, cond_false, d0, d0z, d1, d2, d3, d3z, d4, d5z, d6] <;> first | rfl | (simp; done)) (by simp only [b_h3, bcode, pcode, ecode, fedP, Bool.and_true, Bool.true_and, Bool.and_false, Bool.false_and, Bool.or_true, Bool.or_false, Bool.true_or, Bool.false_or, Bool.not_true, Bool.not_false, cond_true, cond_false, d0, d0z, d1, d2, d3, d3z, d4, d5z, d6] <;> first | rfl | (simp; done)) w (by kernel_rfl)
        ·
          have d3z : (o == 0) = true := by simpa using d3
          rcases Bool.eq_false_or_eq_true (!(o == 0) == (op != 0)) with d4 | d4
          ·
            have d4z : bop o op = true := d4
            rcases Bool.eq_false_or_eq_true (bad == 0) with d5 | d5
            ·
              have w := b3_w0_17 lim bad op sum begun last lacks bn B left low high x at' cbad l o n (by rw [hb2]; exact ob_flat b) d5 d4 d3 d2 d1 d0
              try simp only [hT, hV] at w
              exact fin_b3 (by simp only [b_v3, bcode, pcode, ecode, fedP, Bool.and_true, Bool.true_and, Bool.and_false, Bool.false_and, Bool.or_true, Bool.or_false, Bool.true_or, Bool.false_or, Bool.not_true, Bool.not_false, cond_true, cond_false, d0, d0z, d1, d2, d3, d3z, d4z, d5] <;> first | rfl | (simp; done)) (by simp only [b_h3, bcode, pcode, ecode, fedP, Bool.and_true, Bool.true_and, Bool.and_false, Bool.false_and, Bool.or_true, Bool.or_false, Bool.true_or, Bool.false_or, Bool.not_true, Bool.not_false, cond_true, cond_false, d0, d0z, d1, d2, d3, d3z, d4z, d5] <;> first | rfl | (simp; done)) w (by kernel_rfl)
            ·
              exfalso; simp_all
          ·
            have d4z : bop o op = false := d4
            rcases Bool.eq_false_or_eq_true (decide (IntKind.i64.wrap (lim - sum) < n)) with d5 | d5
            ·
              rcases Bool.eq_false_or_eq_true (bad == 0) with d6 | d6
              ·
                have w := b3_w0_19 lim bad op sum begun last lacks bn B left low high x at' cbad l o n (by rw [hb2]; exact ob_flat b) d6 d5 d4 d3 d2 d1 d0
                try simp only [hT, hV] at w
                exact fin_b3 (by simp only [b_v3, bcode, pcode, ecode, fedP, Bool.and_true, Bool.true_and, Bool.and_false, Bool.false_and, Bool.or_true, Bool.or_false, Bool.true_or, Bool.false_or, Bool.not_true, Bool.not_false, cond_true, cond_false, d0, d0z, d1, d2, d3, d3z, d4z, d5, d6] <;> first | rfl | (simp; done)) (by simp only [b_h3, bcode, pcode, ecode, fedP, Bool.and_true, Bool.true_and, Bool.and_false, Bool.false_and, Bool.or_true, Bool.or_false, Bool.true_or, Bool.false_or, Bool.not_true, Bool.not_false, cond_true, cond_false, d0, d0z, d1, d2, d3, d3z, d4z, d5, d6] <;> first | rfl | (simp; done)) w (by kernel_rfl)
              ·
                exfalso; simp_all
            ·
              have w := b3_w0_21 lim bad op sum begun last lacks bn B left low high x at' cbad l o n (by rw [hb2]; exact ob_flat b) d3 d5 d4 d2 d1 d0
              try simp only [hT, hV] at w
              exact fin_b3 (by simp only [b_v3, bcode, pcode, ecode, fedP, Bool.and_true, Bool.true_and, Bool.and_false, Bool.false_and, Bool.or_true, Bool.or_false, Bool.true_or, Bool.false_or, Bool.not_true, Bool.not_false, cond_true, cond_false, d0, d0z, d1, d2, d3, d3z, d4z, d5] <;> first | rfl | (simp; done)) (by simp only [b_h3, bcode, pcode, ecode, fedP, Bool.and_true, Bool.true_and, Bool.and_false, Bool.false_and, Bool.or_true, Bool.or_false, Bool.true_or, Bool.false_or, Bool.not_true, Bool.not_false, cond_true, cond_false, d0, d0z, d1, d2, d3, d3z, d4z, d5] <;> first | rfl | (simp; done)) w (by kernel_rfl)


end Go.Proofs.Ytgaedhpeiamdfaa
