/-
  A joiner of frames: what Begin does, by the shapes of its memory, and by what comes of it.
-/
import Derived.Test.YtgaedhpeiamdfaaMessageJe
set_option linter.unusedVariables false
set_option linter.unusedSimpArgs false
set_option maxRecDepth 10000
open Go Go.Am
namespace Go.Proofs.Ytgaedhpeiamdfaa

def b_v0 (lim bad : Int) (op sum : Int) (begun last : Bool) (lacks : Int) (l : Bool) (o n : Int) : Value := (bif (bcode lim bad op sum begun o n == 0) then (bif (o == 0) then .int .i64 0 else .int .i64 0) else .int .i64 (bcode lim bad op sum begun o n))
abbrev zhkba0 (v0 : Int) (v1 : Bool) (v2 : Int) (v3 : Int) (v4 : Int) (v5 : Bool) (v6 : Bool) (v7 : Int) : Heap := [some (.cells [.int .i64 v0, .bool v1, .int .i64 v2, .int .i64 v3, .int .i64 v4, .pointer none, .slice none 0 0, .pointer none, .bool v5, .bool v6, .int .i64 v7] 51 none)]
abbrev zhkba1 (v0 : Int) (v1 : Bool) (v2 : Int) (v3 : Int) (v4 : Int) (v5 : Bool) (v6 : Bool) (v7 : Int) (v8 : Int) (v9 : Int) (v10 : Int) (v11 : Int) (v12 : Int) (v13 : Bool) : Heap := [some (.cells [.int .i64 v0, .bool v1, .int .i64 v2, .int .i64 v3, .int .i64 v4, .pointer none, .slice none 0 0, .pointer (some ⟨1, 0, none⟩), .bool v5, .bool v6, .int .i64 v7] 51 none), some (.cells [.int .i64 v8, .int .u8 v9, .int .u8 v10, .int .i32 v11, .int .i64 v12, .bool v13] 77 none)]
def b_h0 (lim bad : Int) (op sum : Int) (begun last : Bool) (lacks : Int) (l : Bool) (o n : Int) : Heap := (bif (bcode lim bad op sum begun o n == 0) then (bif (o == 0) then (zhkba0 lim true bad op (IntKind.wrap .i64 (sum + n)) true l n) else (zhkba1 lim true bad o (IntKind.wrap .i64 (sum + n)) true l n 0 0 0 0 0 false)) else (zhkba0 lim true (bcode lim bad op sum begun o n) op sum begun last lacks))
def b_pr0 (lim bad : Int) (op sum : Int) (begun last : Bool) (lacks : Int) (l : Bool) (o n : Int) : Prop := True
theorem fin_b0 {lim : Int} {bad : Int} {op : Int} {sum : Int} {begun : Bool} {last : Bool} {lacks : Int} {l : Bool} {o : Int} {n : Int} {v : Value} {h : Heap} (e1 : b_v0 lim bad op sum begun last lacks l o n = v) (e2 : b_h0 lim bad op sum begun last lacks l o n = h) (w : AEnds E 12 1 (startC E 12 [.pointer (some ⟨0, 0, none⟩), .bool l, .int .i64 o, .int .i64 n] (zhkba0 lim true bad op sum begun last lacks)) v h) (hl : Nat.ble 1 h.length = true) : CallOk E 12 [.pointer (some ⟨0, 0, none⟩), .bool l, .int .i64 o, .int .i64 n] (zhkba0 lim true bad op sum begun last lacks) (b_v0 lim bad op sum begun last lacks l o n) (b_h0 lim bad op sum begun last lacks l o n) := by
 rw [e1, e2]
 exact callOk_of_ends w (by kernel_rfl) (Nat.le_of_ble_eq_true hl)
theorem b0_all (lim bad : Int) (op sum : Int) (begun last : Bool) (lacks : Int) (l : Bool) (o n : Int) (hp : b_pr0 lim bad op sum begun last lacks l o n) : CallOk E 12 [.pointer (some ⟨0, 0, none⟩), .bool l, .int .i64 o, .int .i64 n] (zhkba0 lim true bad op sum begun last lacks) (b_v0 lim bad op sum begun last lacks l o n) (b_h0 lim bad op sum begun last lacks l o n) := by
 unfold b_pr0 at hp
 rcases Bool.eq_false_or_eq_true (bad != 0) with d0 | d0
 ·
  have d0z : (bad == 0) = false := by simpa using d0
  have w := b0_w0_0 lim bad op sum begun last lacks l o n d0
  exact fin_b0 (by simp only [b_v0, bS, bcode, d0, d0z] <;> first | rfl | simp) (by simp only [b_h0, bS, bcode, d0, d0z] <;> first | rfl | simp) w (by kernel_rfl)
 ·
  have d0z : (bad == 0) = true := by simpa using d0
  rcases Bool.eq_false_or_eq_true begun with d1 | d1
  ·
   rcases Bool.eq_false_or_eq_true (bad == 0) with d2 | d2
   ·
    have w := b0_w0_1 lim bad op sum begun last lacks l o n d2 d1 d0
    exact fin_b0 (by simp only [b_v0, bS, bcode, d0, d0z, d1, d2] <;> first | rfl | simp) (by simp only [b_h0, bS, bcode, d0, d0z, d1, d2] <;> first | rfl | simp) w (by kernel_rfl)
   ·
    exfalso; simp_all
  ·
   rcases Bool.eq_false_or_eq_true (decide (n < 0)) with d2 | d2
   ·
    rcases Bool.eq_false_or_eq_true (bad == 0) with d3 | d3
    ·
     have w := b0_w0_3 lim bad op sum begun last lacks l o n d3 d2 d1 d0
     exact fin_b0 (by simp only [b_v0, bS, bcode, d0, d0z, d1, d2, d3] <;> first | rfl | simp) (by simp only [b_h0, bS, bcode, d0, d0z, d1, d2, d3] <;> first | rfl | simp) w (by kernel_rfl)
    ·
     exfalso; simp_all
   ·
    rcases Bool.eq_false_or_eq_true (o != 0) with d3 | d3
    ·
     have d3z : (o == 0) = false := by simpa using d3
     rcases Bool.eq_false_or_eq_true (o != 1) with d4 | d4
     ·
      rcases Bool.eq_false_or_eq_true (o != 2) with d5 | d5
      ·
       rcases Bool.eq_false_or_eq_true (bad == 0) with d6 | d6
       ·
        have w := b0_w0_5 lim bad op sum begun last lacks l o n d6 d5 d4 d3 d2 d1 d0
        exact fin_b0 (by simp only [b_v0, bS, bcode, d0, d0z, d1, d2, d3, d3z, d4, d5, d6] <;> first | rfl | simp) (by simp only [b_h0, bS, bcode, d0, d0z, d1, d2, d3, d3z, d4, d5, d6] <;> first | rfl | simp) w (by kernel_rfl)
       ·
        exfalso; simp_all
      ·
       rcases Bool.eq_false_or_eq_true (!(o == 0) == (op != 0)) with d6 | d6
       ·
        have d6z : bop o op = true := d6
        rcases Bool.eq_false_or_eq_true (bad == 0) with d7 | d7
        ·
         have w := b0_w0_7 lim bad op sum begun last lacks l o n d7 d6 d5 d4 d3 d2 d1 d0
         exact fin_b0 (by simp only [b_v0, bS, bcode, d0, d0z, d1, d2, d3, d3z, d4, d5, d6z, d7] <;> first | rfl | simp) (by simp only [b_h0, bS, bcode, d0, d0z, d1, d2, d3, d3z, d4, d5, d6z, d7] <;> first | rfl | simp) w (by kernel_rfl)
        ·
         exfalso; simp_all
       ·
        have d6z : bop o op = false := d6
        rcases Bool.eq_false_or_eq_true (decide (IntKind.i64.wrap (lim - sum) < n)) with d7 | d7
        ·
         rcases Bool.eq_false_or_eq_true (bad == 0) with d8 | d8
         ·
          have w := b0_w0_9 lim bad op sum begun last lacks l o n d8 d7 d6 d5 d4 d3 d2 d1 d0
          exact fin_b0 (by simp only [b_v0, bS, bcode, d0, d0z, d1, d2, d3, d3z, d4, d5, d6z, d7, d8] <;> first | rfl | simp) (by simp only [b_h0, bS, bcode, d0, d0z, d1, d2, d3, d3z, d4, d5, d6z, d7, d8] <;> first | rfl | simp) w (by kernel_rfl)
         ·
          exfalso; simp_all
        ·
         have w := b0_w0_11 lim bad op sum begun last lacks l o n d3 d7 d6 d5 d4 d2 d1 d0
         exact fin_b0 (by simp only [b_v0, bS, bcode, d0, d0z, d1, d2, d3, d3z, d4, d5, d6z, d7] <;> first | rfl | simp) (by simp only [b_h0, bS, bcode, d0, d0z, d1, d2, d3, d3z, d4, d5, d6z, d7] <;> first | rfl | simp) w (by kernel_rfl)
     ·
      rcases Bool.eq_false_or_eq_true (!(o == 0) == (op != 0)) with d5 | d5
      ·
       have d5z : bop o op = true := d5
       rcases Bool.eq_false_or_eq_true (bad == 0) with d6 | d6
       ·
        have w := b0_w0_12 lim bad op sum begun last lacks l o n d6 d5 d4 d3 d2 d1 d0
        exact fin_b0 (by simp only [b_v0, bS, bcode, d0, d0z, d1, d2, d3, d3z, d4, d5z, d6] <;> first | rfl | simp) (by simp only [b_h0, bS, bcode, d0, d0z, d1, d2, d3, d3z, d4, d5z, d6] <;> first | rfl | simp) w (by kernel_rfl)
       ·
        exfalso; simp_all
      ·
       have d5z : bop o op = false := d5
       rcases Bool.eq_false_or_eq_true (decide (IntKind.i64.wrap (lim - sum) < n)) with d6 | d6
       ·
        rcases Bool.eq_false_or_eq_true (bad == 0) with d7 | d7
        ·
         have w := b0_w0_14 lim bad op sum begun last lacks l o n d7 d6 d5 d4 d3 d2 d1 d0
         exact fin_b0 (by simp only [b_v0, bS, bcode, d0, d0z, d1, d2, d3, d3z, d4, d5z, d6, d7] <;> first | rfl | simp) (by simp only [b_h0, bS, bcode, d0, d0z, d1, d2, d3, d3z, d4, d5z, d6, d7] <;> first | rfl | simp) w (by kernel_rfl)
        ·
         exfalso; simp_all
       ·
        have w := b0_w0_16 lim bad op sum begun last lacks l o n d3 d6 d5 d4 d2 d1 d0
        exact fin_b0 (by simp only [b_v0, bS, bcode, d0, d0z, d1, d2, d3, d3z, d4, d5z, d6] <;> first | rfl | simp) (by simp only [b_h0, bS, bcode, d0, d0z, d1, d2, d3, d3z, d4, d5z, d6] <;> first | rfl | simp) w (by kernel_rfl)
    ·
     have d3z : (o == 0) = true := by simpa using d3
     rcases Bool.eq_false_or_eq_true (!(o == 0) == (op != 0)) with d4 | d4
     ·
      have d4z : bop o op = true := d4
      rcases Bool.eq_false_or_eq_true (bad == 0) with d5 | d5
      ·
       have w := b0_w0_17 lim bad op sum begun last lacks l o n d5 d4 d3 d2 d1 d0
       exact fin_b0 (by simp only [b_v0, bS, bcode, d0, d0z, d1, d2, d3, d3z, d4z, d5] <;> first | rfl | simp) (by simp only [b_h0, bS, bcode, d0, d0z, d1, d2, d3, d3z, d4z, d5] <;> first | rfl | simp) w (by kernel_rfl)
      ·
       exfalso; simp_all
     ·
      have d4z : bop o op = false := d4
      rcases Bool.eq_false_or_eq_true (decide (IntKind.i64.wrap (lim - sum) < n)) with d5 | d5
      ·
       rcases Bool.eq_false_or_eq_true (bad == 0) with d6 | d6
       ·
        have w := b0_w0_19 lim bad op sum begun last lacks l o n d6 d5 d4 d3 d2 d1 d0
        exact fin_b0 (by simp only [b_v0, bS, bcode, d0, d0z, d1, d2, d3, d3z, d4z, d5, d6] <;> first | rfl | simp) (by simp only [b_h0, bS, bcode, d0, d0z, d1, d2, d3, d3z, d4z, d5, d6] <;> first | rfl | simp) w (by kernel_rfl)
       ·
        exfalso; simp_all
      ·
       have w := b0_w0_21 lim bad op sum begun last lacks l o n d3 d5 d4 d2 d1 d0
       exact fin_b0 (by simp only [b_v0, bS, bcode, d0, d0z, d1, d2, d3, d3z, d4z, d5] <;> first | rfl | simp) (by simp only [b_h0, bS, bcode, d0, d0z, d1, d2, d3, d3z, d4z, d5] <;> first | rfl | simp) w (by kernel_rfl)

def b_v1 (lim bad : Int) (op sum : Int) (begun last : Bool) (lacks left : Int) (low high : Int) (x at' : Int) (cbad l : Bool) (o n : Int) : Value := (bif (bcode lim bad op sum begun o n == 0) then (bif (o == 0) then .int .i64 0 else .int .i64 0) else .int .i64 (bcode lim bad op sum begun o n))
def b_h1 (lim bad : Int) (op sum : Int) (begun last : Bool) (lacks left : Int) (low high : Int) (x at' : Int) (cbad l : Bool) (o n : Int) : Heap := (bif (bcode lim bad op sum begun o n == 0) then (bif (o == 0) then (zhkba1 lim true bad op (IntKind.wrap .i64 (sum + n)) true l n left low high x at' cbad) else [some (.cells [.int .i64 lim, .bool true, .int .i64 bad, .int .i64 o, .int .i64 (IntKind.wrap .i64 (sum + n)), .pointer none, .slice none 0 0, .pointer (some ⟨2, 0, none⟩), .bool true, .bool l, .int .i64 n] 51 none), some (.cells [.int .i64 left, .int .u8 low, .int .u8 high, .int .i32 x, .int .i64 at', .bool cbad] 77 none), some (.cells [.int .i64 0, .int .u8 0, .int .u8 0, .int .i32 0, .int .i64 0, .bool false] 77 none)]) else (zhkba1 lim true (bcode lim bad op sum begun o n) op sum begun last lacks left low high x at' cbad))
def b_pr1 (lim bad : Int) (op sum : Int) (begun last : Bool) (lacks left : Int) (low high : Int) (x at' : Int) (cbad l : Bool) (o n : Int) : Prop := True
theorem fin_b1 {lim : Int} {bad : Int} {op : Int} {sum : Int} {begun : Bool} {last : Bool} {lacks : Int} {left : Int} {low : Int} {high : Int} {x : Int} {at' : Int} {cbad : Bool} {l : Bool} {o : Int} {n : Int} {v : Value} {h : Heap} (e1 : b_v1 lim bad op sum begun last lacks left low high x at' cbad l o n = v) (e2 : b_h1 lim bad op sum begun last lacks left low high x at' cbad l o n = h) (w : AEnds E 12 2 (startC E 12 [.pointer (some ⟨0, 0, none⟩), .bool l, .int .i64 o, .int .i64 n] (zhkba1 lim true bad op sum begun last lacks left low high x at' cbad)) v h) (hl : Nat.ble 2 h.length = true) : CallOk E 12 [.pointer (some ⟨0, 0, none⟩), .bool l, .int .i64 o, .int .i64 n] (zhkba1 lim true bad op sum begun last lacks left low high x at' cbad) (b_v1 lim bad op sum begun last lacks left low high x at' cbad l o n) (b_h1 lim bad op sum begun last lacks left low high x at' cbad l o n) := by
 rw [e1, e2]
 exact callOk_of_ends w (by kernel_rfl) (Nat.le_of_ble_eq_true hl)
theorem b1_all (lim bad : Int) (op sum : Int) (begun last : Bool) (lacks left : Int) (low high : Int) (x at' : Int) (cbad l : Bool) (o n : Int) (hp : b_pr1 lim bad op sum begun last lacks left low high x at' cbad l o n) : CallOk E 12 [.pointer (some ⟨0, 0, none⟩), .bool l, .int .i64 o, .int .i64 n] (zhkba1 lim true bad op sum begun last lacks left low high x at' cbad) (b_v1 lim bad op sum begun last lacks left low high x at' cbad l o n) (b_h1 lim bad op sum begun last lacks left low high x at' cbad l o n) := by
 unfold b_pr1 at hp
 rcases Bool.eq_false_or_eq_true (bad != 0) with d0 | d0
 ·
  have d0z : (bad == 0) = false := by simpa using d0
  have w := b1_w0_0 lim bad op sum begun last lacks left low high x at' cbad l o n d0
  exact fin_b1 (by simp only [b_v1, bS, bcode, d0, d0z] <;> first | rfl | simp) (by simp only [b_h1, bS, bcode, d0, d0z] <;> first | rfl | simp) w (by kernel_rfl)
 ·
  have d0z : (bad == 0) = true := by simpa using d0
  rcases Bool.eq_false_or_eq_true begun with d1 | d1
  ·
   rcases Bool.eq_false_or_eq_true (bad == 0) with d2 | d2
   ·
    have w := b1_w0_1 lim bad op sum begun last lacks left low high x at' cbad l o n d2 d1 d0
    exact fin_b1 (by simp only [b_v1, bS, bcode, d0, d0z, d1, d2] <;> first | rfl | simp) (by simp only [b_h1, bS, bcode, d0, d0z, d1, d2] <;> first | rfl | simp) w (by kernel_rfl)
   ·
    exfalso; simp_all
  ·
   rcases Bool.eq_false_or_eq_true (decide (n < 0)) with d2 | d2
   ·
    rcases Bool.eq_false_or_eq_true (bad == 0) with d3 | d3
    ·
     have w := b1_w0_3 lim bad op sum begun last lacks left low high x at' cbad l o n d3 d2 d1 d0
     exact fin_b1 (by simp only [b_v1, bS, bcode, d0, d0z, d1, d2, d3] <;> first | rfl | simp) (by simp only [b_h1, bS, bcode, d0, d0z, d1, d2, d3] <;> first | rfl | simp) w (by kernel_rfl)
    ·
     exfalso; simp_all
   ·
    rcases Bool.eq_false_or_eq_true (o != 0) with d3 | d3
    ·
     have d3z : (o == 0) = false := by simpa using d3
     rcases Bool.eq_false_or_eq_true (o != 1) with d4 | d4
     ·
      rcases Bool.eq_false_or_eq_true (o != 2) with d5 | d5
      ·
       rcases Bool.eq_false_or_eq_true (bad == 0) with d6 | d6
       ·
        have w := b1_w0_5 lim bad op sum begun last lacks left low high x at' cbad l o n d6 d5 d4 d3 d2 d1 d0
        exact fin_b1 (by simp only [b_v1, bS, bcode, d0, d0z, d1, d2, d3, d3z, d4, d5, d6] <;> first | rfl | simp) (by simp only [b_h1, bS, bcode, d0, d0z, d1, d2, d3, d3z, d4, d5, d6] <;> first | rfl | simp) w (by kernel_rfl)
       ·
        exfalso; simp_all
      ·
       rcases Bool.eq_false_or_eq_true (!(o == 0) == (op != 0)) with d6 | d6
       ·
        have d6z : bop o op = true := d6
        rcases Bool.eq_false_or_eq_true (bad == 0) with d7 | d7
        ·
         have w := b1_w0_7 lim bad op sum begun last lacks left low high x at' cbad l o n d7 d6 d5 d4 d3 d2 d1 d0
         exact fin_b1 (by simp only [b_v1, bS, bcode, d0, d0z, d1, d2, d3, d3z, d4, d5, d6z, d7] <;> first | rfl | simp) (by simp only [b_h1, bS, bcode, d0, d0z, d1, d2, d3, d3z, d4, d5, d6z, d7] <;> first | rfl | simp) w (by kernel_rfl)
        ·
         exfalso; simp_all
       ·
        have d6z : bop o op = false := d6
        rcases Bool.eq_false_or_eq_true (decide (IntKind.i64.wrap (lim - sum) < n)) with d7 | d7
        ·
         rcases Bool.eq_false_or_eq_true (bad == 0) with d8 | d8
         ·
          have w := b1_w0_9 lim bad op sum begun last lacks left low high x at' cbad l o n d8 d7 d6 d5 d4 d3 d2 d1 d0
          exact fin_b1 (by simp only [b_v1, bS, bcode, d0, d0z, d1, d2, d3, d3z, d4, d5, d6z, d7, d8] <;> first | rfl | simp) (by simp only [b_h1, bS, bcode, d0, d0z, d1, d2, d3, d3z, d4, d5, d6z, d7, d8] <;> first | rfl | simp) w (by kernel_rfl)
         ·
          exfalso; simp_all
        ·
         have w := b1_w0_11 lim bad op sum begun last lacks left low high x at' cbad l o n d3 d7 d6 d5 d4 d2 d1 d0
         exact fin_b1 (by simp only [b_v1, bS, bcode, d0, d0z, d1, d2, d3, d3z, d4, d5, d6z, d7] <;> first | rfl | simp) (by simp only [b_h1, bS, bcode, d0, d0z, d1, d2, d3, d3z, d4, d5, d6z, d7] <;> first | rfl | simp) w (by kernel_rfl)
     ·
      rcases Bool.eq_false_or_eq_true (!(o == 0) == (op != 0)) with d5 | d5
      ·
       have d5z : bop o op = true := d5
       rcases Bool.eq_false_or_eq_true (bad == 0) with d6 | d6
       ·
        have w := b1_w0_12 lim bad op sum begun last lacks left low high x at' cbad l o n d6 d5 d4 d3 d2 d1 d0
        exact fin_b1 (by simp only [b_v1, bS, bcode, d0, d0z, d1, d2, d3, d3z, d4, d5z, d6] <;> first | rfl | simp) (by simp only [b_h1, bS, bcode, d0, d0z, d1, d2, d3, d3z, d4, d5z, d6] <;> first | rfl | simp) w (by kernel_rfl)
       ·
        exfalso; simp_all
      ·
       have d5z : bop o op = false := d5
       rcases Bool.eq_false_or_eq_true (decide (IntKind.i64.wrap (lim - sum) < n)) with d6 | d6
       ·
        rcases Bool.eq_false_or_eq_true (bad == 0) with d7 | d7
        ·
         have w := b1_w0_14 lim bad op sum begun last lacks left low high x at' cbad l o n d7 d6 d5 d4 d3 d2 d1 d0
         exact fin_b1 (by simp only [b_v1, bS, bcode, d0, d0z, d1, d2, d3, d3z, d4, d5z, d6, d7] <;> first | rfl | simp) (by simp only [b_h1, bS, bcode, d0, d0z, d1, d2, d3, d3z, d4, d5z, d6, d7] <;> first | rfl | simp) w (by kernel_rfl)
        ·
         exfalso; simp_all
       ·
        have w := b1_w0_16 lim bad op sum begun last lacks left low high x at' cbad l o n d3 d6 d5 d4 d2 d1 d0
        exact fin_b1 (by simp only [b_v1, bS, bcode, d0, d0z, d1, d2, d3, d3z, d4, d5z, d6] <;> first | rfl | simp) (by simp only [b_h1, bS, bcode, d0, d0z, d1, d2, d3, d3z, d4, d5z, d6] <;> first | rfl | simp) w (by kernel_rfl)
    ·
     have d3z : (o == 0) = true := by simpa using d3
     rcases Bool.eq_false_or_eq_true (!(o == 0) == (op != 0)) with d4 | d4
     ·
      have d4z : bop o op = true := d4
      rcases Bool.eq_false_or_eq_true (bad == 0) with d5 | d5
      ·
       have w := b1_w0_17 lim bad op sum begun last lacks left low high x at' cbad l o n d5 d4 d3 d2 d1 d0
       exact fin_b1 (by simp only [b_v1, bS, bcode, d0, d0z, d1, d2, d3, d3z, d4z, d5] <;> first | rfl | simp) (by simp only [b_h1, bS, bcode, d0, d0z, d1, d2, d3, d3z, d4z, d5] <;> first | rfl | simp) w (by kernel_rfl)
      ·
       exfalso; simp_all
     ·
      have d4z : bop o op = false := d4
      rcases Bool.eq_false_or_eq_true (decide (IntKind.i64.wrap (lim - sum) < n)) with d5 | d5
      ·
       rcases Bool.eq_false_or_eq_true (bad == 0) with d6 | d6
       ·
        have w := b1_w0_19 lim bad op sum begun last lacks left low high x at' cbad l o n d6 d5 d4 d3 d2 d1 d0
        exact fin_b1 (by simp only [b_v1, bS, bcode, d0, d0z, d1, d2, d3, d3z, d4z, d5, d6] <;> first | rfl | simp) (by simp only [b_h1, bS, bcode, d0, d0z, d1, d2, d3, d3z, d4z, d5, d6] <;> first | rfl | simp) w (by kernel_rfl)
       ·
        exfalso; simp_all
      ·
       have w := b1_w0_21 lim bad op sum begun last lacks left low high x at' cbad l o n d3 d5 d4 d2 d1 d0
       exact fin_b1 (by simp only [b_v1, bS, bcode, d0, d0z, d1, d2, d3, d3z, d4z, d5] <;> first | rfl | simp) (by simp only [b_h1, bS, bcode, d0, d0z, d1, d2, d3, d3z, d4z, d5] <;> first | rfl | simp) w (by kernel_rfl)

def b_v2 (lim bad : Int) (op sum : Int) (begun last : Bool) (lacks left : Int) (low high : Int) (x at' : Int) (cbad l : Bool) (o n : Int) : Value := (bif (bcode lim bad op sum begun o n == 0) then (bif (o == 0) then .int .i64 0 else .int .i64 0) else .int .i64 (bcode lim bad op sum begun o n))
abbrev zhkba2 (v0 : Int) (v1 : Bool) (v2 : Int) (v3 : Int) (v4 : Int) (v5 : Bool) (v6 : Bool) (v7 : Int) (v8 : Int) (v9 : Int) (v10 : Int) (v11 : Int) (v12 : Int) (v13 : Bool) : Heap := [some (.cells [.int .i64 v0, .bool v1, .int .i64 v2, .int .i64 v3, .int .i64 v4, .pointer (some ⟨0, 5, none⟩), .slice none 0 0, .pointer (some ⟨1, 0, none⟩), .bool v5, .bool v6, .int .i64 v7] 51 none), some (.cells [.int .i64 v8, .int .u8 v9, .int .u8 v10, .int .i32 v11, .int .i64 v12, .bool v13] 77 none)]
def b_h2 (lim bad : Int) (op sum : Int) (begun last : Bool) (lacks left : Int) (low high : Int) (x at' : Int) (cbad l : Bool) (o n : Int) : Heap := (bif (bcode lim bad op sum begun o n == 0) then (bif (o == 0) then (zhkba2 lim true bad op (IntKind.wrap .i64 (sum + n)) true l n left low high x at' cbad) else [some (.cells [.int .i64 lim, .bool true, .int .i64 bad, .int .i64 o, .int .i64 (IntKind.wrap .i64 (sum + n)), .pointer (some ⟨0, 5, none⟩), .slice none 0 0, .pointer (some ⟨2, 0, none⟩), .bool true, .bool l, .int .i64 n] 51 none), some (.cells [.int .i64 left, .int .u8 low, .int .u8 high, .int .i32 x, .int .i64 at', .bool cbad] 77 none), some (.cells [.int .i64 0, .int .u8 0, .int .u8 0, .int .i32 0, .int .i64 0, .bool false] 77 none)]) else (zhkba2 lim true (bcode lim bad op sum begun o n) op sum begun last lacks left low high x at' cbad))
def b_pr2 (lim bad : Int) (op sum : Int) (begun last : Bool) (lacks left : Int) (low high : Int) (x at' : Int) (cbad l : Bool) (o n : Int) : Prop := True
theorem fin_b2 {lim : Int} {bad : Int} {op : Int} {sum : Int} {begun : Bool} {last : Bool} {lacks : Int} {left : Int} {low : Int} {high : Int} {x : Int} {at' : Int} {cbad : Bool} {l : Bool} {o : Int} {n : Int} {v : Value} {h : Heap} (e1 : b_v2 lim bad op sum begun last lacks left low high x at' cbad l o n = v) (e2 : b_h2 lim bad op sum begun last lacks left low high x at' cbad l o n = h) (w : AEnds E 12 2 (startC E 12 [.pointer (some ⟨0, 0, none⟩), .bool l, .int .i64 o, .int .i64 n] (zhkba2 lim true bad op sum begun last lacks left low high x at' cbad)) v h) (hl : Nat.ble 2 h.length = true) : CallOk E 12 [.pointer (some ⟨0, 0, none⟩), .bool l, .int .i64 o, .int .i64 n] (zhkba2 lim true bad op sum begun last lacks left low high x at' cbad) (b_v2 lim bad op sum begun last lacks left low high x at' cbad l o n) (b_h2 lim bad op sum begun last lacks left low high x at' cbad l o n) := by
 rw [e1, e2]
 exact callOk_of_ends w (by kernel_rfl) (Nat.le_of_ble_eq_true hl)
theorem b2_all (lim bad : Int) (op sum : Int) (begun last : Bool) (lacks left : Int) (low high : Int) (x at' : Int) (cbad l : Bool) (o n : Int) (hp : b_pr2 lim bad op sum begun last lacks left low high x at' cbad l o n) : CallOk E 12 [.pointer (some ⟨0, 0, none⟩), .bool l, .int .i64 o, .int .i64 n] (zhkba2 lim true bad op sum begun last lacks left low high x at' cbad) (b_v2 lim bad op sum begun last lacks left low high x at' cbad l o n) (b_h2 lim bad op sum begun last lacks left low high x at' cbad l o n) := by
 unfold b_pr2 at hp
 rcases Bool.eq_false_or_eq_true (bad != 0) with d0 | d0
 ·
  have d0z : (bad == 0) = false := by simpa using d0
  have w := b2_w0_0 lim bad op sum begun last lacks left low high x at' cbad l o n d0
  exact fin_b2 (by simp only [b_v2, bS, bcode, d0, d0z] <;> first | rfl | simp) (by simp only [b_h2, bS, bcode, d0, d0z] <;> first | rfl | simp) w (by kernel_rfl)
 ·
  have d0z : (bad == 0) = true := by simpa using d0
  rcases Bool.eq_false_or_eq_true begun with d1 | d1
  ·
   rcases Bool.eq_false_or_eq_true (bad == 0) with d2 | d2
   ·
    have w := b2_w0_1 lim bad op sum begun last lacks left low high x at' cbad l o n d2 d1 d0
    exact fin_b2 (by simp only [b_v2, bS, bcode, d0, d0z, d1, d2] <;> first | rfl | simp) (by simp only [b_h2, bS, bcode, d0, d0z, d1, d2] <;> first | rfl | simp) w (by kernel_rfl)
   ·
    exfalso; simp_all
  ·
   rcases Bool.eq_false_or_eq_true (decide (n < 0)) with d2 | d2
   ·
    rcases Bool.eq_false_or_eq_true (bad == 0) with d3 | d3
    ·
     have w := b2_w0_3 lim bad op sum begun last lacks left low high x at' cbad l o n d3 d2 d1 d0
     exact fin_b2 (by simp only [b_v2, bS, bcode, d0, d0z, d1, d2, d3] <;> first | rfl | simp) (by simp only [b_h2, bS, bcode, d0, d0z, d1, d2, d3] <;> first | rfl | simp) w (by kernel_rfl)
    ·
     exfalso; simp_all
   ·
    rcases Bool.eq_false_or_eq_true (o != 0) with d3 | d3
    ·
     have d3z : (o == 0) = false := by simpa using d3
     rcases Bool.eq_false_or_eq_true (o != 1) with d4 | d4
     ·
      rcases Bool.eq_false_or_eq_true (o != 2) with d5 | d5
      ·
       rcases Bool.eq_false_or_eq_true (bad == 0) with d6 | d6
       ·
        have w := b2_w0_5 lim bad op sum begun last lacks left low high x at' cbad l o n d6 d5 d4 d3 d2 d1 d0
        exact fin_b2 (by simp only [b_v2, bS, bcode, d0, d0z, d1, d2, d3, d3z, d4, d5, d6] <;> first | rfl | simp) (by simp only [b_h2, bS, bcode, d0, d0z, d1, d2, d3, d3z, d4, d5, d6] <;> first | rfl | simp) w (by kernel_rfl)
       ·
        exfalso; simp_all
      ·
       rcases Bool.eq_false_or_eq_true (!(o == 0) == (op != 0)) with d6 | d6
       ·
        have d6z : bop o op = true := d6
        rcases Bool.eq_false_or_eq_true (bad == 0) with d7 | d7
        ·
         have w := b2_w0_7 lim bad op sum begun last lacks left low high x at' cbad l o n d7 d6 d5 d4 d3 d2 d1 d0
         exact fin_b2 (by simp only [b_v2, bS, bcode, d0, d0z, d1, d2, d3, d3z, d4, d5, d6z, d7] <;> first | rfl | simp) (by simp only [b_h2, bS, bcode, d0, d0z, d1, d2, d3, d3z, d4, d5, d6z, d7] <;> first | rfl | simp) w (by kernel_rfl)
        ·
         exfalso; simp_all
       ·
        have d6z : bop o op = false := d6
        rcases Bool.eq_false_or_eq_true (decide (IntKind.i64.wrap (lim - sum) < n)) with d7 | d7
        ·
         rcases Bool.eq_false_or_eq_true (bad == 0) with d8 | d8
         ·
          have w := b2_w0_9 lim bad op sum begun last lacks left low high x at' cbad l o n d8 d7 d6 d5 d4 d3 d2 d1 d0
          exact fin_b2 (by simp only [b_v2, bS, bcode, d0, d0z, d1, d2, d3, d3z, d4, d5, d6z, d7, d8] <;> first | rfl | simp) (by simp only [b_h2, bS, bcode, d0, d0z, d1, d2, d3, d3z, d4, d5, d6z, d7, d8] <;> first | rfl | simp) w (by kernel_rfl)
         ·
          exfalso; simp_all
        ·
         have w := b2_w0_11 lim bad op sum begun last lacks left low high x at' cbad l o n d3 d7 d6 d5 d4 d2 d1 d0
         exact fin_b2 (by simp only [b_v2, bS, bcode, d0, d0z, d1, d2, d3, d3z, d4, d5, d6z, d7] <;> first | rfl | simp) (by simp only [b_h2, bS, bcode, d0, d0z, d1, d2, d3, d3z, d4, d5, d6z, d7] <;> first | rfl | simp) w (by kernel_rfl)
     ·
      rcases Bool.eq_false_or_eq_true (!(o == 0) == (op != 0)) with d5 | d5
      ·
       have d5z : bop o op = true := d5
       rcases Bool.eq_false_or_eq_true (bad == 0) with d6 | d6
       ·
        have w := b2_w0_12 lim bad op sum begun last lacks left low high x at' cbad l o n d6 d5 d4 d3 d2 d1 d0
        exact fin_b2 (by simp only [b_v2, bS, bcode, d0, d0z, d1, d2, d3, d3z, d4, d5z, d6] <;> first | rfl | simp) (by simp only [b_h2, bS, bcode, d0, d0z, d1, d2, d3, d3z, d4, d5z, d6] <;> first | rfl | simp) w (by kernel_rfl)
       ·
        exfalso; simp_all
      ·
       have d5z : bop o op = false := d5
       rcases Bool.eq_false_or_eq_true (decide (IntKind.i64.wrap (lim - sum) < n)) with d6 | d6
       ·
        rcases Bool.eq_false_or_eq_true (bad == 0) with d7 | d7
        ·
         have w := b2_w0_14 lim bad op sum begun last lacks left low high x at' cbad l o n d7 d6 d5 d4 d3 d2 d1 d0
         exact fin_b2 (by simp only [b_v2, bS, bcode, d0, d0z, d1, d2, d3, d3z, d4, d5z, d6, d7] <;> first | rfl | simp) (by simp only [b_h2, bS, bcode, d0, d0z, d1, d2, d3, d3z, d4, d5z, d6, d7] <;> first | rfl | simp) w (by kernel_rfl)
        ·
         exfalso; simp_all
       ·
        have w := b2_w0_16 lim bad op sum begun last lacks left low high x at' cbad l o n d3 d6 d5 d4 d2 d1 d0
        exact fin_b2 (by simp only [b_v2, bS, bcode, d0, d0z, d1, d2, d3, d3z, d4, d5z, d6] <;> first | rfl | simp) (by simp only [b_h2, bS, bcode, d0, d0z, d1, d2, d3, d3z, d4, d5z, d6] <;> first | rfl | simp) w (by kernel_rfl)
    ·
     have d3z : (o == 0) = true := by simpa using d3
     rcases Bool.eq_false_or_eq_true (!(o == 0) == (op != 0)) with d4 | d4
     ·
      have d4z : bop o op = true := d4
      rcases Bool.eq_false_or_eq_true (bad == 0) with d5 | d5
      ·
       have w := b2_w0_17 lim bad op sum begun last lacks left low high x at' cbad l o n d5 d4 d3 d2 d1 d0
       exact fin_b2 (by simp only [b_v2, bS, bcode, d0, d0z, d1, d2, d3, d3z, d4z, d5] <;> first | rfl | simp) (by simp only [b_h2, bS, bcode, d0, d0z, d1, d2, d3, d3z, d4z, d5] <;> first | rfl | simp) w (by kernel_rfl)
      ·
       exfalso; simp_all
     ·
      have d4z : bop o op = false := d4
      rcases Bool.eq_false_or_eq_true (decide (IntKind.i64.wrap (lim - sum) < n)) with d5 | d5
      ·
       rcases Bool.eq_false_or_eq_true (bad == 0) with d6 | d6
       ·
        have w := b2_w0_19 lim bad op sum begun last lacks left low high x at' cbad l o n d6 d5 d4 d3 d2 d1 d0
        exact fin_b2 (by simp only [b_v2, bS, bcode, d0, d0z, d1, d2, d3, d3z, d4z, d5, d6] <;> first | rfl | simp) (by simp only [b_h2, bS, bcode, d0, d0z, d1, d2, d3, d3z, d4z, d5, d6] <;> first | rfl | simp) w (by kernel_rfl)
       ·
        exfalso; simp_all
      ·
       have w := b2_w0_21 lim bad op sum begun last lacks left low high x at' cbad l o n d3 d5 d4 d2 d1 d0
       exact fin_b2 (by simp only [b_v2, bS, bcode, d0, d0z, d1, d2, d3, d3z, d4z, d5] <;> first | rfl | simp) (by simp only [b_h2, bS, bcode, d0, d0z, d1, d2, d3, d3z, d4z, d5] <;> first | rfl | simp) w (by kernel_rfl)

def b_v3 (lim bad : Int) (op sum : Int) (begun last : Bool) (lacks : Int) (bn : Nat) (B : List Value) (left low : Int) (high x at' : Int) (cbad l : Bool) (o n : Int) : Value := (bif (bcode lim bad op sum begun o n == 0) then (bif (o == 0) then .int .i64 0 else .int .i64 0) else .int .i64 (bcode lim bad op sum begun o n))
abbrev zhkba3 (v0 : Int) (v1 : Bool) (v2 : Int) (v3 : Int) (v4 : Int) (v5 : Bool) (v6 : Bool) (v7 : Int) (v8 : Int) (v9 : Int) (v10 : Int) (v11 : Int) (v12 : Int) (v13 : Bool) (B : List Value) (bn : Nat) : Heap := [some (.cells [.int .i64 v0, .bool v1, .int .i64 v2, .int .i64 v3, .int .i64 v4, .pointer (some ⟨0, 5, none⟩), .slice (some ⟨1, 0, none⟩) bn 0, .pointer (some ⟨2, 0, none⟩), .bool v5, .bool v6, .int .i64 v7] 51 none), some (.cells B 5 (some 1)), some (.cells [.int .i64 v8, .int .u8 v9, .int .u8 v10, .int .i32 v11, .int .i64 v12, .bool v13] 77 none)]
def b_h3 (lim bad : Int) (op sum : Int) (begun last : Bool) (lacks : Int) (bn : Nat) (B : List Value) (left low : Int) (high x at' : Int) (cbad l : Bool) (o n : Int) : Heap := (bif (bcode lim bad op sum begun o n == 0) then (bif (o == 0) then (zhkba3 lim true bad op (IntKind.wrap .i64 (sum + n)) true l n left low high x at' cbad B bn) else [some (.cells [.int .i64 lim, .bool true, .int .i64 bad, .int .i64 o, .int .i64 (IntKind.wrap .i64 (sum + n)), .pointer (some ⟨0, 5, none⟩), .slice (some ⟨1, 0, none⟩) bn 0, .pointer (some ⟨3, 0, none⟩), .bool true, .bool l, .int .i64 n] 51 none), some (.cells B 5 (some 1)), some (.cells [.int .i64 left, .int .u8 low, .int .u8 high, .int .i32 x, .int .i64 at', .bool cbad] 77 none), some (.cells [.int .i64 0, .int .u8 0, .int .u8 0, .int .i32 0, .int .i64 0, .bool false] 77 none)]) else (zhkba3 lim true (bcode lim bad op sum begun o n) op sum begun last lacks left low high x at' cbad B bn))
def b_pr3 (lim bad : Int) (op sum : Int) (begun last : Bool) (lacks : Int) (bn : Nat) (B : List Value) (left low : Int) (high x at' : Int) (cbad l : Bool) (o n : Int) : Prop := (∃ b : ByteArray, slen b = bn ∧ B = ofBytes b)
theorem fin_b3 {lim : Int} {bad : Int} {op : Int} {sum : Int} {begun : Bool} {last : Bool} {lacks : Int} {bn : Nat} {B : List Value} {left : Int} {low : Int} {high : Int} {x : Int} {at' : Int} {cbad : Bool} {l : Bool} {o : Int} {n : Int} {v : Value} {h : Heap} (e1 : b_v3 lim bad op sum begun last lacks bn B left low high x at' cbad l o n = v) (e2 : b_h3 lim bad op sum begun last lacks bn B left low high x at' cbad l o n = h) (w : AEnds E 12 3 (startC E 12 [.pointer (some ⟨0, 0, none⟩), .bool l, .int .i64 o, .int .i64 n] (zhkba3 lim true bad op sum begun last lacks left low high x at' cbad B bn)) v h) (hl : Nat.ble 3 h.length = true) : CallOk E 12 [.pointer (some ⟨0, 0, none⟩), .bool l, .int .i64 o, .int .i64 n] (zhkba3 lim true bad op sum begun last lacks left low high x at' cbad B bn) (b_v3 lim bad op sum begun last lacks bn B left low high x at' cbad l o n) (b_h3 lim bad op sum begun last lacks bn B left low high x at' cbad l o n) := by
 rw [e1, e2]
 exact callOk_of_ends w (by kernel_rfl) (Nat.le_of_ble_eq_true hl)
theorem b3_all (lim bad : Int) (op sum : Int) (begun last : Bool) (lacks : Int) (bn : Nat) (B : List Value) (left low : Int) (high x at' : Int) (cbad l : Bool) (o n : Int) (hp : b_pr3 lim bad op sum begun last lacks bn B left low high x at' cbad l o n) : CallOk E 12 [.pointer (some ⟨0, 0, none⟩), .bool l, .int .i64 o, .int .i64 n] (zhkba3 lim true bad op sum begun last lacks left low high x at' cbad B bn) (b_v3 lim bad op sum begun last lacks bn B left low high x at' cbad l o n) (b_h3 lim bad op sum begun last lacks bn B left low high x at' cbad l o n) := by
 unfold b_pr3 at hp
 obtain ⟨b, hb1, hb2⟩ := hp
 have hT : List.take (bn * 1) (List.drop 0 B) = B := by rw [hb2, List.drop_zero, Nat.mul_one, ← hb1, take_ob]
 have hV : List.take (bn : Int).toNat (List.drop 0 B) = B := by rw [hb2, List.drop_zero, Int.toNat_natCast, ← hb1, take_ob]
 rcases Bool.eq_false_or_eq_true (bad != 0) with d0 | d0
 ·
  have d0z : (bad == 0) = false := by simpa using d0
  have w := b3_w0_0 lim bad op sum begun last lacks bn B left low high x at' cbad l o n (by rw [hb2]; exact ob_flat b) d0
  try simp only [hT, hV] at w
  exact fin_b3 (by simp only [b_v3, bS, bcode, d0, d0z] <;> first | rfl | simp) (by simp only [b_h3, bS, bcode, d0, d0z] <;> first | rfl | simp) w (by kernel_rfl)
 ·
  have d0z : (bad == 0) = true := by simpa using d0
  rcases Bool.eq_false_or_eq_true begun with d1 | d1
  ·
   rcases Bool.eq_false_or_eq_true (bad == 0) with d2 | d2
   ·
    have w := b3_w0_1 lim bad op sum begun last lacks bn B left low high x at' cbad l o n (by rw [hb2]; exact ob_flat b) d2 d1 d0
    try simp only [hT, hV] at w
    exact fin_b3 (by simp only [b_v3, bS, bcode, d0, d0z, d1, d2] <;> first | rfl | simp) (by simp only [b_h3, bS, bcode, d0, d0z, d1, d2] <;> first | rfl | simp) w (by kernel_rfl)
   ·
    exfalso; simp_all
  ·
   rcases Bool.eq_false_or_eq_true (decide (n < 0)) with d2 | d2
   ·
    rcases Bool.eq_false_or_eq_true (bad == 0) with d3 | d3
    ·
     have w := b3_w0_3 lim bad op sum begun last lacks bn B left low high x at' cbad l o n (by rw [hb2]; exact ob_flat b) d3 d2 d1 d0
     try simp only [hT, hV] at w
     exact fin_b3 (by simp only [b_v3, bS, bcode, d0, d0z, d1, d2, d3] <;> first | rfl | simp) (by simp only [b_h3, bS, bcode, d0, d0z, d1, d2, d3] <;> first | rfl | simp) w (by kernel_rfl)
    ·
     exfalso; simp_all
   ·
    rcases Bool.eq_false_or_eq_true (o != 0) with d3 | d3
    ·
     have d3z : (o == 0) = false := by simpa using d3
     rcases Bool.eq_false_or_eq_true (o != 1) with d4 | d4
     ·
      rcases Bool.eq_false_or_eq_true (o != 2) with d5 | d5
      ·
       rcases Bool.eq_false_or_eq_true (bad == 0) with d6 | d6
       ·
        have w := b3_w0_5 lim bad op sum begun last lacks bn B left low high x at' cbad l o n (by rw [hb2]; exact ob_flat b) d6 d5 d4 d3 d2 d1 d0
        try simp only [hT, hV] at w
        exact fin_b3 (by simp only [b_v3, bS, bcode, d0, d0z, d1, d2, d3, d3z, d4, d5, d6] <;> first | rfl | simp) (by simp only [b_h3, bS, bcode, d0, d0z, d1, d2, d3, d3z, d4, d5, d6] <;> first | rfl | simp) w (by kernel_rfl)
       ·
        exfalso; simp_all
      ·
       rcases Bool.eq_false_or_eq_true (!(o == 0) == (op != 0)) with d6 | d6
       ·
        have d6z : bop o op = true := d6
        rcases Bool.eq_false_or_eq_true (bad == 0) with d7 | d7
        ·
         have w := b3_w0_7 lim bad op sum begun last lacks bn B left low high x at' cbad l o n (by rw [hb2]; exact ob_flat b) d7 d6 d5 d4 d3 d2 d1 d0
         try simp only [hT, hV] at w
         exact fin_b3 (by simp only [b_v3, bS, bcode, d0, d0z, d1, d2, d3, d3z, d4, d5, d6z, d7] <;> first | rfl | simp) (by simp only [b_h3, bS, bcode, d0, d0z, d1, d2, d3, d3z, d4, d5, d6z, d7] <;> first | rfl | simp) w (by kernel_rfl)
        ·
         exfalso; simp_all
       ·
        have d6z : bop o op = false := d6
        rcases Bool.eq_false_or_eq_true (decide (IntKind.i64.wrap (lim - sum) < n)) with d7 | d7
        ·
         rcases Bool.eq_false_or_eq_true (bad == 0) with d8 | d8
         ·
          have w := b3_w0_9 lim bad op sum begun last lacks bn B left low high x at' cbad l o n (by rw [hb2]; exact ob_flat b) d8 d7 d6 d5 d4 d3 d2 d1 d0
          try simp only [hT, hV] at w
          exact fin_b3 (by simp only [b_v3, bS, bcode, d0, d0z, d1, d2, d3, d3z, d4, d5, d6z, d7, d8] <;> first | rfl | simp) (by simp only [b_h3, bS, bcode, d0, d0z, d1, d2, d3, d3z, d4, d5, d6z, d7, d8] <;> first | rfl | simp) w (by kernel_rfl)
         ·
          exfalso; simp_all
        ·
         have w := b3_w0_11 lim bad op sum begun last lacks bn B left low high x at' cbad l o n (by rw [hb2]; exact ob_flat b) d3 d7 d6 d5 d4 d2 d1 d0
         try simp only [hT, hV] at w
         exact fin_b3 (by simp only [b_v3, bS, bcode, d0, d0z, d1, d2, d3, d3z, d4, d5, d6z, d7] <;> first | rfl | simp) (by simp only [b_h3, bS, bcode, d0, d0z, d1, d2, d3, d3z, d4, d5, d6z, d7] <;> first | rfl | simp) w (by kernel_rfl)
     ·
      rcases Bool.eq_false_or_eq_true (!(o == 0) == (op != 0)) with d5 | d5
      ·
       have d5z : bop o op = true := d5
       rcases Bool.eq_false_or_eq_true (bad == 0) with d6 | d6
       ·
        have w := b3_w0_12 lim bad op sum begun last lacks bn B left low high x at' cbad l o n (by rw [hb2]; exact ob_flat b) d6 d5 d4 d3 d2 d1 d0
        try simp only [hT, hV] at w
        exact fin_b3 (by simp only [b_v3, bS, bcode, d0, d0z, d1, d2, d3, d3z, d4, d5z, d6] <;> first | rfl | simp) (by simp only [b_h3, bS, bcode, d0, d0z, d1, d2, d3, d3z, d4, d5z, d6] <;> first | rfl | simp) w (by kernel_rfl)
       ·
        exfalso; simp_all
      ·
       have d5z : bop o op = false := d5
       rcases Bool.eq_false_or_eq_true (decide (IntKind.i64.wrap (lim - sum) < n)) with d6 | d6
       ·
        rcases Bool.eq_false_or_eq_true (bad == 0) with d7 | d7
        ·
         have w := b3_w0_14 lim bad op sum begun last lacks bn B left low high x at' cbad l o n (by rw [hb2]; exact ob_flat b) d7 d6 d5 d4 d3 d2 d1 d0
         try simp only [hT, hV] at w
         exact fin_b3 (by simp only [b_v3, bS, bcode, d0, d0z, d1, d2, d3, d3z, d4, d5z, d6, d7] <;> first | rfl | simp) (by simp only [b_h3, bS, bcode, d0, d0z, d1, d2, d3, d3z, d4, d5z, d6, d7] <;> first | rfl | simp) w (by kernel_rfl)
        ·
         exfalso; simp_all
       ·
        have w := b3_w0_16 lim bad op sum begun last lacks bn B left low high x at' cbad l o n (by rw [hb2]; exact ob_flat b) d3 d6 d5 d4 d2 d1 d0
        try simp only [hT, hV] at w
        exact fin_b3 (by simp only [b_v3, bS, bcode, d0, d0z, d1, d2, d3, d3z, d4, d5z, d6] <;> first | rfl | simp) (by simp only [b_h3, bS, bcode, d0, d0z, d1, d2, d3, d3z, d4, d5z, d6] <;> first | rfl | simp) w (by kernel_rfl)
    ·
     have d3z : (o == 0) = true := by simpa using d3
     rcases Bool.eq_false_or_eq_true (!(o == 0) == (op != 0)) with d4 | d4
     ·
      have d4z : bop o op = true := d4
      rcases Bool.eq_false_or_eq_true (bad == 0) with d5 | d5
      ·
       have w := b3_w0_17 lim bad op sum begun last lacks bn B left low high x at' cbad l o n (by rw [hb2]; exact ob_flat b) d5 d4 d3 d2 d1 d0
       try simp only [hT, hV] at w
       exact fin_b3 (by simp only [b_v3, bS, bcode, d0, d0z, d1, d2, d3, d3z, d4z, d5] <;> first | rfl | simp) (by simp only [b_h3, bS, bcode, d0, d0z, d1, d2, d3, d3z, d4z, d5] <;> first | rfl | simp) w (by kernel_rfl)
      ·
       exfalso; simp_all
     ·
      have d4z : bop o op = false := d4
      rcases Bool.eq_false_or_eq_true (decide (IntKind.i64.wrap (lim - sum) < n)) with d5 | d5
      ·
       rcases Bool.eq_false_or_eq_true (bad == 0) with d6 | d6
       ·
        have w := b3_w0_19 lim bad op sum begun last lacks bn B left low high x at' cbad l o n (by rw [hb2]; exact ob_flat b) d6 d5 d4 d3 d2 d1 d0
        try simp only [hT, hV] at w
        exact fin_b3 (by simp only [b_v3, bS, bcode, d0, d0z, d1, d2, d3, d3z, d4z, d5, d6] <;> first | rfl | simp) (by simp only [b_h3, bS, bcode, d0, d0z, d1, d2, d3, d3z, d4z, d5, d6] <;> first | rfl | simp) w (by kernel_rfl)
       ·
        exfalso; simp_all
      ·
       have w := b3_w0_21 lim bad op sum begun last lacks bn B left low high x at' cbad l o n (by rw [hb2]; exact ob_flat b) d3 d5 d4 d2 d1 d0
       try simp only [hT, hV] at w
       exact fin_b3 (by simp only [b_v3, bS, bcode, d0, d0z, d1, d2, d3, d3z, d4z, d5] <;> first | rfl | simp) (by simp only [b_h3, bS, bcode, d0, d0z, d1, d2, d3, d3z, d4z, d5] <;> first | rfl | simp) w (by kernel_rfl)


end Go.Proofs.Ytgaedhpeiamdfaa

/-
  A joiner of frames: what Piece does, by the shapes of its memory, and by what comes of it.
-/
set_option linter.unusedVariables false
set_option linter.unusedSimpArgs false
set_option maxRecDepth 10000
open Go Go.Am
namespace Go.Proofs.Ytgaedhpeiamdfaa

def p_v0 (lim bad : Int) (op sum : Int) (begun last : Bool) (lacks : Int) (s : ByteArray) : Value := .int .i64 (pcode bad lacks begun s)
abbrev zhkpa0 (v0 : Int) (v1 : Bool) (v2 : Int) (v3 : Int) (v4 : Int) (v5 : Bool) (v6 : Bool) (v7 : Int) : Heap := [some (.cells [.int .i64 v0, .bool v1, .int .i64 v2, .int .i64 v3, .int .i64 v4, .pointer none, .slice none 0 0, .pointer none, .bool v5, .bool v6, .int .i64 v7] 51 none)]
def p_h0 (lim bad : Int) (op sum : Int) (begun last : Bool) (lacks : Int) (s : ByteArray) : Heap := (zhkpa0 lim true (pcode bad lacks begun s) op sum begun last lacks)
def p_pr0 (lim bad : Int) (op sum : Int) (begun last : Bool) (lacks : Int) (s : ByteArray) : Prop := (begun = false)
theorem fin_p0 {lim : Int} {bad : Int} {op : Int} {sum : Int} {begun : Bool} {last : Bool} {lacks : Int} {s : ByteArray} {v : Value} {h : Heap} (e1 : p_v0 lim bad op sum begun last lacks s = v) (e2 : p_h0 lim bad op sum begun last lacks s = h) (w : AEnds E 14 1 (startC E 14 [.pointer (some ⟨0, 0, none⟩), .string s] (zhkpa0 lim true bad op sum begun last lacks)) v h) (hl : Nat.ble 1 h.length = true) : CallOk E 14 [.pointer (some ⟨0, 0, none⟩), .string s] (zhkpa0 lim true bad op sum begun last lacks) (p_v0 lim bad op sum begun last lacks s) (p_h0 lim bad op sum begun last lacks s) := by
 rw [e1, e2]
 exact callOk_of_ends w (by kernel_rfl) (Nat.le_of_ble_eq_true hl)
theorem p0_all (lim bad : Int) (op sum : Int) (begun last : Bool) (lacks : Int) (s : ByteArray) (hp : p_pr0 lim bad op sum begun last lacks s) : CallOk E 14 [.pointer (some ⟨0, 0, none⟩), .string s] (zhkpa0 lim true bad op sum begun last lacks) (p_v0 lim bad op sum begun last lacks s) (p_h0 lim bad op sum begun last lacks s) := by
 unfold p_pr0 at hp
 rcases Bool.eq_false_or_eq_true (bad != 0) with d0 | d0
 ·
  have d0z : (bad == 0) = false := by simpa using d0
  have w := p0_w0_0 lim bad op sum begun last lacks s d0
  try simp only [take_ob] at w
  exact fin_p0 (by simp only [p_v0, bS, pcode, fedP, d0, d0z] <;> first | rfl | simp) (by simp only [p_h0, bS, pcode, fedP, d0, d0z] <;> first | rfl | simp) w (by kernel_rfl)
 ·
  have d0z : (bad == 0) = true := by simpa using d0
  rcases Bool.eq_false_or_eq_true (!begun) with d1 | d1
  ·
   have d1z : (begun) = false := by simpa using d1
   rcases Bool.eq_false_or_eq_true (bad == 0) with d2 | d2
   ·
    have w := p0_w0_1 lim bad op sum begun last lacks s d2 d1 d0
    try simp only [take_ob] at w
    exact fin_p0 (by simp only [p_v0, bS, pcode, fedP, d0, d0z, d1, d1z, d2] <;> first | rfl | simp) (by simp only [p_h0, bS, pcode, fedP, d0, d0z, d1, d1z, d2] <;> first | rfl | simp) w (by kernel_rfl)
   ·
    exfalso; simp_all
  ·
   have d1z : (begun) = true := by simpa using d1
   exfalso; simp_all

def p_v1 (lim bad : Int) (op sum : Int) (begun last : Bool) (lacks left : Int) (low high : Int) (x at' : Int) (cbad : Bool) (s : ByteArray) : Value := (bif (pcode bad lacks begun s == 0) then (bif ((op == 1) && (fedP op left low high x at' cbad s).2.2) then .int .i64 1007 else (bif (decide (slen s = 0)) then .int .i64 0 else .int .i64 0)) else .int .i64 (pcode bad lacks begun s))
abbrev zhkpa1 (v0 : Int) (v1 : Bool) (v2 : Int) (v3 : Int) (v4 : Int) (v5 : Bool) (v6 : Bool) (v7 : Int) (v8 : Int) (v9 : Int) (v10 : Int) (v11 : Int) (v12 : Int) (v13 : Bool) : Heap := [some (.cells [.int .i64 v0, .bool v1, .int .i64 v2, .int .i64 v3, .int .i64 v4, .pointer none, .slice none 0 0, .pointer (some ⟨1, 0, none⟩), .bool v5, .bool v6, .int .i64 v7] 51 none), some (.cells [.int .i64 v8, .int .u8 v9, .int .u8 v10, .int .i32 v11, .int .i64 v12, .bool v13] 77 none)]
abbrev zhkpa2 (v0 : Int) (v1 : Bool) (v2 : Int) (v3 : Int) (v4 : Int) (v5 : Bool) (v6 : Bool) (v7 : Int) (v8 : Int) (v9 : Int) (v10 : Int) (v11 : Int) (v12 : Int) (v13 : Bool) : Heap := [some (.cells [.int .i64 v0, .bool v1, .int .i64 v2, .int .i64 v3, .int .i64 v4, .pointer (some ⟨0, 5, none⟩), .slice none 0 0, .pointer (some ⟨1, 0, none⟩), .bool v5, .bool v6, .int .i64 v7] 51 none), some (.cells [.int .i64 v8, .int .u8 v9, .int .u8 v10, .int .i32 v11, .int .i64 v12, .bool v13] 77 none)]
def p_h1 (lim bad : Int) (op sum : Int) (begun last : Bool) (lacks left : Int) (low high : Int) (x at' : Int) (cbad : Bool) (s : ByteArray) : Heap := (bif (pcode bad lacks begun s == 0) then (bif ((op == 1) && (fedP op left low high x at' cbad s).2.2) then (zhkpa1 lim true 1007 op sum begun last lacks (fedP op left low high x at' cbad s).1.1 (fedP op left low high x at' cbad s).1.2.1 (fedP op left low high x at' cbad s).1.2.2.1 (fedP op left low high x at' cbad s).1.2.2.2 (fedP op left low high x at' cbad s).2.1 (fedP op left low high x at' cbad s).2.2) else (bif (decide (slen s = 0)) then (zhkpa2 lim true bad op sum begun last (IntKind.wrap .i64 (lacks - (slen s : Int))) (fedP op left low high x at' cbad s).1.1 (fedP op left low high x at' cbad s).1.2.1 (fedP op left low high x at' cbad s).1.2.2.1 (fedP op left low high x at' cbad s).1.2.2.2 (fedP op left low high x at' cbad s).2.1 (fedP op left low high x at' cbad s).2.2) else [some (.cells [.int .i64 lim, .bool true, .int .i64 bad, .int .i64 op, .int .i64 sum, .pointer (some ⟨0, 5, none⟩), .slice (some ⟨2, 0, none⟩) (slen s) 0, .pointer (some ⟨1, 0, none⟩), .bool begun, .bool last, .int .i64 (IntKind.wrap .i64 (lacks - (slen s : Int)))] 51 none), some (.cells [.int .i64 (fedP op left low high x at' cbad s).1.1, .int .u8 (fedP op left low high x at' cbad s).1.2.1, .int .u8 (fedP op left low high x at' cbad s).1.2.2.1, .int .i32 (fedP op left low high x at' cbad s).1.2.2.2, .int .i64 (fedP op left low high x at' cbad s).2.1, .bool (fedP op left low high x at' cbad s).2.2] 77 none), some (.cells (ofBytes s) 5 (some 1))])) else (zhkpa1 lim true (pcode bad lacks begun s) op sum begun last lacks left low high x at' cbad))
def p_pr1 (lim bad : Int) (op sum : Int) (begun last : Bool) (lacks left : Int) (low high : Int) (x at' : Int) (cbad : Bool) (s : ByteArray) : Prop := (0 ≤ at') ∧ (at' ≤ 1000000) ∧ (slen s ≤ 1000000)
theorem fin_p1 {lim : Int} {bad : Int} {op : Int} {sum : Int} {begun : Bool} {last : Bool} {lacks : Int} {left : Int} {low : Int} {high : Int} {x : Int} {at' : Int} {cbad : Bool} {s : ByteArray} {v : Value} {h : Heap} (e1 : p_v1 lim bad op sum begun last lacks left low high x at' cbad s = v) (e2 : p_h1 lim bad op sum begun last lacks left low high x at' cbad s = h) (w : AEnds E 14 2 (startC E 14 [.pointer (some ⟨0, 0, none⟩), .string s] (zhkpa1 lim true bad op sum begun last lacks left low high x at' cbad)) v h) (hl : Nat.ble 2 h.length = true) : CallOk E 14 [.pointer (some ⟨0, 0, none⟩), .string s] (zhkpa1 lim true bad op sum begun last lacks left low high x at' cbad) (p_v1 lim bad op sum begun last lacks left low high x at' cbad s) (p_h1 lim bad op sum begun last lacks left low high x at' cbad s) := by
 rw [e1, e2]
 exact callOk_of_ends w (by kernel_rfl) (Nat.le_of_ble_eq_true hl)
theorem p1_all (lim bad : Int) (op sum : Int) (begun last : Bool) (lacks left : Int) (low high : Int) (x at' : Int) (cbad : Bool) (s : ByteArray) (hp : p_pr1 lim bad op sum begun last lacks left low high x at' cbad s) : CallOk E 14 [.pointer (some ⟨0, 0, none⟩), .string s] (zhkpa1 lim true bad op sum begun last lacks left low high x at' cbad) (p_v1 lim bad op sum begun last lacks left low high x at' cbad s) (p_h1 lim bad op sum begun last lacks left low high x at' cbad s) := by
 unfold p_pr1 at hp
 rcases Bool.eq_false_or_eq_true (bad != 0) with d0 | d0
 ·
  have d0z : (bad == 0) = false := by simpa using d0
  have w := p1_w0_0 lim bad op sum begun last lacks left low high x at' cbad s d0
  try simp only [take_ob] at w
  exact fin_p1 (by simp only [p_v1, bS, pcode, fedP, d0, d0z] <;> first | rfl | simp) (by simp only [p_h1, bS, pcode, fedP, d0, d0z] <;> first | rfl | simp) w (by kernel_rfl)
 ·
  have d0z : (bad == 0) = true := by simpa using d0
  rcases Bool.eq_false_or_eq_true (!begun) with d1 | d1
  ·
   have d1z : (begun) = false := by simpa using d1
   rcases Bool.eq_false_or_eq_true (bad == 0) with d2 | d2
   ·
    have w := p1_w0_1 lim bad op sum begun last lacks left low high x at' cbad s d2 d1 d0
    try simp only [take_ob] at w
    exact fin_p1 (by simp only [p_v1, bS, pcode, fedP, d0, d0z, d1, d1z, d2] <;> first | rfl | simp) (by simp only [p_h1, bS, pcode, fedP, d0, d0z, d1, d1z, d2] <;> first | rfl | simp) w (by kernel_rfl)
   ·
    exfalso; simp_all
  ·
   have d1z : (begun) = true := by simpa using d1
   rcases Bool.eq_false_or_eq_true (decide (lacks < (↑(slen s) : Int))) with d2 | d2
   ·
    rcases Bool.eq_false_or_eq_true (bad == 0) with d3 | d3
    ·
     have w := p1_w0_3 lim bad op sum begun last lacks left low high x at' cbad s d3 d2 d1 d0
     try simp only [take_ob] at w
     exact fin_p1 (by simp only [p_v1, bS, pcode, fedP, d0, d0z, d1, d1z, d2, d3] <;> first | rfl | simp) (by simp only [p_h1, bS, pcode, fedP, d0, d0z, d1, d1z, d2, d3] <;> first | rfl | simp) w (by kernel_rfl)
    ·
     exfalso; simp_all
   ·
    rcases Bool.eq_false_or_eq_true (op == 1) with d3 | d3
    ·
     rcases Bool.eq_false_or_eq_true (!!(feedL (left, low, high, x) at' cbad (toL s)).snd.snd) with d4 | d4
     ·
      have d4z : (feedL (left, low, high, x) at' cbad (toL s)).snd.snd = true := by simpa using d4
      rcases Bool.eq_false_or_eq_true (bad == 0) with d5 | d5
      ·
       have w := p1_w0_5 lim bad op sum begun last lacks left low high x at' cbad s _ rfl d5 d4 ⟨by omega, by omega, by omega⟩ d3 d2 d1 d0
       try simp only [take_ob] at w
       exact fin_p1 (by simp only [p_v1, bS, pcode, fedP, d0, d0z, d1, d1z, d2, d3, d4, d4z, d5] <;> first | rfl | simp) (by simp only [p_h1, bS, pcode, fedP, d0, d0z, d1, d1z, d2, d3, d4, d4z, d5] <;> first | rfl | simp) w (by kernel_rfl)
      ·
       exfalso; simp_all
     ·
      have d4z : (feedL (left, low, high, x) at' cbad (toL s)).snd.snd = false := by simpa using d4
      rcases Bool.eq_false_or_eq_true (decide (slen s = 0)) with d5 | d5
      ·
       have w := p1_w0_7 lim bad op sum begun last lacks left low high x at' cbad s _ rfl d5 d4 ⟨by omega, by omega, by omega⟩ d3 d2 d1 d0
       try simp only [take_ob] at w
       exact fin_p1 (by simp only [p_v1, bS, pcode, fedP, d0, d0z, d1, d1z, d2, d3, d4, d4z, d5] <;> first | rfl | simp) (by simp only [p_h1, bS, pcode, fedP, d0, d0z, d1, d1z, d2, d3, d4, d4z, d5] <;> first | rfl | simp) w (by kernel_rfl)
      ·
       have w := p1_w0_8 lim bad op sum begun last lacks left low high x at' cbad s _ rfl (ob_tf s) (ob_to s) (Nat.le_refl _) (by have := of_decide_eq_false d5; omega) (by omega) (by omega) d5 d4 ⟨by omega, by omega, by omega⟩ d3 d2 d1 d0
       try simp only [take_ob] at w
       exact fin_p1 (by simp only [p_v1, bS, pcode, fedP, d0, d0z, d1, d1z, d2, d3, d4, d4z, d5] <;> first | rfl | simp) (by simp only [p_h1, bS, pcode, fedP, d0, d0z, d1, d1z, d2, d3, d4, d4z, d5] <;> first | rfl | simp) w (by kernel_rfl)
    ·
     rcases Bool.eq_false_or_eq_true (decide (slen s = 0)) with d4 | d4
     ·
      have w := p1_w0_9 lim bad op sum begun last lacks left low high x at' cbad s d4 d3 d2 d1 d0
      try simp only [take_ob] at w
      exact fin_p1 (by simp only [p_v1, bS, pcode, fedP, d0, d0z, d1, d1z, d2, d3, d4] <;> first | rfl | simp) (by simp only [p_h1, bS, pcode, fedP, d0, d0z, d1, d1z, d2, d3, d4] <;> first | rfl | simp) w (by kernel_rfl)
     ·
      have w := p1_w0_10 lim bad op sum begun last lacks left low high x at' cbad s (ob_tf s) (ob_to s) (Nat.le_refl _) (by have := of_decide_eq_false d4; omega) (by omega) (by omega) d4 d3 d2 d1 d0
      try simp only [take_ob] at w
      exact fin_p1 (by simp only [p_v1, bS, pcode, fedP, d0, d0z, d1, d1z, d2, d3, d4] <;> first | rfl | simp) (by simp only [p_h1, bS, pcode, fedP, d0, d0z, d1, d1z, d2, d3, d4] <;> first | rfl | simp) w (by kernel_rfl)

def p_v2 (lim bad : Int) (op sum : Int) (begun last : Bool) (lacks left : Int) (low high : Int) (x at' : Int) (cbad : Bool) (s : ByteArray) : Value := (bif (pcode bad lacks begun s == 0) then (bif ((op == 1) && (fedP op left low high x at' cbad s).2.2) then .int .i64 1007 else (bif (decide (slen s = 0)) then .int .i64 0 else .int .i64 0)) else .int .i64 (pcode bad lacks begun s))
def p_h2 (lim bad : Int) (op sum : Int) (begun last : Bool) (lacks left : Int) (low high : Int) (x at' : Int) (cbad : Bool) (s : ByteArray) : Heap := (bif (pcode bad lacks begun s == 0) then (bif ((op == 1) && (fedP op left low high x at' cbad s).2.2) then (zhkpa2 lim true 1007 op sum begun last lacks (fedP op left low high x at' cbad s).1.1 (fedP op left low high x at' cbad s).1.2.1 (fedP op left low high x at' cbad s).1.2.2.1 (fedP op left low high x at' cbad s).1.2.2.2 (fedP op left low high x at' cbad s).2.1 (fedP op left low high x at' cbad s).2.2) else (bif (decide (slen s = 0)) then (zhkpa2 lim true bad op sum begun last (IntKind.wrap .i64 (lacks - (slen s : Int))) (fedP op left low high x at' cbad s).1.1 (fedP op left low high x at' cbad s).1.2.1 (fedP op left low high x at' cbad s).1.2.2.1 (fedP op left low high x at' cbad s).1.2.2.2 (fedP op left low high x at' cbad s).2.1 (fedP op left low high x at' cbad s).2.2) else [some (.cells [.int .i64 lim, .bool true, .int .i64 bad, .int .i64 op, .int .i64 sum, .pointer (some ⟨0, 5, none⟩), .slice (some ⟨2, 0, none⟩) (slen s) 0, .pointer (some ⟨1, 0, none⟩), .bool begun, .bool last, .int .i64 (IntKind.wrap .i64 (lacks - (slen s : Int)))] 51 none), some (.cells [.int .i64 (fedP op left low high x at' cbad s).1.1, .int .u8 (fedP op left low high x at' cbad s).1.2.1, .int .u8 (fedP op left low high x at' cbad s).1.2.2.1, .int .i32 (fedP op left low high x at' cbad s).1.2.2.2, .int .i64 (fedP op left low high x at' cbad s).2.1, .bool (fedP op left low high x at' cbad s).2.2] 77 none), some (.cells (ofBytes s) 5 (some 1))])) else (zhkpa2 lim true (pcode bad lacks begun s) op sum begun last lacks left low high x at' cbad))
def p_pr2 (lim bad : Int) (op sum : Int) (begun last : Bool) (lacks left : Int) (low high : Int) (x at' : Int) (cbad : Bool) (s : ByteArray) : Prop := (0 ≤ at') ∧ (at' ≤ 1000000) ∧ (slen s ≤ 1000000)
theorem fin_p2 {lim : Int} {bad : Int} {op : Int} {sum : Int} {begun : Bool} {last : Bool} {lacks : Int} {left : Int} {low : Int} {high : Int} {x : Int} {at' : Int} {cbad : Bool} {s : ByteArray} {v : Value} {h : Heap} (e1 : p_v2 lim bad op sum begun last lacks left low high x at' cbad s = v) (e2 : p_h2 lim bad op sum begun last lacks left low high x at' cbad s = h) (w : AEnds E 14 2 (startC E 14 [.pointer (some ⟨0, 0, none⟩), .string s] (zhkpa2 lim true bad op sum begun last lacks left low high x at' cbad)) v h) (hl : Nat.ble 2 h.length = true) : CallOk E 14 [.pointer (some ⟨0, 0, none⟩), .string s] (zhkpa2 lim true bad op sum begun last lacks left low high x at' cbad) (p_v2 lim bad op sum begun last lacks left low high x at' cbad s) (p_h2 lim bad op sum begun last lacks left low high x at' cbad s) := by
 rw [e1, e2]
 exact callOk_of_ends w (by kernel_rfl) (Nat.le_of_ble_eq_true hl)
theorem p2_all (lim bad : Int) (op sum : Int) (begun last : Bool) (lacks left : Int) (low high : Int) (x at' : Int) (cbad : Bool) (s : ByteArray) (hp : p_pr2 lim bad op sum begun last lacks left low high x at' cbad s) : CallOk E 14 [.pointer (some ⟨0, 0, none⟩), .string s] (zhkpa2 lim true bad op sum begun last lacks left low high x at' cbad) (p_v2 lim bad op sum begun last lacks left low high x at' cbad s) (p_h2 lim bad op sum begun last lacks left low high x at' cbad s) := by
 unfold p_pr2 at hp
 rcases Bool.eq_false_or_eq_true (bad != 0) with d0 | d0
 ·
  have d0z : (bad == 0) = false := by simpa using d0
  have w := p2_w0_0 lim bad op sum begun last lacks left low high x at' cbad s d0
  try simp only [take_ob] at w
  exact fin_p2 (by simp only [p_v2, bS, pcode, fedP, d0, d0z] <;> first | rfl | simp) (by simp only [p_h2, bS, pcode, fedP, d0, d0z] <;> first | rfl | simp) w (by kernel_rfl)
 ·
  have d0z : (bad == 0) = true := by simpa using d0
  rcases Bool.eq_false_or_eq_true (!begun) with d1 | d1
  ·
   have d1z : (begun) = false := by simpa using d1
   rcases Bool.eq_false_or_eq_true (bad == 0) with d2 | d2
   ·
    have w := p2_w0_1 lim bad op sum begun last lacks left low high x at' cbad s d2 d1 d0
    try simp only [take_ob] at w
    exact fin_p2 (by simp only [p_v2, bS, pcode, fedP, d0, d0z, d1, d1z, d2] <;> first | rfl | simp) (by simp only [p_h2, bS, pcode, fedP, d0, d0z, d1, d1z, d2] <;> first | rfl | simp) w (by kernel_rfl)
   ·
    exfalso; simp_all
  ·
   have d1z : (begun) = true := by simpa using d1
   rcases Bool.eq_false_or_eq_true (decide (lacks < (↑(slen s) : Int))) with d2 | d2
   ·
    rcases Bool.eq_false_or_eq_true (bad == 0) with d3 | d3
    ·
     have w := p2_w0_3 lim bad op sum begun last lacks left low high x at' cbad s d3 d2 d1 d0
     try simp only [take_ob] at w
     exact fin_p2 (by simp only [p_v2, bS, pcode, fedP, d0, d0z, d1, d1z, d2, d3] <;> first | rfl | simp) (by simp only [p_h2, bS, pcode, fedP, d0, d0z, d1, d1z, d2, d3] <;> first | rfl | simp) w (by kernel_rfl)
    ·
     exfalso; simp_all
   ·
    rcases Bool.eq_false_or_eq_true (op == 1) with d3 | d3
    ·
     rcases Bool.eq_false_or_eq_true (!!(feedL (left, low, high, x) at' cbad (toL s)).snd.snd) with d4 | d4
     ·
      have d4z : (feedL (left, low, high, x) at' cbad (toL s)).snd.snd = true := by simpa using d4
      rcases Bool.eq_false_or_eq_true (bad == 0) with d5 | d5
      ·
       have w := p2_w0_5 lim bad op sum begun last lacks left low high x at' cbad s _ rfl d5 d4 ⟨by omega, by omega, by omega⟩ d3 d2 d1 d0
       try simp only [take_ob] at w
       exact fin_p2 (by simp only [p_v2, bS, pcode, fedP, d0, d0z, d1, d1z, d2, d3, d4, d4z, d5] <;> first | rfl | simp) (by simp only [p_h2, bS, pcode, fedP, d0, d0z, d1, d1z, d2, d3, d4, d4z, d5] <;> first | rfl | simp) w (by kernel_rfl)
      ·
       exfalso; simp_all
     ·
      have d4z : (feedL (left, low, high, x) at' cbad (toL s)).snd.snd = false := by simpa using d4
      rcases Bool.eq_false_or_eq_true (decide (slen s = 0)) with d5 | d5
      ·
       have w := p2_w0_7 lim bad op sum begun last lacks left low high x at' cbad s _ rfl d5 d4 ⟨by omega, by omega, by omega⟩ d3 d2 d1 d0
       try simp only [take_ob] at w
       exact fin_p2 (by simp only [p_v2, bS, pcode, fedP, d0, d0z, d1, d1z, d2, d3, d4, d4z, d5] <;> first | rfl | simp) (by simp only [p_h2, bS, pcode, fedP, d0, d0z, d1, d1z, d2, d3, d4, d4z, d5] <;> first | rfl | simp) w (by kernel_rfl)
      ·
       have w := p2_w0_8 lim bad op sum begun last lacks left low high x at' cbad s _ rfl (ob_tf s) (ob_to s) (Nat.le_refl _) (by have := of_decide_eq_false d5; omega) (by omega) (by omega) d5 d4 ⟨by omega, by omega, by omega⟩ d3 d2 d1 d0
       try simp only [take_ob] at w
       exact fin_p2 (by simp only [p_v2, bS, pcode, fedP, d0, d0z, d1, d1z, d2, d3, d4, d4z, d5] <;> first | rfl | simp) (by simp only [p_h2, bS, pcode, fedP, d0, d0z, d1, d1z, d2, d3, d4, d4z, d5] <;> first | rfl | simp) w (by kernel_rfl)
    ·
     rcases Bool.eq_false_or_eq_true (decide (slen s = 0)) with d4 | d4
     ·
      have w := p2_w0_9 lim bad op sum begun last lacks left low high x at' cbad s d4 d3 d2 d1 d0
      try simp only [take_ob] at w
      exact fin_p2 (by simp only [p_v2, bS, pcode, fedP, d0, d0z, d1, d1z, d2, d3, d4] <;> first | rfl | simp) (by simp only [p_h2, bS, pcode, fedP, d0, d0z, d1, d1z, d2, d3, d4] <;> first | rfl | simp) w (by kernel_rfl)
     ·
      have w := p2_w0_10 lim bad op sum begun last lacks left low high x at' cbad s (ob_tf s) (ob_to s) (Nat.le_refl _) (by have := of_decide_eq_false d4; omega) (by omega) (by omega) d4 d3 d2 d1 d0
      try simp only [take_ob] at w
      exact fin_p2 (by simp only [p_v2, bS, pcode, fedP, d0, d0z, d1, d1z, d2, d3, d4] <;> first | rfl | simp) (by simp only [p_h2, bS, pcode, fedP, d0, d0z, d1, d1z, d2, d3, d4] <;> first | rfl | simp) w (by kernel_rfl)

def p_v3 (lim bad : Int) (op sum : Int) (begun last : Bool) (lacks : Int) (bn : Nat) (B : List Value) (left low : Int) (high x at' : Int) (cbad : Bool) (s : ByteArray) : Value := (bif (pcode bad lacks begun s == 0) then (bif ((op == 1) && (fedP op left low high x at' cbad s).2.2) then .int .i64 1007 else .int .i64 0) else .int .i64 (pcode bad lacks begun s))
abbrev zhkpa3 (v0 : Int) (v1 : Bool) (v2 : Int) (v3 : Int) (v4 : Int) (v5 : Bool) (v6 : Bool) (v7 : Int) (v8 : Int) (v9 : Int) (v10 : Int) (v11 : Int) (v12 : Int) (v13 : Bool) (B : List Value) (bn : Nat) : Heap := [some (.cells [.int .i64 v0, .bool v1, .int .i64 v2, .int .i64 v3, .int .i64 v4, .pointer (some ⟨0, 5, none⟩), .slice (some ⟨1, 0, none⟩) bn 0, .pointer (some ⟨2, 0, none⟩), .bool v5, .bool v6, .int .i64 v7] 51 none), some (.cells B 5 (some 1)), some (.cells [.int .i64 v8, .int .u8 v9, .int .u8 v10, .int .i32 v11, .int .i64 v12, .bool v13] 77 none)]
def p_h3 (lim bad : Int) (op sum : Int) (begun last : Bool) (lacks : Int) (bn : Nat) (B : List Value) (left low : Int) (high x at' : Int) (cbad : Bool) (s : ByteArray) : Heap := (bif (pcode bad lacks begun s == 0) then (bif ((op == 1) && (fedP op left low high x at' cbad s).2.2) then (zhkpa3 lim true 1007 op sum begun last lacks (fedP op left low high x at' cbad s).1.1 (fedP op left low high x at' cbad s).1.2.1 (fedP op left low high x at' cbad s).1.2.2.1 (fedP op left low high x at' cbad s).1.2.2.2 (fedP op left low high x at' cbad s).2.1 (fedP op left low high x at' cbad s).2.2 B bn) else [some (.cells [.int .i64 lim, .bool true, .int .i64 bad, .int .i64 op, .int .i64 sum, .pointer (some ⟨0, 5, none⟩), .slice (some ⟨3, 0, none⟩) (bn + slen s) 0, .pointer (some ⟨2, 0, none⟩), .bool begun, .bool last, .int .i64 (IntKind.wrap .i64 (lacks - (slen s : Int)))] 51 none), none, some (.cells [.int .i64 (fedP op left low high x at' cbad s).1.1, .int .u8 (fedP op left low high x at' cbad s).1.2.1, .int .u8 (fedP op left low high x at' cbad s).1.2.2.1, .int .i32 (fedP op left low high x at' cbad s).1.2.2.2, .int .i64 (fedP op left low high x at' cbad s).2.1, .bool (fedP op left low high x at' cbad s).2.2] 77 none), some (.cells (B ++ ofBytes s) 5 (some 1))]) else (zhkpa3 lim true (pcode bad lacks begun s) op sum begun last lacks left low high x at' cbad B bn))
def p_pr3 (lim bad : Int) (op sum : Int) (begun last : Bool) (lacks : Int) (bn : Nat) (B : List Value) (left low : Int) (high x at' : Int) (cbad : Bool) (s : ByteArray) : Prop := (∃ b : ByteArray, slen b = bn ∧ B = ofBytes b) ∧ (0 ≤ at') ∧ (at' ≤ 1000000) ∧ (slen s ≤ 1000000) ∧ (bn ≤ 1000000000)
theorem fin_p3 {lim : Int} {bad : Int} {op : Int} {sum : Int} {begun : Bool} {last : Bool} {lacks : Int} {bn : Nat} {B : List Value} {left : Int} {low : Int} {high : Int} {x : Int} {at' : Int} {cbad : Bool} {s : ByteArray} {v : Value} {h : Heap} (e1 : p_v3 lim bad op sum begun last lacks bn B left low high x at' cbad s = v) (e2 : p_h3 lim bad op sum begun last lacks bn B left low high x at' cbad s = h) (w : AEnds E 14 3 (startC E 14 [.pointer (some ⟨0, 0, none⟩), .string s] (zhkpa3 lim true bad op sum begun last lacks left low high x at' cbad B bn)) v h) (hl : Nat.ble 3 h.length = true) : CallOk E 14 [.pointer (some ⟨0, 0, none⟩), .string s] (zhkpa3 lim true bad op sum begun last lacks left low high x at' cbad B bn) (p_v3 lim bad op sum begun last lacks bn B left low high x at' cbad s) (p_h3 lim bad op sum begun last lacks bn B left low high x at' cbad s) := by
 rw [e1, e2]
 exact callOk_of_ends w (by kernel_rfl) (Nat.le_of_ble_eq_true hl)
theorem p3_all (lim bad : Int) (op sum : Int) (begun last : Bool) (lacks : Int) (bn : Nat) (B : List Value) (left low : Int) (high x at' : Int) (cbad : Bool) (s : ByteArray) (hp : p_pr3 lim bad op sum begun last lacks bn B left low high x at' cbad s) : CallOk E 14 [.pointer (some ⟨0, 0, none⟩), .string s] (zhkpa3 lim true bad op sum begun last lacks left low high x at' cbad B bn) (p_v3 lim bad op sum begun last lacks bn B left low high x at' cbad s) (p_h3 lim bad op sum begun last lacks bn B left low high x at' cbad s) := by
 unfold p_pr3 at hp
 obtain ⟨b, hb1, hb2⟩ := hp.1
 have hT : List.take (bn * 1) (List.drop 0 B) = B := by rw [hb2, List.drop_zero, Nat.mul_one, ← hb1, take_ob]
 have hV : List.take (bn : Int).toNat (List.drop 0 B) = B := by rw [hb2, List.drop_zero, Int.toNat_natCast, ← hb1, take_ob]
 rcases Bool.eq_false_or_eq_true (bad != 0) with d0 | d0
 ·
  have d0z : (bad == 0) = false := by simpa using d0
  have w := p3_w0_0 lim bad op sum begun last lacks bn B left low high x at' cbad s (by rw [hb2]; exact ob_flat b) d0
  try simp only [hT, hV, take_ob] at w
  exact fin_p3 (by simp only [p_v3, bS, pcode, fedP, d0, d0z] <;> first | rfl | simp) (by simp only [p_h3, bS, pcode, fedP, d0, d0z] <;> first | rfl | simp) w (by kernel_rfl)
 ·
  have d0z : (bad == 0) = true := by simpa using d0
  rcases Bool.eq_false_or_eq_true (!begun) with d1 | d1
  ·
   have d1z : (begun) = false := by simpa using d1
   rcases Bool.eq_false_or_eq_true (bad == 0) with d2 | d2
   ·
    have w := p3_w0_1 lim bad op sum begun last lacks bn B left low high x at' cbad s (by rw [hb2]; exact ob_flat b) d2 d1 d0
    try simp only [hT, hV, take_ob] at w
    exact fin_p3 (by simp only [p_v3, bS, pcode, fedP, d0, d0z, d1, d1z, d2] <;> first | rfl | simp) (by simp only [p_h3, bS, pcode, fedP, d0, d0z, d1, d1z, d2] <;> first | rfl | simp) w (by kernel_rfl)
   ·
    exfalso; simp_all
  ·
   have d1z : (begun) = true := by simpa using d1
   rcases Bool.eq_false_or_eq_true (decide (lacks < (↑(slen s) : Int))) with d2 | d2
   ·
    rcases Bool.eq_false_or_eq_true (bad == 0) with d3 | d3
    ·
     have w := p3_w0_3 lim bad op sum begun last lacks bn B left low high x at' cbad s (by rw [hb2]; exact ob_flat b) d3 d2 d1 d0
     try simp only [hT, hV, take_ob] at w
     exact fin_p3 (by simp only [p_v3, bS, pcode, fedP, d0, d0z, d1, d1z, d2, d3] <;> first | rfl | simp) (by simp only [p_h3, bS, pcode, fedP, d0, d0z, d1, d1z, d2, d3] <;> first | rfl | simp) w (by kernel_rfl)
    ·
     exfalso; simp_all
   ·
    rcases Bool.eq_false_or_eq_true (op == 1) with d3 | d3
    ·
     rcases Bool.eq_false_or_eq_true (!!(feedL (left, low, high, x) at' cbad (toL s)).snd.snd) with d4 | d4
     ·
      have d4z : (feedL (left, low, high, x) at' cbad (toL s)).snd.snd = true := by simpa using d4
      rcases Bool.eq_false_or_eq_true (bad == 0) with d5 | d5
      ·
       have w := p3_w0_5 lim bad op sum begun last lacks bn B left low high x at' cbad s _ rfl (by rw [hb2]; exact ob_flat b) d5 d4 ⟨by omega, by omega, by omega⟩ d3 d2 d1 d0
       try simp only [hT, hV, take_ob] at w
       exact fin_p3 (by simp only [p_v3, bS, pcode, fedP, d0, d0z, d1, d1z, d2, d3, d4, d4z, d5] <;> first | rfl | simp) (by simp only [p_h3, bS, pcode, fedP, d0, d0z, d1, d1z, d2, d3, d4, d4z, d5] <;> first | rfl | simp) w (by kernel_rfl)
      ·
       exfalso; simp_all
     ·
      have d4z : (feedL (left, low, high, x) at' cbad (toL s)).snd.snd = false := by simpa using d4
      have w := p3_w0_7 lim bad op sum begun last lacks bn B left low high x at' cbad s _ rfl (by rw [hT, hb2]; exact ob_app b s) (ob_to s) (Nat.le_refl _) (by rw [hb2, ob_len]; omega) (by omega) (by omega) d4 ⟨by omega, by omega, by omega⟩ d3 d2 d1 d0
      try simp only [hT, hV, take_ob] at w
      exact fin_p3 (by simp only [p_v3, bS, pcode, fedP, d0, d0z, d1, d1z, d2, d3, d4, d4z] <;> first | rfl | simp) (by simp only [p_h3, bS, pcode, fedP, d0, d0z, d1, d1z, d2, d3, d4, d4z] <;> first | rfl | simp) w (by kernel_rfl)
    ·
     have w := p3_w0_8 lim bad op sum begun last lacks bn B left low high x at' cbad s (by rw [hT, hb2]; exact ob_app b s) (ob_to s) (Nat.le_refl _) (by rw [hb2, ob_len]; omega) (by omega) (by omega) d3 d2 d1 d0
     try simp only [hT, hV, take_ob] at w
     exact fin_p3 (by simp only [p_v3, bS, pcode, fedP, d0, d0z, d1, d1z, d2, d3] <;> first | rfl | simp) (by simp only [p_h3, bS, pcode, fedP, d0, d0z, d1, d1z, d2, d3] <;> first | rfl | simp) w (by kernel_rfl)


end Go.Proofs.Ytgaedhpeiamdfaa

/-
  A joiner of frames: what End does, by the shapes of its memory, and by what comes of it.
-/
set_option linter.unusedVariables false
set_option linter.unusedSimpArgs false
set_option maxRecDepth 10000
open Go Go.Am
namespace Go.Proofs.Ytgaedhpeiamdfaa

def e_v0 (lim bad : Int) (op sum : Int) (begun last : Bool) (lacks : Int) : Value := .tuple #[.agg #[.int .i64 0, .string ⟨#[]⟩], .bool false, .int .i64 (ecode bad op lacks 0 begun last false)]
abbrev zhkea0 (v0 : Int) (v1 : Bool) (v2 : Int) (v3 : Int) (v4 : Int) (v5 : Bool) (v6 : Bool) (v7 : Int) : Heap := [some (.cells [.int .i64 v0, .bool v1, .int .i64 v2, .int .i64 v3, .int .i64 v4, .pointer none, .slice none 0 0, .pointer none, .bool v5, .bool v6, .int .i64 v7] 51 none)]
def e_h0 (lim bad : Int) (op sum : Int) (begun last : Bool) (lacks : Int) : Heap := (zhkea0 lim true (ecode bad op lacks 0 begun last false) op sum begun last lacks)
def e_pr0 (lim bad : Int) (op sum : Int) (begun last : Bool) (lacks : Int) : Prop := (begun = false)
theorem fin_e0 {lim : Int} {bad : Int} {op : Int} {sum : Int} {begun : Bool} {last : Bool} {lacks : Int} {v : Value} {h : Heap} (e1 : e_v0 lim bad op sum begun last lacks = v) (e2 : e_h0 lim bad op sum begun last lacks = h) (w : AEnds E 16 1 (startC E 16 [.pointer (some ⟨0, 0, none⟩)] (zhkea0 lim true bad op sum begun last lacks)) v h) (hl : Nat.ble 1 h.length = true) : CallOk E 16 [.pointer (some ⟨0, 0, none⟩)] (zhkea0 lim true bad op sum begun last lacks) (e_v0 lim bad op sum begun last lacks) (e_h0 lim bad op sum begun last lacks) := by
 rw [e1, e2]
 exact callOk_of_ends w (by kernel_rfl) (Nat.le_of_ble_eq_true hl)
theorem e0_all (lim bad : Int) (op sum : Int) (begun last : Bool) (lacks : Int) (hp : e_pr0 lim bad op sum begun last lacks) : CallOk E 16 [.pointer (some ⟨0, 0, none⟩)] (zhkea0 lim true bad op sum begun last lacks) (e_v0 lim bad op sum begun last lacks) (e_h0 lim bad op sum begun last lacks) := by
 unfold e_pr0 at hp
 rcases Bool.eq_false_or_eq_true (bad != 0) with d0 | d0
 ·
  have d0z : (bad == 0) = false := by simpa using d0
  have w := e0_w0_0 lim bad op sum begun last lacks d0
  exact fin_e0 (by simp only [e_v0, bS, ecode, d0, d0z] <;> first | rfl | simp) (by simp only [e_h0, bS, ecode, d0, d0z] <;> first | rfl | simp) w (by kernel_rfl)
 ·
  have d0z : (bad == 0) = true := by simpa using d0
  rcases Bool.eq_false_or_eq_true (!begun) with d1 | d1
  ·
   have d1z : (begun) = false := by simpa using d1
   rcases Bool.eq_false_or_eq_true (bad == 0) with d2 | d2
   ·
    have w := e0_w0_1 lim bad op sum begun last lacks d2 d1 d0
    exact fin_e0 (by simp only [e_v0, bS, ecode, d0, d0z, d1, d1z, d2] <;> first | rfl | simp) (by simp only [e_h0, bS, ecode, d0, d0z, d1, d1z, d2] <;> first | rfl | simp) w (by kernel_rfl)
   ·
    exfalso; simp_all
  ·
   have d1z : (begun) = true := by simpa using d1
   exfalso; simp_all

def e_v1 (lim bad : Int) (op sum : Int) (begun last : Bool) (lacks left : Int) (low high : Int) (x at' : Int) (cbad : Bool) : Value := (bif (ecode bad op lacks left begun last cbad == 0) then (bif last then .tuple #[.agg #[.int .i64 op, .string ⟨#[]⟩], .bool true, .int .i64 0] else .tuple #[.agg #[.int .i64 0, .string ⟨#[]⟩], .bool false, .int .i64 0]) else .tuple #[.agg #[.int .i64 0, .string ⟨#[]⟩], .bool false, .int .i64 (ecode bad op lacks left begun last cbad)])
abbrev zhkea1 (v0 : Int) (v1 : Bool) (v2 : Int) (v3 : Int) (v4 : Int) (v5 : Bool) (v6 : Bool) (v7 : Int) (v8 : Int) (v9 : Int) (v10 : Int) (v11 : Int) (v12 : Int) (v13 : Bool) : Heap := [some (.cells [.int .i64 v0, .bool v1, .int .i64 v2, .int .i64 v3, .int .i64 v4, .pointer none, .slice none 0 0, .pointer (some ⟨1, 0, none⟩), .bool v5, .bool v6, .int .i64 v7] 51 none), some (.cells [.int .i64 v8, .int .u8 v9, .int .u8 v10, .int .i32 v11, .int .i64 v12, .bool v13] 77 none)]
def e_h1 (lim bad : Int) (op sum : Int) (begun last : Bool) (lacks left : Int) (low high : Int) (x at' : Int) (cbad : Bool) : Heap := (bif (ecode bad op lacks left begun last cbad == 0) then (bif last then (zhkea1 lim true bad 0 0 false last lacks left low high x at' cbad) else (zhkea1 lim true bad op sum false last lacks left low high x at' cbad)) else (zhkea1 lim true (ecode bad op lacks left begun last cbad) op sum begun last lacks left low high x at' cbad))
def e_pr1 (lim bad : Int) (op sum : Int) (begun last : Bool) (lacks left : Int) (low high : Int) (x at' : Int) (cbad : Bool) : Prop := True
theorem fin_e1 {lim : Int} {bad : Int} {op : Int} {sum : Int} {begun : Bool} {last : Bool} {lacks : Int} {left : Int} {low : Int} {high : Int} {x : Int} {at' : Int} {cbad : Bool} {v : Value} {h : Heap} (e1 : e_v1 lim bad op sum begun last lacks left low high x at' cbad = v) (e2 : e_h1 lim bad op sum begun last lacks left low high x at' cbad = h) (w : AEnds E 16 2 (startC E 16 [.pointer (some ⟨0, 0, none⟩)] (zhkea1 lim true bad op sum begun last lacks left low high x at' cbad)) v h) (hl : Nat.ble 2 h.length = true) : CallOk E 16 [.pointer (some ⟨0, 0, none⟩)] (zhkea1 lim true bad op sum begun last lacks left low high x at' cbad) (e_v1 lim bad op sum begun last lacks left low high x at' cbad) (e_h1 lim bad op sum begun last lacks left low high x at' cbad) := by
 rw [e1, e2]
 exact callOk_of_ends w (by kernel_rfl) (Nat.le_of_ble_eq_true hl)
theorem e1_all (lim bad : Int) (op sum : Int) (begun last : Bool) (lacks left : Int) (low high : Int) (x at' : Int) (cbad : Bool) (hp : e_pr1 lim bad op sum begun last lacks left low high x at' cbad) : CallOk E 16 [.pointer (some ⟨0, 0, none⟩)] (zhkea1 lim true bad op sum begun last lacks left low high x at' cbad) (e_v1 lim bad op sum begun last lacks left low high x at' cbad) (e_h1 lim bad op sum begun last lacks left low high x at' cbad) := by
 unfold e_pr1 at hp
 rcases Bool.eq_false_or_eq_true (bad != 0) with d0 | d0
 ·
  have d0z : (bad == 0) = false := by simpa using d0
  have w := e1_w0_0 lim bad op sum begun last lacks left low high x at' cbad d0
  exact fin_e1 (by simp only [e_v1, bS, ecode, d0, d0z] <;> first | rfl | simp) (by simp only [e_h1, bS, ecode, d0, d0z] <;> first | rfl | simp) w (by kernel_rfl)
 ·
  have d0z : (bad == 0) = true := by simpa using d0
  rcases Bool.eq_false_or_eq_true (!begun) with d1 | d1
  ·
   have d1z : (begun) = false := by simpa using d1
   rcases Bool.eq_false_or_eq_true (bad == 0) with d2 | d2
   ·
    have w := e1_w0_1 lim bad op sum begun last lacks left low high x at' cbad d2 d1 d0
    exact fin_e1 (by simp only [e_v1, bS, ecode, d0, d0z, d1, d1z, d2] <;> first | rfl | simp) (by simp only [e_h1, bS, ecode, d0, d0z, d1, d1z, d2] <;> first | rfl | simp) w (by kernel_rfl)
   ·
    exfalso; simp_all
  ·
   have d1z : (begun) = true := by simpa using d1
   rcases Bool.eq_false_or_eq_true (decide (0 < lacks)) with d2 | d2
   ·
    rcases Bool.eq_false_or_eq_true (bad == 0) with d3 | d3
    ·
     have w := e1_w0_3 lim bad op sum begun last lacks left low high x at' cbad d3 d2 d1 d0
     exact fin_e1 (by simp only [e_v1, bS, ecode, d0, d0z, d1, d1z, d2, d3] <;> first | rfl | simp) (by simp only [e_h1, bS, ecode, d0, d0z, d1, d1z, d2, d3] <;> first | rfl | simp) w (by kernel_rfl)
    ·
     exfalso; simp_all
   ·
    rcases Bool.eq_false_or_eq_true last with d3 | d3
    ·
     rcases Bool.eq_false_or_eq_true (op == 1) with d4 | d4
     ·
      rcases Bool.eq_false_or_eq_true (!cbad) with d5 | d5
      ·
       have d5z : (cbad) = false := by simpa using d5
       rcases Bool.eq_false_or_eq_true (!left == 0) with d6 | d6
       ·
        have d6z : (left == 0) = false := by simpa using d6
        rcases Bool.eq_false_or_eq_true (bad == 0) with d7 | d7
        ·
         have w := e1_w0_5 lim bad op sum begun last lacks left low high x at' cbad d7 d6 d5 d4 d3 d2 d1 d0
         exact fin_e1 (by simp only [e_v1, bS, ecode, d0, d0z, d1, d1z, d2, d3, d4, d5, d5z, d6, d6z, d7] <;> first | rfl | simp) (by simp only [e_h1, bS, ecode, d0, d0z, d1, d1z, d2, d3, d4, d5, d5z, d6, d6z, d7] <;> first | rfl | simp) w (by kernel_rfl)
        ·
         exfalso; simp_all
       ·
        have d6z : (left == 0) = true := by simpa using d6
        rcases Bool.eq_false_or_eq_true (!last) with d7 | d7
        ·
         have d7z : (last) = false := by simpa using d7
         exfalso; simp_all
        ·
         have d7z : (last) = true := by simpa using d7
         have w := e1_w0_8 lim bad op sum begun last lacks left low high x at' cbad d7 d6 d5 d4 d3 d2 d1 d0
         exact fin_e1 (by simp only [e_v1, bS, ecode, d0, d0z, d1, d1z, d2, d3, d4, d5, d5z, d6, d6z, d7, d7z] <;> first | rfl | simp) (by simp only [e_h1, bS, ecode, d0, d0z, d1, d1z, d2, d3, d4, d5, d5z, d6, d6z, d7, d7z] <;> first | rfl | simp) w (by kernel_rfl)
      ·
       have d5z : (cbad) = true := by simpa using d5
       rcases Bool.eq_false_or_eq_true (bad == 0) with d6 | d6
       ·
        have w := e1_w0_9 lim bad op sum begun last lacks left low high x at' cbad d6 d5 d4 d3 d2 d1 d0
        exact fin_e1 (by simp only [e_v1, bS, ecode, d0, d0z, d1, d1z, d2, d3, d4, d5, d5z, d6] <;> first | rfl | simp) (by simp only [e_h1, bS, ecode, d0, d0z, d1, d1z, d2, d3, d4, d5, d5z, d6] <;> first | rfl | simp) w (by kernel_rfl)
       ·
        exfalso; simp_all
     ·
      rcases Bool.eq_false_or_eq_true (!last) with d5 | d5
      ·
       have d5z : (last) = false := by simpa using d5
       exfalso; simp_all
      ·
       have d5z : (last) = true := by simpa using d5
       have w := e1_w0_12 lim bad op sum begun last lacks left low high x at' cbad d5 d4 d3 d2 d1 d0
       exact fin_e1 (by simp only [e_v1, bS, ecode, d0, d0z, d1, d1z, d2, d3, d4, d5, d5z] <;> first | rfl | simp) (by simp only [e_h1, bS, ecode, d0, d0z, d1, d1z, d2, d3, d4, d5, d5z] <;> first | rfl | simp) w (by kernel_rfl)
    ·
     rcases Bool.eq_false_or_eq_true (!last) with d4 | d4
     ·
      have d4z : (last) = false := by simpa using d4
      have w := e1_w0_13 lim bad op sum begun last lacks left low high x at' cbad d4 d3 d2 d1 d0
      exact fin_e1 (by simp only [e_v1, bS, ecode, d0, d0z, d1, d1z, d2, d3, d4, d4z] <;> first | rfl | simp) (by simp only [e_h1, bS, ecode, d0, d0z, d1, d1z, d2, d3, d4, d4z] <;> first | rfl | simp) w (by kernel_rfl)
     ·
      have d4z : (last) = true := by simpa using d4
      exfalso; simp_all

def e_v2 (lim bad : Int) (op sum : Int) (begun last : Bool) (lacks left : Int) (low high : Int) (x at' : Int) (cbad : Bool) : Value := (bif (ecode bad op lacks left begun last cbad == 0) then (bif last then .tuple #[.agg #[.int .i64 op, .string ⟨#[]⟩], .bool true, .int .i64 0] else .tuple #[.agg #[.int .i64 0, .string ⟨#[]⟩], .bool false, .int .i64 0]) else .tuple #[.agg #[.int .i64 0, .string ⟨#[]⟩], .bool false, .int .i64 (ecode bad op lacks left begun last cbad)])
abbrev zhkea2 (v0 : Int) (v1 : Bool) (v2 : Int) (v3 : Int) (v4 : Int) (v5 : Bool) (v6 : Bool) (v7 : Int) (v8 : Int) (v9 : Int) (v10 : Int) (v11 : Int) (v12 : Int) (v13 : Bool) : Heap := [some (.cells [.int .i64 v0, .bool v1, .int .i64 v2, .int .i64 v3, .int .i64 v4, .pointer (some ⟨0, 5, none⟩), .slice none 0 0, .pointer (some ⟨1, 0, none⟩), .bool v5, .bool v6, .int .i64 v7] 51 none), some (.cells [.int .i64 v8, .int .u8 v9, .int .u8 v10, .int .i32 v11, .int .i64 v12, .bool v13] 77 none)]
def e_h2 (lim bad : Int) (op sum : Int) (begun last : Bool) (lacks left : Int) (low high : Int) (x at' : Int) (cbad : Bool) : Heap := (bif (ecode bad op lacks left begun last cbad == 0) then (bif last then (zhkea1 lim true bad 0 0 false last lacks left low high x at' cbad) else (zhkea2 lim true bad op sum false last lacks left low high x at' cbad)) else (zhkea2 lim true (ecode bad op lacks left begun last cbad) op sum begun last lacks left low high x at' cbad))
def e_pr2 (lim bad : Int) (op sum : Int) (begun last : Bool) (lacks left : Int) (low high : Int) (x at' : Int) (cbad : Bool) : Prop := True
theorem fin_e2 {lim : Int} {bad : Int} {op : Int} {sum : Int} {begun : Bool} {last : Bool} {lacks : Int} {left : Int} {low : Int} {high : Int} {x : Int} {at' : Int} {cbad : Bool} {v : Value} {h : Heap} (e1 : e_v2 lim bad op sum begun last lacks left low high x at' cbad = v) (e2 : e_h2 lim bad op sum begun last lacks left low high x at' cbad = h) (w : AEnds E 16 2 (startC E 16 [.pointer (some ⟨0, 0, none⟩)] (zhkea2 lim true bad op sum begun last lacks left low high x at' cbad)) v h) (hl : Nat.ble 2 h.length = true) : CallOk E 16 [.pointer (some ⟨0, 0, none⟩)] (zhkea2 lim true bad op sum begun last lacks left low high x at' cbad) (e_v2 lim bad op sum begun last lacks left low high x at' cbad) (e_h2 lim bad op sum begun last lacks left low high x at' cbad) := by
 rw [e1, e2]
 exact callOk_of_ends w (by kernel_rfl) (Nat.le_of_ble_eq_true hl)
theorem e2_all (lim bad : Int) (op sum : Int) (begun last : Bool) (lacks left : Int) (low high : Int) (x at' : Int) (cbad : Bool) (hp : e_pr2 lim bad op sum begun last lacks left low high x at' cbad) : CallOk E 16 [.pointer (some ⟨0, 0, none⟩)] (zhkea2 lim true bad op sum begun last lacks left low high x at' cbad) (e_v2 lim bad op sum begun last lacks left low high x at' cbad) (e_h2 lim bad op sum begun last lacks left low high x at' cbad) := by
 unfold e_pr2 at hp
 rcases Bool.eq_false_or_eq_true (bad != 0) with d0 | d0
 ·
  have d0z : (bad == 0) = false := by simpa using d0
  have w := e2_w0_0 lim bad op sum begun last lacks left low high x at' cbad d0
  exact fin_e2 (by simp only [e_v2, bS, ecode, d0, d0z] <;> first | rfl | simp) (by simp only [e_h2, bS, ecode, d0, d0z] <;> first | rfl | simp) w (by kernel_rfl)
 ·
  have d0z : (bad == 0) = true := by simpa using d0
  rcases Bool.eq_false_or_eq_true (!begun) with d1 | d1
  ·
   have d1z : (begun) = false := by simpa using d1
   rcases Bool.eq_false_or_eq_true (bad == 0) with d2 | d2
   ·
    have w := e2_w0_1 lim bad op sum begun last lacks left low high x at' cbad d2 d1 d0
    exact fin_e2 (by simp only [e_v2, bS, ecode, d0, d0z, d1, d1z, d2] <;> first | rfl | simp) (by simp only [e_h2, bS, ecode, d0, d0z, d1, d1z, d2] <;> first | rfl | simp) w (by kernel_rfl)
   ·
    exfalso; simp_all
  ·
   have d1z : (begun) = true := by simpa using d1
   rcases Bool.eq_false_or_eq_true (decide (0 < lacks)) with d2 | d2
   ·
    rcases Bool.eq_false_or_eq_true (bad == 0) with d3 | d3
    ·
     have w := e2_w0_3 lim bad op sum begun last lacks left low high x at' cbad d3 d2 d1 d0
     exact fin_e2 (by simp only [e_v2, bS, ecode, d0, d0z, d1, d1z, d2, d3] <;> first | rfl | simp) (by simp only [e_h2, bS, ecode, d0, d0z, d1, d1z, d2, d3] <;> first | rfl | simp) w (by kernel_rfl)
    ·
     exfalso; simp_all
   ·
    rcases Bool.eq_false_or_eq_true last with d3 | d3
    ·
     rcases Bool.eq_false_or_eq_true (op == 1) with d4 | d4
     ·
      rcases Bool.eq_false_or_eq_true (!cbad) with d5 | d5
      ·
       have d5z : (cbad) = false := by simpa using d5
       rcases Bool.eq_false_or_eq_true (!left == 0) with d6 | d6
       ·
        have d6z : (left == 0) = false := by simpa using d6
        rcases Bool.eq_false_or_eq_true (bad == 0) with d7 | d7
        ·
         have w := e2_w0_5 lim bad op sum begun last lacks left low high x at' cbad d7 d6 d5 d4 d3 d2 d1 d0
         exact fin_e2 (by simp only [e_v2, bS, ecode, d0, d0z, d1, d1z, d2, d3, d4, d5, d5z, d6, d6z, d7] <;> first | rfl | simp) (by simp only [e_h2, bS, ecode, d0, d0z, d1, d1z, d2, d3, d4, d5, d5z, d6, d6z, d7] <;> first | rfl | simp) w (by kernel_rfl)
        ·
         exfalso; simp_all
       ·
        have d6z : (left == 0) = true := by simpa using d6
        rcases Bool.eq_false_or_eq_true (!last) with d7 | d7
        ·
         have d7z : (last) = false := by simpa using d7
         exfalso; simp_all
        ·
         have d7z : (last) = true := by simpa using d7
         have w := e2_w0_8 lim bad op sum begun last lacks left low high x at' cbad d7 d6 d5 d4 d3 d2 d1 d0
         exact fin_e2 (by simp only [e_v2, bS, ecode, d0, d0z, d1, d1z, d2, d3, d4, d5, d5z, d6, d6z, d7, d7z] <;> first | rfl | simp) (by simp only [e_h2, bS, ecode, d0, d0z, d1, d1z, d2, d3, d4, d5, d5z, d6, d6z, d7, d7z] <;> first | rfl | simp) w (by kernel_rfl)
      ·
       have d5z : (cbad) = true := by simpa using d5
       rcases Bool.eq_false_or_eq_true (bad == 0) with d6 | d6
       ·
        have w := e2_w0_9 lim bad op sum begun last lacks left low high x at' cbad d6 d5 d4 d3 d2 d1 d0
        exact fin_e2 (by simp only [e_v2, bS, ecode, d0, d0z, d1, d1z, d2, d3, d4, d5, d5z, d6] <;> first | rfl | simp) (by simp only [e_h2, bS, ecode, d0, d0z, d1, d1z, d2, d3, d4, d5, d5z, d6] <;> first | rfl | simp) w (by kernel_rfl)
       ·
        exfalso; simp_all
     ·
      rcases Bool.eq_false_or_eq_true (!last) with d5 | d5
      ·
       have d5z : (last) = false := by simpa using d5
       exfalso; simp_all
      ·
       have d5z : (last) = true := by simpa using d5
       have w := e2_w0_12 lim bad op sum begun last lacks left low high x at' cbad d5 d4 d3 d2 d1 d0
       exact fin_e2 (by simp only [e_v2, bS, ecode, d0, d0z, d1, d1z, d2, d3, d4, d5, d5z] <;> first | rfl | simp) (by simp only [e_h2, bS, ecode, d0, d0z, d1, d1z, d2, d3, d4, d5, d5z] <;> first | rfl | simp) w (by kernel_rfl)
    ·
     rcases Bool.eq_false_or_eq_true (!last) with d4 | d4
     ·
      have d4z : (last) = false := by simpa using d4
      have w := e2_w0_13 lim bad op sum begun last lacks left low high x at' cbad d4 d3 d2 d1 d0
      exact fin_e2 (by simp only [e_v2, bS, ecode, d0, d0z, d1, d1z, d2, d3, d4, d4z] <;> first | rfl | simp) (by simp only [e_h2, bS, ecode, d0, d0z, d1, d1z, d2, d3, d4, d4z] <;> first | rfl | simp) w (by kernel_rfl)
     ·
      have d4z : (last) = true := by simpa using d4
      exfalso; simp_all

def e_v3 (lim bad : Int) (op sum : Int) (begun last : Bool) (lacks : Int) (bn : Nat) (B : List Value) (left low : Int) (high x at' : Int) (cbad : Bool) : Value := (bif (ecode bad op lacks left begun last cbad == 0) then (bif last then .tuple #[.agg #[.int .i64 op, .string (bytesOf B)], .bool true, .int .i64 0] else .tuple #[.agg #[.int .i64 0, .string ⟨#[]⟩], .bool false, .int .i64 0]) else .tuple #[.agg #[.int .i64 0, .string ⟨#[]⟩], .bool false, .int .i64 (ecode bad op lacks left begun last cbad)])
abbrev zhkea3 (v0 : Int) (v1 : Bool) (v2 : Int) (v3 : Int) (v4 : Int) (v5 : Bool) (v6 : Bool) (v7 : Int) (v8 : Int) (v9 : Int) (v10 : Int) (v11 : Int) (v12 : Int) (v13 : Bool) (B : List Value) (bn : Nat) : Heap := [some (.cells [.int .i64 v0, .bool v1, .int .i64 v2, .int .i64 v3, .int .i64 v4, .pointer (some ⟨0, 5, none⟩), .slice (some ⟨1, 0, none⟩) bn 0, .pointer (some ⟨2, 0, none⟩), .bool v5, .bool v6, .int .i64 v7] 51 none), some (.cells B 5 (some 1)), some (.cells [.int .i64 v8, .int .u8 v9, .int .u8 v10, .int .i32 v11, .int .i64 v12, .bool v13] 77 none)]
def e_h3 (lim bad : Int) (op sum : Int) (begun last : Bool) (lacks : Int) (bn : Nat) (B : List Value) (left low : Int) (high x at' : Int) (cbad : Bool) : Heap := (bif (ecode bad op lacks left begun last cbad == 0) then (bif last then [some (.cells [.int .i64 lim, .bool true, .int .i64 bad, .int .i64 0, .int .i64 0, .pointer none, .slice none 0 0, .pointer (some ⟨2, 0, none⟩), .bool false, .bool last, .int .i64 lacks] 51 none), none, some (.cells [.int .i64 left, .int .u8 low, .int .u8 high, .int .i32 x, .int .i64 at', .bool cbad] 77 none)] else (zhkea3 lim true bad op sum false last lacks left low high x at' cbad B bn)) else (zhkea3 lim true (ecode bad op lacks left begun last cbad) op sum begun last lacks left low high x at' cbad B bn))
def e_pr3 (lim bad : Int) (op sum : Int) (begun last : Bool) (lacks : Int) (bn : Nat) (B : List Value) (left low : Int) (high x at' : Int) (cbad : Bool) : Prop := (∃ b : ByteArray, slen b = bn ∧ B = ofBytes b) ∧ (0 < bn ∧ bn ≤ 1000000000)
theorem fin_e3 {lim : Int} {bad : Int} {op : Int} {sum : Int} {begun : Bool} {last : Bool} {lacks : Int} {bn : Nat} {B : List Value} {left : Int} {low : Int} {high : Int} {x : Int} {at' : Int} {cbad : Bool} {v : Value} {h : Heap} (e1 : e_v3 lim bad op sum begun last lacks bn B left low high x at' cbad = v) (e2 : e_h3 lim bad op sum begun last lacks bn B left low high x at' cbad = h) (w : AEnds E 16 3 (startC E 16 [.pointer (some ⟨0, 0, none⟩)] (zhkea3 lim true bad op sum begun last lacks left low high x at' cbad B bn)) v h) (hl : Nat.ble 3 h.length = true) : CallOk E 16 [.pointer (some ⟨0, 0, none⟩)] (zhkea3 lim true bad op sum begun last lacks left low high x at' cbad B bn) (e_v3 lim bad op sum begun last lacks bn B left low high x at' cbad) (e_h3 lim bad op sum begun last lacks bn B left low high x at' cbad) := by
 rw [e1, e2]
 exact callOk_of_ends w (by kernel_rfl) (Nat.le_of_ble_eq_true hl)
theorem e3_all (lim bad : Int) (op sum : Int) (begun last : Bool) (lacks : Int) (bn : Nat) (B : List Value) (left low : Int) (high x at' : Int) (cbad : Bool) (hp : e_pr3 lim bad op sum begun last lacks bn B left low high x at' cbad) : CallOk E 16 [.pointer (some ⟨0, 0, none⟩)] (zhkea3 lim true bad op sum begun last lacks left low high x at' cbad B bn) (e_v3 lim bad op sum begun last lacks bn B left low high x at' cbad) (e_h3 lim bad op sum begun last lacks bn B left low high x at' cbad) := by
 unfold e_pr3 at hp
 obtain ⟨b, hb1, hb2⟩ := hp.1
 have hT : List.take (bn * 1) (List.drop 0 B) = B := by rw [hb2, List.drop_zero, Nat.mul_one, ← hb1, take_ob]
 have hV : List.take (bn : Int).toNat (List.drop 0 B) = B := by rw [hb2, List.drop_zero, Int.toNat_natCast, ← hb1, take_ob]
 rcases Bool.eq_false_or_eq_true (bad != 0) with d0 | d0
 ·
  have d0z : (bad == 0) = false := by simpa using d0
  have w := e3_w0_0 lim bad op sum begun last lacks bn B left low high x at' cbad (by rw [hb2]; exact ob_flat b) d0
  try simp only [hT, hV] at w
  exact fin_e3 (by simp only [e_v3, bS, ecode, d0, d0z] <;> first | rfl | simp) (by simp only [e_h3, bS, ecode, d0, d0z] <;> first | rfl | simp) w (by kernel_rfl)
 ·
  have d0z : (bad == 0) = true := by simpa using d0
  rcases Bool.eq_false_or_eq_true (!begun) with d1 | d1
  ·
   have d1z : (begun) = false := by simpa using d1
   rcases Bool.eq_false_or_eq_true (bad == 0) with d2 | d2
   ·
    have w := e3_w0_1 lim bad op sum begun last lacks bn B left low high x at' cbad (by rw [hb2]; exact ob_flat b) d2 d1 d0
    try simp only [hT, hV] at w
    exact fin_e3 (by simp only [e_v3, bS, ecode, d0, d0z, d1, d1z, d2] <;> first | rfl | simp) (by simp only [e_h3, bS, ecode, d0, d0z, d1, d1z, d2] <;> first | rfl | simp) w (by kernel_rfl)
   ·
    exfalso; simp_all
  ·
   have d1z : (begun) = true := by simpa using d1
   rcases Bool.eq_false_or_eq_true (decide (0 < lacks)) with d2 | d2
   ·
    rcases Bool.eq_false_or_eq_true (bad == 0) with d3 | d3
    ·
     have w := e3_w0_3 lim bad op sum begun last lacks bn B left low high x at' cbad (by rw [hb2]; exact ob_flat b) d3 d2 d1 d0
     try simp only [hT, hV] at w
     exact fin_e3 (by simp only [e_v3, bS, ecode, d0, d0z, d1, d1z, d2, d3] <;> first | rfl | simp) (by simp only [e_h3, bS, ecode, d0, d0z, d1, d1z, d2, d3] <;> first | rfl | simp) w (by kernel_rfl)
    ·
     exfalso; simp_all
   ·
    rcases Bool.eq_false_or_eq_true last with d3 | d3
    ·
     rcases Bool.eq_false_or_eq_true (op == 1) with d4 | d4
     ·
      rcases Bool.eq_false_or_eq_true (!cbad) with d5 | d5
      ·
       have d5z : (cbad) = false := by simpa using d5
       rcases Bool.eq_false_or_eq_true (!left == 0) with d6 | d6
       ·
        have d6z : (left == 0) = false := by simpa using d6
        rcases Bool.eq_false_or_eq_true (bad == 0) with d7 | d7
        ·
         have w := e3_w0_5 lim bad op sum begun last lacks bn B left low high x at' cbad (by rw [hb2]; exact ob_flat b) d7 d6 d5 d4 d3 d2 d1 d0
         try simp only [hT, hV] at w
         exact fin_e3 (by simp only [e_v3, bS, ecode, d0, d0z, d1, d1z, d2, d3, d4, d5, d5z, d6, d6z, d7] <;> first | rfl | simp) (by simp only [e_h3, bS, ecode, d0, d0z, d1, d1z, d2, d3, d4, d5, d5z, d6, d6z, d7] <;> first | rfl | simp) w (by kernel_rfl)
        ·
         exfalso; simp_all
       ·
        have d6z : (left == 0) = true := by simpa using d6
        rcases Bool.eq_false_or_eq_true (!last) with d7 | d7
        ·
         have d7z : (last) = false := by simpa using d7
         exfalso; simp_all
        ·
         have d7z : (last) = true := by simpa using d7
         have w := e3_w0_8 lim bad op sum begun last lacks bn B left low high x at' cbad (by omega) (by omega) (by rw [hb2, ob_len]; omega) (by rw [hV, hb2]; exact ob_int b) (by omega) d7 d6 d5 d4 d3 d2 d1 d0
         try simp only [hT, hV] at w
         exact fin_e3 (by simp only [e_v3, bS, ecode, d0, d0z, d1, d1z, d2, d3, d4, d5, d5z, d6, d6z, d7, d7z] <;> first | rfl | simp) (by simp only [e_h3, bS, ecode, d0, d0z, d1, d1z, d2, d3, d4, d5, d5z, d6, d6z, d7, d7z] <;> first | rfl | simp) w (by kernel_rfl)
      ·
       have d5z : (cbad) = true := by simpa using d5
       rcases Bool.eq_false_or_eq_true (bad == 0) with d6 | d6
       ·
        have w := e3_w0_9 lim bad op sum begun last lacks bn B left low high x at' cbad (by rw [hb2]; exact ob_flat b) d6 d5 d4 d3 d2 d1 d0
        try simp only [hT, hV] at w
        exact fin_e3 (by simp only [e_v3, bS, ecode, d0, d0z, d1, d1z, d2, d3, d4, d5, d5z, d6] <;> first | rfl | simp) (by simp only [e_h3, bS, ecode, d0, d0z, d1, d1z, d2, d3, d4, d5, d5z, d6] <;> first | rfl | simp) w (by kernel_rfl)
       ·
        exfalso; simp_all
     ·
      rcases Bool.eq_false_or_eq_true (!last) with d5 | d5
      ·
       have d5z : (last) = false := by simpa using d5
       exfalso; simp_all
      ·
       have d5z : (last) = true := by simpa using d5
       have w := e3_w0_12 lim bad op sum begun last lacks bn B left low high x at' cbad (by omega) (by omega) (by rw [hb2, ob_len]; omega) (by rw [hV, hb2]; exact ob_int b) (by omega) d5 d4 d3 d2 d1 d0
       try simp only [hT, hV] at w
       exact fin_e3 (by simp only [e_v3, bS, ecode, d0, d0z, d1, d1z, d2, d3, d4, d5, d5z] <;> first | rfl | simp) (by simp only [e_h3, bS, ecode, d0, d0z, d1, d1z, d2, d3, d4, d5, d5z] <;> first | rfl | simp) w (by kernel_rfl)
    ·
     rcases Bool.eq_false_or_eq_true (!last) with d4 | d4
     ·
      have d4z : (last) = false := by simpa using d4
      have w := e3_w0_13 lim bad op sum begun last lacks bn B left low high x at' cbad (by rw [hb2]; exact ob_flat b) d4 d3 d2 d1 d0
      try simp only [hT, hV] at w
      exact fin_e3 (by simp only [e_v3, bS, ecode, d0, d0z, d1, d1z, d2, d3, d4, d4z] <;> first | rfl | simp) (by simp only [e_h3, bS, ecode, d0, d0z, d1, d1z, d2, d3, d4, d4z] <;> first | rfl | simp) w (by kernel_rfl)
     ·
      have d4z : (last) = true := by simpa using d4
      exfalso; simp_all


end Go.Proofs.Ytgaedhpeiamdfaa
