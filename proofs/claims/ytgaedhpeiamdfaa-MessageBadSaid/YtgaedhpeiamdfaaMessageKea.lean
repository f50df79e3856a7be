/-
  A joiner of frames: what End does, by the shapes of its memory, and by what comes of it.
-/
import Derived.Test.YtgaedhpeiamdfaaMessageJ0
import Derived.Test.YtgaedhpeiamdfaaMessageJe
set_option linter.unusedVariables false
set_option linter.unusedSimpArgs false
set_option maxRecDepth 10000
open Go Go.Am
namespace Go.Proofs.Ytgaedhpeiamdfaa

def e_v0 (lim bad : Int) (op sum : Int) (begun last : Bool) (lacks : Int) : Value := .tuple #[.agg #[.int .i64 0, .string ⟨#[]⟩], .bool false, .int .i64 (ecode bad op lacks 0 begun last false)]
def e_h0 (lim bad : Int) (op sum : Int) (begun last : Bool) (lacks : Int) : Heap := [some (.cells [.int .i64 lim, .bool true, .int .i64 (ecode bad op lacks 0 begun last false), .int .i64 op, .int .i64 sum, .pointer none, .slice none 0 0, .pointer none, .bool begun, .bool last, .int .i64 lacks] 51 none)]
def e_pr0 (lim bad : Int) (op sum : Int) (begun last : Bool) (lacks : Int) : Prop := (begun = false)
theorem fin_e0 {lim : Int} {bad : Int} {op : Int} {sum : Int} {begun : Bool} {last : Bool} {lacks : Int} {v : Value} {h : Heap} (e1 : e_v0 lim bad op sum begun last lacks = v) (e2 : e_h0 lim bad op sum begun last lacks = h) (w : AEnds E 16 1 (startC E 16 [.pointer (some ⟨0, 0, none⟩)] [some (.cells [.int .i64 lim, .bool true, .int .i64 bad, .int .i64 op, .int .i64 sum, .pointer none, .slice none 0 0, .pointer none, .bool begun, .bool last, .int .i64 lacks] 51 none)]) v h) (hl : Nat.ble 1 h.length = true) : CallOk E 16 [.pointer (some ⟨0, 0, none⟩)] [some (.cells [.int .i64 lim, .bool true, .int .i64 bad, .int .i64 op, .int .i64 sum, .pointer none, .slice none 0 0, .pointer none, .bool begun, .bool last, .int .i64 lacks] 51 none)] (e_v0 lim bad op sum begun last lacks) (e_h0 lim bad op sum begun last lacks) := by
  rw [e1, e2]
  exact callOk_of_ends w (by kernel_rfl) (Nat.le_of_ble_eq_true hl)
theorem e0_all (lim bad : Int) (op sum : Int) (begun last : Bool) (lacks : Int) (hp : e_pr0 lim bad op sum begun last lacks) : CallOk E 16 [.pointer (some ⟨0, 0, none⟩)] [some (.cells [.int .i64 lim, .bool true, .int .i64 bad, .int .i64 op, .int .i64 sum, .pointer none, .slice none 0 0, .pointer none, .bool begun, .bool last, .int .i64 lacks] 51 none)] (e_v0 lim bad op sum begun last lacks) (e_h0 lim bad op sum begun last lacks) := by
  unfold e_pr0 at hp
  rcases Bool.eq_false_or_eq_true (bad != 0) with d0 | d0
  ·
    have d0z : (bad == 0) = false := by simpa using d0
    have w := e0_w0_0 lim bad op sum begun last lacks d0
    exact fin_e0 (by simp only [e_v0, bcode, pcode, ecode, fedP, Bool.and_true, Bool.true_and, Bool.and_false, Bool.false_and, Bool.or_true, Bool.or_false, Bool.true_or, Bool.false_or, Bool.not_true, Bool.not_false, cond_true, cond_false, d0, d0z] <;> first | rfl | (simp; done)) (by simp only [e_h0, bcode, pcode, ecode, fedP, Bool.and_true, Bool.true_and, Bool.and_false, Bool.false_and, Bool.or_true, Bool.or_false, Bool.true_or, Bool.false_or, Bool.not_true, Bool.not_false, cond_true, cond_false, d0, d0z] <;> first | rfl | (simp; done)) w (by kernel_rfl)
  ·
    have d0z : (bad == 0) = true := by simpa using d0
    rcases Bool.eq_false_or_eq_true (!begun) with d1 | d1
    ·
      have d1z : (begun) = false := by simpa using d1
      rcases Bool.eq_false_or_eq_true (bad == 0) with d2 | d2
      ·
        have w := e0_w0_1 lim bad op sum begun last lacks d2 d1 d0
        exact fin_e0 (by simp only [e_v0, bcode, pcode, ecode, fedP, Bool.and_true, Bool.true_and, Bool.and_false, Bool.false_and, Bool.or_true, Bool.or_false, Bool.true_or, Bool.false_or, Bool.not_true, Bool.not_false, cond_true, cond_false, d0, d0z, d1, d1z, d2] <;> first | rfl | (simp; done)) (by simp only [e_h0, bcode, pcode, ecode, fedP, Bool.and_true, Bool.true_and, Bool.and_false, Bool.false_and, Bool.or_true, Bool.or_false, Bool.true_or, Bool.false_or, Bool.not_true, Bool.not_false, cond_true, cond_false, d0, d0z, d1, d1z, d2] <;> first | rfl | (simp; done)) w (by kernel_rfl)
      ·
        exfalso; simp_all
    ·
      have d1z : (begun) = true := by simpa using d1
      exfalso; simp_all

def e_v1 (lim bad : Int) (op sum : Int) (begun last : Bool) (lacks left : Int) (low high : Int) (x at' : Int) (cbad : Bool) : Value := (bif (ecode bad op lacks left begun last cbad == 0) then (bif last then .tuple #[.agg #[.int .i64 op, .string ⟨#[]⟩], .bool true, .int .i64 0] else .tuple #[.agg #[.int .i64 0, .string ⟨#[]⟩], .bool false, .int .i64 0]) else .tuple #[.agg #[.int .i64 0, .string ⟨#[]⟩], .bool false, .int .i64 (ecode bad op lacks left begun last cbad)])
def e_h1 (lim bad : Int) (op sum : Int) (begun last : Bool) (lacks left : Int) (low high : Int) (x at' : Int) (cbad : Bool) : Heap := (bif (ecode bad op lacks left begun last cbad == 0) then (bif last then [some (.cells [.int .i64 lim, .bool true, .int .i64 bad, .int .i64 0, .int .i64 0, .pointer none, .slice none 0 0, .pointer (some ⟨1, 0, none⟩), .bool false, .bool last, .int .i64 lacks] 51 none), some (.cells [.int .i64 left, .int .u8 low, .int .u8 high, .int .i32 x, .int .i64 at', .bool cbad] 77 none)] else [some (.cells [.int .i64 lim, .bool true, .int .i64 bad, .int .i64 op, .int .i64 sum, .pointer none, .slice none 0 0, .pointer (some ⟨1, 0, none⟩), .bool false, .bool last, .int .i64 lacks] 51 none), some (.cells [.int .i64 left, .int .u8 low, .int .u8 high, .int .i32 x, .int .i64 at', .bool cbad] 77 none)]) else [some (.cells [.int .i64 lim, .bool true, .int .i64 (ecode bad op lacks left begun last cbad), .int .i64 op, .int .i64 sum, .pointer none, .slice none 0 0, .pointer (some ⟨1, 0, none⟩), .bool begun, .bool last, .int .i64 lacks] 51 none), some (.cells [.int .i64 left, .int .u8 low, .int .u8 high, .int .i32 x, .int .i64 at', .bool cbad] 77 none)])
def e_pr1 (lim bad : Int) (op sum : Int) (begun last : Bool) (lacks left : Int) (low high : Int) (x at' : Int) (cbad : Bool) : Prop := True
theorem fin_e1 {lim : Int} {bad : Int} {op : Int} {sum : Int} {begun : Bool} {last : Bool} {lacks : Int} {left : Int} {low : Int} {high : Int} {x : Int} {at' : Int} {cbad : Bool} {v : Value} {h : Heap} (e1 : e_v1 lim bad op sum begun last lacks left low high x at' cbad = v) (e2 : e_h1 lim bad op sum begun last lacks left low high x at' cbad = h) (w : AEnds E 16 2 (startC E 16 [.pointer (some ⟨0, 0, none⟩)] [some (.cells [.int .i64 lim, .bool true, .int .i64 bad, .int .i64 op, .int .i64 sum, .pointer none, .slice none 0 0, .pointer (some ⟨1, 0, none⟩), .bool begun, .bool last, .int .i64 lacks] 51 none), some (.cells [.int .i64 left, .int .u8 low, .int .u8 high, .int .i32 x, .int .i64 at', .bool cbad] 77 none)]) v h) (hl : Nat.ble 2 h.length = true) : CallOk E 16 [.pointer (some ⟨0, 0, none⟩)] [some (.cells [.int .i64 lim, .bool true, .int .i64 bad, .int .i64 op, .int .i64 sum, .pointer none, .slice none 0 0, .pointer (some ⟨1, 0, none⟩), .bool begun, .bool last, .int .i64 lacks] 51 none), some (.cells [.int .i64 left, .int .u8 low, .int .u8 high, .int .i32 x, .int .i64 at', .bool cbad] 77 none)] (e_v1 lim bad op sum begun last lacks left low high x at' cbad) (e_h1 lim bad op sum begun last lacks left low high x at' cbad) := by
  rw [e1, e2]
  exact callOk_of_ends w (by kernel_rfl) (Nat.le_of_ble_eq_true hl)
theorem e1_all (lim bad : Int) (op sum : Int) (begun last : Bool) (lacks left : Int) (low high : Int) (x at' : Int) (cbad : Bool) (hp : e_pr1 lim bad op sum begun last lacks left low high x at' cbad) : CallOk E 16 [.pointer (some ⟨0, 0, none⟩)] [some (.cells [.int .i64 lim, .bool true, .int .i64 bad, .int .i64 op, .int .i64 sum, .pointer none, .slice none 0 0, .pointer (some ⟨1, 0, none⟩), .bool begun, .bool last, .int .i64 lacks] 51 none), some (.cells [.int .i64 left, .int .u8 low, .int .u8 high, .int .i32 x, .int .i64 at', .bool cbad] 77 none)] (e_v1 lim bad op sum begun last lacks left low high x at' cbad) (e_h1 lim bad op sum begun last lacks left low high x at' cbad) := by
  unfold e_pr1 at hp
  rcases Bool.eq_false_or_eq_true (bad != 0) with d0 | d0
  ·
    have d0z : (bad == 0) = false := by simpa using d0
    have w := e1_w0_0 lim bad op sum begun last lacks left low high x at' cbad d0
    exact fin_e1 (by simp only [e_v1, bcode, pcode, ecode, fedP, Bool.and_true, Bool.true_and, Bool.and_false, Bool.false_and, Bool.or_true, Bool.or_false, Bool.true_or, Bool.false_or, Bool.not_true, Bool.not_false, cond_true, cond_false, d0, d0z] <;> first | rfl | (simp; done)) (by simp only [e_h1, bcode, pcode, ecode, fedP, Bool.and_true, Bool.true_and, Bool.and_false, Bool.false_and, Bool.or_true, Bool.or_false, Bool.true_or, Bool.false_or, Bool.not_true, Bool.not_false, cond_true, cond_false, d0, d0z] <;> first | rfl | (simp; done)) w (by kernel_rfl)
  ·
    have d0z : (bad == 0) = true := by simpa using d0
    rcases Bool.eq_false_or_eq_true (!begun) with d1 | d1
    ·
      have d1z : (begun) = false := by simpa using d1
      rcases Bool.eq_false_or_eq_true (bad == 0) with d2 | d2
      ·
        have w := e1_w0_1 lim bad op sum begun last lacks left low high x at' cbad d2 d1 d0
        exact fin_e1 (by simp only [e_v1, bcode, pcode, ecode, fedP, Bool.and_true, Bool.true_and, Bool.and_false, Bool.false_and, Bool.or_true, Bool.or_false, Bool.true_or, Bool.false_or, Bool.not_true, Bool.not_false, cond_true, cond_false, d0, d0z, d1, d1z, d2] <;> first | rfl | (simp; done)) (by simp only [e_h1, bcode, pcode, ecode, fedP, Bool.and_true, Bool.true_and, Bool.and_false, Bool.false_and, Bool.or_true, Bool.or_false, Bool.true_or, Bool.false_or, Bool.not_true, Bool.not_false, cond_true, cond_false, d0, d0z, d1, d1z, d2] <;> first | rfl | (simp; done)) w (by kernel_rfl)
      ·
        exfalso; simp_all
    ·
      have d1z : (begun) = true := by simpa using d1
      rcases Bool.eq_false_or_eq_true (decide (0 < lacks)) with d2 | d2
      ·
        rcases Bool.eq_false_or_eq_true (bad == 0) with d3 | d3
        ·
          have w := e1_w0_3 lim bad op sum begun last lacks left low high x at' cbad d3 d2 d1 d0
          exact fin_e1 (by simp only [e_v1, bcode, pcode, ecode, fedP, Bool.and_true, Bool.true_and, Bool.and_false, Bool.false_and, Bool.or_true, Bool.or_false, Bool.true_or, Bool.false_or, Bool.not_true, Bool.not_false, cond_true, cond_false, d0, d0z, d1, d1z, d2, d3] <;> first | rfl | (simp; done)) (by simp only [e_h1, bcode, pcode, ecode, fedP, Bool.and_true, Bool.true_and, Bool.and_false, Bool.false_and, Bool.or_true, Bool.or_false, Bool.true_or, Bool.false_or, Bool.not_true, Bool.not_false, cond_true, cond_false, d0, d0z, d1, d1z, d2, d3] <;> first | rfl | (simp; done)) w (by kernel_rfl)
        ·
          exfalso; simp_all
      ·
        rcases Bool.eq_false_or_eq_true last with d3 | d3
        ·
          rcases Bool.eq_false_or_eq_true (op == 1) with d4 | d4
          ·
            rcases Bool.eq_false_or_eq_true (!cbad) with d5 | d5
            ·
              have d5z : (cbad) = false := by simpa using d5
              rcases Bool.eq_false_or_eq_true (!left == 0) with d6 | d6
              ·
                have d6z : (left == 0) = false := by simpa using d6
                rcases Bool.eq_false_or_eq_true (bad == 0) with d7 | d7
                ·
                  have w := e1_w0_5 lim bad op sum begun last lacks left low high x at' cbad d7 d6 d5 d4 d3 d2 d1 d0
                  exact fin_e1 (by simp only [e_v1, bcode, pcode, ecode, fedP, Bool.and_true, Bool.true_and, Bool.and_false, Bool.false_and, Bool.or_true, Bool.or_false, Bool.true_or, Bool.false_or, Bool.not_true, Bool.not_false, cond_true, cond_false, d0, d0z, d1, d1z, d2, d3, d4, d5, d5z, d6, d6z, d7] <;> first | rfl | (simp; done)) (by simp only [e_h1, bcode, pcode, ecode, fedP, Bool.and_true, Bool.true_and, Bool.and_false, Bool.false_and, Bool.or_true, Bool.or_false, Bool.true_or, Bool.false_or, Bool.not_true, Bool.not_false, cond_true, cond_false, d0, d0z, d1, d1z, d2, d3, d4, d5, d5z, d6, d6z, d7] <;> first | rfl | (simp; done)) w (by kernel_rfl)
                ·
                  exfalso; simp_all
              ·
                have d6z : (left == 0) = true := by simpa using d6
                rcases Bool.eq_false_or_eq_true (!last) with d7 | d7
                ·
                  have d7z : (last) = false := by simpa using d7
                  exfalso; simp_all
                ·
                  have d7z : (last) = true := by simpa using d7
                  have w := e1_w0_8 lim bad op sum begun last lacks left low high x at' cbad d7 d6 d5 d4 d3 d2 d1 d0
                  exact fin_e1 (by simp only [e_v1, bcode, pcode, ecode, fedP, Bool.and_true, Bool.true_and, Bool.and_false, Bool.false_and, Bool.or_true, Bool.or_false, Bool.true_or, Bool.false_or, Bool.not_true, Bool.not_false, cond_true, cond_false, d0, d0z, d1, d1z, d2, d3, d4, d5, d5z, d6, d6z, d7, d7z] <;> first | rfl | (simp; done)) (by simp only [e_h1, bcode, pcode, ecode, fedP, Bool.and_true, Bool.true_and, Bool.and_false, Bool.false_and, Bool.or_true, Bool.or_false, Bool.true_or, Bool.false_or, Bool.not_true, Bool.not_false, cond_true, cond_false, d0, d0z, d1, d1z, d2, d3, d4, d5, d5z, d6, d6z, d7, d7z] <;> first | rfl | (simp; done)) w (by kernel_rfl)
            ·
              have d5z : (cbad) = true := by simpa using d5
              rcases Bool.eq_false_or_eq_true (bad == 0) with d6 | d6
              ·
                have w := e1_w0_9 lim bad op sum begun last lacks left low high x at' cbad d6 d5 d4 d3 d2 d1 d0
                exact fin_e1 (by simp only [e_v1, bcode, pcode, ecode, fedP, Bool.and_true, Bool.true_and, Bool.and_false, Bool.false_and, Bool.or_true, Bool.or_false, Bool.true_or, Bool.false_or, Bool.not_true, Bool.not_false, cond_true, cond_false, d0, d0z, d1, d1z, d2, d3, d4, d5, d5z, d6] <;> first | rfl | (simp; done)) (by simp only [e_h1, bcode, pcode, ecode, fedP, Bool.and_true, Bool.true_and, Bool.and_false, Bool.false_and, Bool.or_true, Bool.or_false, Bool.true_or, Bool.false_or, Bool.not_true, Bool.not_false, cond_true, cond_false, d0, d0z, d1, d1z, d2, d3, d4, d5, d5z, d6] <;> first | rfl | (simp; done)) w (by kernel_rfl)
              ·
                exfalso; simp_all
          ·
            rcases Bool.eq_false_or_eq_true (!last) with d5 | d5
            ·
              have d5z : (last) = false := by simpa using d5
              exfalso; simp_all
            ·
              have d5z : (last) = true := by simpa using d5
              have w := e1_w0_12 lim bad op sum begun last lacks left low high x at' cbad d5 d4 d3 d2 d1 d0
              exact fin_e1 (by simp only [e_v1, bcode, pcode, ecode, fedP, Bool.and_true, Bool.true_and, Bool.and_false, Bool.false_and, Bool.or_true, Bool.or_false, Bool.true_or, Bool.false_or, Bool.not_true, Bool.not_false, cond_true, cond_false, d0, d0z, d1, d1z, d2, d3, d4, d5, d5z] <;> first | rfl | (simp; done)) (by simp only [e_h1, bcode, pcode, ecode, fedP, Bool.and_true, Bool.true_and, Bool.and_false, Bool.false_and, Bool.or_true, Bool.or_false, Bool.true_or, Bool.false_or, Bool.not_true, Bool.not_false, cond_true, cond_false, d0, d0z, d1, d1z, d2, d3, d4, d5, d5z] <;> first | rfl | (simp; done)) w (by kernel_rfl)
        ·
          rcases Bool.eq_false_or_eq_true (!last) with d4 | d4
          ·
            have d4z : (last) = false := by simpa using d4
            have w := e1_w0_13 lim bad op sum begun last lacks left low high x at' cbad d4 d3 d2 d1 d0
            exact fin_e1 (by simp only [e_v1, bcode, pcode, ecode, fedP, Bool.and_true, Bool.true_and, Bool.and_false, Bool.false_and, Bool.or_true, Bool.or_false, Bool.true_or, Bool.false_or, Bool.not_true, Bool.not_false, cond_true, cond_false, d0, d0z, d1, d1z, d2, d3, d4, d4z] <;> first | rfl | (simp; done)) (by simp only [e_h1, bcode, pcode, ecode, fedP, Bool.and_true, Bool.true_and, Bool.and_false, Bool.false_and, Bool.or_true, Bool.or_false, Bool.true_or, Bool.false_or, Bool.not_true, Bool.not_false, cond_true, cond_false, d0, d0z, d1, d1z, d2, d3, d4, d4z] <;> first | rfl | (simp; done)) w (by kernel_rfl)
          ·
            have d4z : (last) = true := by simpa using d4
            exfalso; simp_all

def e_v2 (lim bad : Int) (op sum : Int) (begun last : Bool) (lacks left : Int) (low high : Int) (x at' : Int) (cbad : Bool) : Value := (bif (ecode bad op lacks left begun last cbad == 0) then (bif last then .tuple #[.agg #[.int .i64 op, .string ⟨#[]⟩], .bool true, .int .i64 0] else .tuple #[.agg #[.int .i64 0, .string ⟨#[]⟩], .bool false, .int .i64 0]) else .tuple #[.agg #[.int .i64 0, .string ⟨#[]⟩], .bool false, .int .i64 (ecode bad op lacks left begun last cbad)])
def e_h2 (lim bad : Int) (op sum : Int) (begun last : Bool) (lacks left : Int) (low high : Int) (x at' : Int) (cbad : Bool) : Heap := (bif (ecode bad op lacks left begun last cbad == 0) then (bif last then [some (.cells [.int .i64 lim, .bool true, .int .i64 bad, .int .i64 0, .int .i64 0, .pointer none, .slice none 0 0, .pointer (some ⟨1, 0, none⟩), .bool false, .bool last, .int .i64 lacks] 51 none), some (.cells [.int .i64 left, .int .u8 low, .int .u8 high, .int .i32 x, .int .i64 at', .bool cbad] 77 none)] else [some (.cells [.int .i64 lim, .bool true, .int .i64 bad, .int .i64 op, .int .i64 sum, .pointer (some ⟨0, 5, none⟩), .slice none 0 0, .pointer (some ⟨1, 0, none⟩), .bool false, .bool last, .int .i64 lacks] 51 none), some (.cells [.int .i64 left, .int .u8 low, .int .u8 high, .int .i32 x, .int .i64 at', .bool cbad] 77 none)]) else [some (.cells [.int .i64 lim, .bool true, .int .i64 (ecode bad op lacks left begun last cbad), .int .i64 op, .int .i64 sum, .pointer (some ⟨0, 5, none⟩), .slice none 0 0, .pointer (some ⟨1, 0, none⟩), .bool begun, .bool last, .int .i64 lacks] 51 none), some (.cells [.int .i64 left, .int .u8 low, .int .u8 high, .int .i32 x, .int .i64 at', .bool cbad] 77 none)])
def e_pr2 (lim bad : Int) (op sum : Int) (begun last : Bool) (lacks left : Int) (low high : Int) (x at' : Int) (cbad : Bool) : Prop := True
theorem fin_e2 {lim : Int} {bad : Int} {op : Int} {sum : Int} {begun : Bool} {last : Bool} {lacks : Int} {left : Int} {low : Int} {high : Int} {x : Int} {at' : Int} {cbad : Bool} {v : Value} {h : Heap} (e1 : e_v2 lim bad op sum begun last lacks left low high x at' cbad = v) (e2 : e_h2 lim bad op sum begun last lacks left low high x at' cbad = h) (w : AEnds E 16 2 (startC E 16 [.pointer (some ⟨0, 0, none⟩)] [some (.cells [.int .i64 lim, .bool true, .int .i64 bad, .int .i64 op, .int .i64 sum, .pointer (some ⟨0, 5, none⟩), .slice none 0 0, .pointer (some ⟨1, 0, none⟩), .bool begun, .bool last, .int .i64 lacks] 51 none), some (.cells [.int .i64 left, .int .u8 low, .int .u8 high, .int .i32 x, .int .i64 at', .bool cbad] 77 none)]) v h) (hl : Nat.ble 2 h.length = true) : CallOk E 16 [.pointer (some ⟨0, 0, none⟩)] [some (.cells [.int .i64 lim, .bool true, .int .i64 bad, .int .i64 op, .int .i64 sum, .pointer (some ⟨0, 5, none⟩), .slice none 0 0, .pointer (some ⟨1, 0, none⟩), .bool begun, .bool last, .int .i64 lacks] 51 none), some (.cells [.int .i64 left, .int .u8 low, .int .u8 high, .int .i32 x, .int .i64 at', .bool cbad] 77 none)] (e_v2 lim bad op sum begun last lacks left low high x at' cbad) (e_h2 lim bad op sum begun last lacks left low high x at' cbad) := by
  rw [e1, e2]
  exact callOk_of_ends w (by kernel_rfl) (Nat.le_of_ble_eq_true hl)
theorem e2_all (lim bad : Int) (op sum : Int) (begun last : Bool) (lacks left : Int) (low high : Int) (x at' : Int) (cbad : Bool) (hp : e_pr2 lim bad op sum begun last lacks left low high x at' cbad) : CallOk E 16 [.pointer (some ⟨0, 0, none⟩)] [some (.cells [.int .i64 lim, .bool true, .int .i64 bad, .int .i64 op, .int .i64 sum, .pointer (some ⟨0, 5, none⟩), .slice none 0 0, .pointer (some ⟨1, 0, none⟩), .bool begun, .bool last, .int .i64 lacks] 51 none), some (.cells [.int .i64 left, .int .u8 low, .int .u8 high, .int .i32 x, .int .i64 at', .bool cbad] 77 none)] (e_v2 lim bad op sum begun last lacks left low high x at' cbad) (e_h2 lim bad op sum begun last lacks left low high x at' cbad) := by
  unfold e_pr2 at hp
  rcases Bool.eq_false_or_eq_true (bad != 0) with d0 | d0
  ·
    have d0z : (bad == 0) = false := by simpa using d0
    have w := e2_w0_0 lim bad op sum begun last lacks left low high x at' cbad d0
    exact fin_e2 (by simp only [e_v2, bcode, pcode, ecode, fedP, Bool.and_true, Bool.true_and, Bool.and_false, Bool.false_and, Bool.or_true, Bool.or_false, Bool.true_or, Bool.false_or, Bool.not_true, Bool.not_false, cond_true, cond_false, d0, d0z] <;> first | rfl | (simp; done)) (by simp only [e_h2, bcode, pcode, ecode, fedP, Bool.and_true, Bool.true_and, Bool.and_false, Bool.false_and, Bool.or_true, Bool.or_false, Bool.true_or, Bool.false_or, Bool.not_true, Bool.not_false, cond_true, cond_false, d0, d0z] <;> first | rfl | (simp; done)) w (by kernel_rfl)
  ·
    have d0z : (bad == 0) = true := by simpa using d0
    rcases Bool.eq_false_or_eq_true (!begun) with d1 | d1
    ·
      have d1z : (begun) = false := by simpa using d1
      rcases Bool.eq_false_or_eq_true (bad == 0) with d2 | d2
      ·
        have w := e2_w0_1 lim bad op sum begun last lacks left low high x at' cbad d2 d1 d0
        exact fin_e2 (by simp only [e_v2, bcode, pcode, ecode, fedP, Bool.and_true, Bool.true_and, Bool.and_false, Bool.false_and, Bool.or_true, Bool.or_false, Bool.true_or, Bool.false_or, Bool.not_true, Bool.not_false, cond_true, cond_false, d0, d0z, d1, d1z, d2] <;> first | rfl | (simp; done)) (by simp only [e_h2, bcode, pcode, ecode, fedP, Bool.and_true, Bool.true_and, Bool.and_false, Bool.false_and, Bool.or_true, Bool.or_false, Bool.true_or, Bool.false_or, Bool.not_true, Bool.not_false, cond_true, cond_false, d0, d0z, d1, d1z, d2] <;> first | rfl | (simp; done)) w (by kernel_rfl)
      ·
        exfalso; simp_all
    ·
      have d1z : (begun) = true := by simpa using d1
      rcases Bool.eq_false_or_eq_true (decide (0 < lacks)) with d2 | d2
      ·
        rcases Bool.eq_false_or_eq_true (bad == 0) with d3 | d3
        ·
          have w := e2_w0_3 lim bad op sum begun last lacks left low high x at' cbad d3 d2 d1 d0
          exact fin_e2 (by simp only [e_v2, bcode, pcode, ecode, fedP, Bool.and_true, Bool.true_and, Bool.and_false, Bool.false_and, Bool.or_true, Bool.or_false, Bool.true_or, Bool.false_or, Bool.not_true, Bool.not_false, cond_true, cond_false, d0, d0z, d1, d1z, d2, d3] <;> first | rfl | (simp; done)) (by simp only [e_h2, bcode, pcode, ecode, fedP, Bool.and_true, Bool.true_and, Bool.and_false, Bool.false_and, Bool.or_true, Bool.or_false, Bool.true_or, Bool.false_or, Bool.not_true, Bool.not_false, cond_true, cond_false, d0, d0z, d1, d1z, d2, d3] <;> first | rfl | (simp; done)) w (by kernel_rfl)
        ·
          exfalso; simp_all
      ·
        rcases Bool.eq_false_or_eq_true last with d3 | d3
        ·
          rcases Bool.eq_false_or_eq_true (op == 1) with d4 | d4
          ·
            rcases Bool.eq_false_or_eq_true (!cbad) with d5 | d5
            ·
              have d5z : (cbad) = false := by simpa using d5
              rcases Bool.eq_false_or_eq_true (!left == 0) with d6 | d6
              ·
                have d6z : (left == 0) = false := by simpa using d6
                rcases Bool.eq_false_or_eq_true (bad == 0) with d7 | d7
                ·
                  have w := e2_w0_5 lim bad op sum begun last lacks left low high x at' cbad d7 d6 d5 d4 d3 d2 d1 d0
                  exact fin_e2 (by simp only [e_v2, bcode, pcode, ecode, fedP, Bool.and_true, Bool.true_and, Bool.and_false, Bool.false_and, Bool.or_true, Bool.or_false, Bool.true_or, Bool.false_or, Bool.not_true, Bool.not_false, cond_true, cond_false, d0, d0z, d1, d1z, d2, d3, d4, d5, d5z, d6, d6z, d7] <;> first | rfl | (simp; done)) (by simp only [e_h2, bcode, pcode, ecode, fedP, Bool.and_true, Bool.true_and, Bool.and_false, Bool.false_and, Bool.or_true, Bool.or_false, Bool.true_or, Bool.false_or, Bool.not_true, Bool.not_false, cond_true, cond_false, d0, d0z, d1, d1z, d2, d3, d4, d5, d5z, d6, d6z, d7] <;> first | rfl | (simp; done)) w (by kernel_rfl)
                ·
                  exfalso; simp_all
              ·
                have d6z : (left == 0) = true := by simpa using d6
                rcases Bool.eq_false_or_eq_true (!last) with d7 | d7
                ·
                  have d7z : (last) = false := by simpa using d7
                  exfalso; simp_all
                ·
                  have d7z : (last) = true := by simpa using d7
                  have w := e2_w0_8 lim bad op sum begun last lacks left low high x at' cbad d7 d6 d5 d4 d3 d2 d1 d0
                  exact fin_e2 (by simp only [e_v2, bcode, pcode, ecode, fedP, Bool.and_true, Bool.true_and, Bool.and_false, Bool.false_and, Bool.or_true, Bool.or_false, Bool.true_or, Bool.false_or, Bool.not_true, Bool.not_false, cond_true, cond_false, d0, d0z, d1, d1z, d2, d3, d4, d5, d5z, d6, d6z, d7, d7z] <;> first | rfl | (simp; done)) (by simp only [e_h2, bcode, pcode, ecode, fedP, Bool.and_true, Bool.true_and, Bool.and_false, Bool.false_and, Bool.or_true, Bool.or_false, Bool.true_or, Bool.false_or, Bool.not_true, Bool.not_false, cond_true, cond_false, d0, d0z, d1, d1z, d2, d3, d4, d5, d5z, d6, d6z, d7, d7z] <;> first | rfl | (simp; done)) w (by kernel_rfl)
            ·
              have d5z : (cbad) = true := by simpa using d5
              rcases Bool.eq_false_or_eq_true (bad == 0) with d6 | d6
              ·
                have w := e2_w0_9 lim bad op sum begun last lacks left low high x at' cbad d6 d5 d4 d3 d2 d1 d0
                exact fin_e2 (by simp only [e_v2, bcode, pcode, ecode, fedP, Bool.and_true, Bool.true_and, Bool.and_false, Bool.false_and, Bool.or_true, Bool.or_false, Bool.true_or, Bool.false_or, Bool.not_true, Bool.not_false, cond_true, cond_false, d0, d0z, d1, d1z, d2, d3, d4, d5, d5z, d6] <;> first | rfl | (simp; done)) (by simp only [e_h2, bcode, pcode, ecode, fedP, Bool.and_true, Bool.true_and, Bool.and_false, Bool.false_and, Bool.or_true, Bool.or_false, Bool.true_or, Bool.false_or, Bool.not_true, Bool.not_false, cond_true, cond_false, d0, d0z, d1, d1z, d2, d3, d4, d5, d5z, d6] <;> first | rfl | (simp; done)) w (by kernel_rfl)
              ·
                exfalso; simp_all
          ·
            rcases Bool.eq_false_or_eq_true (!last) with d5 | d5
            ·
              have d5z : (last) = false := by simpa using d5
              exfalso; simp_all
            ·
              have d5z : (last) = true := by simpa using d5
              have w := e2_w0_12 lim bad op sum begun last lacks left low high x at' cbad d5 d4 d3 d2 d1 d0
              exact fin_e2 (by simp only [e_v2, bcode, pcode, ecode, fedP, Bool.and_true, Bool.true_and, Bool.and_false, Bool.false_and, Bool.or_true, Bool.or_false, Bool.true_or, Bool.false_or, Bool.not_true, Bool.not_false, cond_true, cond_false, d0, d0z, d1, d1z, d2, d3, d4, d5, d5z] <;> first | rfl | (simp; done)) (by simp only [e_h2, bcode, pcode, ecode, fedP, Bool.and_true, Bool.true_and, Bool.and_false, Bool.false_and, Bool.or_true, Bool.or_false, Bool.true_or, Bool.false_or, Bool.not_true, Bool.not_false, cond_true, cond_false, d0, d0z, d1, d1z, d2, d3, d4, d5, d5z] <;> first | rfl | (simp; done)) w (by kernel_rfl)
        ·
          rcases Bool.eq_false_or_eq_true (!last) with d4 | d4
          ·
            have d4z : (last) = false := by simpa using d4
            have w := e2_w0_13 lim bad op sum begun last lacks left low high x at' cbad d4 d3 d2 d1 d0
            exact fin_e2 (by simp only [e_v2, bcode, pcode, ecode, fedP, Bool.and_true, Bool.true_and, Bool.and_false, Bool.false_and, Bool.or_true, Bool.or_false, Bool.true_or, Bool.false_or, Bool.not_true, Bool.not_false, cond_true, cond_false, d0, d0z, d1, d1z, d2, d3, d4, d4z] <;> first | rfl | (simp; done)) (by simp only [e_h2, bcode, pcode, ecode, fedP, Bool.and_true, Bool.true_and, Bool.and_false, Bool.false_and, Bool.or_true, Bool.or_false, Bool.true_or, Bool.false_or, Bool.not_true, Bool.not_false, cond_true, cond_false, d0, d0z, d1, d1z, d2, d3, d4, d4z] <;> first | rfl | (simp; done)) w (by kernel_rfl)
          ·
            have d4z : (last) = true := by simpa using d4
            exfalso; simp_all

def e_v3 (lim bad : Int) (op sum : Int) (begun last : Bool) (lacks : Int) (bn : Nat) (B : List Value) (left low : Int) (high x at' : Int) (cbad : Bool) : Value := (bif (ecode bad op lacks left begun last cbad == 0) then (bif last then .tuple #[.agg #[.int .i64 op, .string (bytesOf B)], .bool true, .int .i64 0] else .tuple #[.agg #[.int .i64 0, .string ⟨#[]⟩], .bool false, .int .i64 0]) else .tuple #[.agg #[.int .i64 0, .string ⟨#[]⟩], .bool false, .int .i64 (ecode bad op lacks left begun last cbad)])
def e_h3 (lim bad : Int) (op sum : Int) (begun last : Bool) (lacks : Int) (bn : Nat) (B : List Value) (left low : Int) (high x at' : Int) (cbad : Bool) : Heap := (bif (ecode bad op lacks left begun last cbad == 0) then (bif last then [some (.cells [.int .i64 lim, .bool true, .int .i64 bad, .int .i64 0, .int .i64 0, .pointer none, .slice none 0 0, .pointer (some ⟨2, 0, none⟩), .bool false, .bool last, .int .i64 lacks] 51 none), none, some (.cells [.int .i64 left, .int .u8 low, .int .u8 high, .int .i32 x, .int .i64 at', .bool cbad] 77 none)] else [some (.cells [.int .i64 lim, .bool true, .int .i64 bad, .int .i64 op, .int .i64 sum, .pointer (some ⟨0, 5, none⟩), .slice (some ⟨1, 0, none⟩) bn 0, .pointer (some ⟨2, 0, none⟩), .bool false, .bool last, .int .i64 lacks] 51 none), some (.cells B 5 (some 1)), some (.cells [.int .i64 left, .int .u8 low, .int .u8 high, .int .i32 x, .int .i64 at', .bool cbad] 77 none)]) else [some (.cells [.int .i64 lim, .bool true, .int .i64 (ecode bad op lacks left begun last cbad), .int .i64 op, .int .i64 sum, .pointer (some ⟨0, 5, none⟩), .slice (some ⟨1, 0, none⟩) bn 0, .pointer (some ⟨2, 0, none⟩), .bool begun, .bool last, .int .i64 lacks] 51 none), some (.cells B 5 (some 1)), some (.cells [.int .i64 left, .int .u8 low, .int .u8 high, .int .i32 x, .int .i64 at', .bool cbad] 77 none)])
def e_pr3 (lim bad : Int) (op sum : Int) (begun last : Bool) (lacks : Int) (bn : Nat) (B : List Value) (left low : Int) (high x at' : Int) (cbad : Bool) : Prop := (∃ b : ByteArray, slen b = bn ∧ B = ofBytes b) ∧ (0 < bn ∧ bn ≤ 1000000000)
theorem fin_e3 {lim : Int} {bad : Int} {op : Int} {sum : Int} {begun : Bool} {last : Bool} {lacks : Int} {bn : Nat} {B : List Value} {left : Int} {low : Int} {high : Int} {x : Int} {at' : Int} {cbad : Bool} {v : Value} {h : Heap} (e1 : e_v3 lim bad op sum begun last lacks bn B left low high x at' cbad = v) (e2 : e_h3 lim bad op sum begun last lacks bn B left low high x at' cbad = h) (w : AEnds E 16 3 (startC E 16 [.pointer (some ⟨0, 0, none⟩)] [some (.cells [.int .i64 lim, .bool true, .int .i64 bad, .int .i64 op, .int .i64 sum, .pointer (some ⟨0, 5, none⟩), .slice (some ⟨1, 0, none⟩) bn 0, .pointer (some ⟨2, 0, none⟩), .bool begun, .bool last, .int .i64 lacks] 51 none), some (.cells B 5 (some 1)), some (.cells [.int .i64 left, .int .u8 low, .int .u8 high, .int .i32 x, .int .i64 at', .bool cbad] 77 none)]) v h) (hl : Nat.ble 3 h.length = true) : CallOk E 16 [.pointer (some ⟨0, 0, none⟩)] [some (.cells [.int .i64 lim, .bool true, .int .i64 bad, .int .i64 op, .int .i64 sum, .pointer (some ⟨0, 5, none⟩), .slice (some ⟨1, 0, none⟩) bn 0, .pointer (some ⟨2, 0, none⟩), .bool begun, .bool last, .int .i64 lacks] 51 none), some (.cells B 5 (some 1)), some (.cells [.int .i64 left, .int .u8 low, .int .u8 high, .int .i32 x, .int .i64 at', .bool cbad] 77 none)] (e_v3 lim bad op sum begun last lacks bn B left low high x at' cbad) (e_h3 lim bad op sum begun last lacks bn B left low high x at' cbad) := by
  rw [e1, e2]
  exact callOk_of_ends w (by kernel_rfl) (Nat.le_of_ble_eq_true hl)
theorem e3_all (lim bad : Int) (op sum : Int) (begun last : Bool) (lacks : Int) (bn : Nat) (B : List Value) (left low : Int) (high x at' : Int) (cbad : Bool) (hp : e_pr3 lim bad op sum begun last lacks bn B left low high x at' cbad) : CallOk E 16 [.pointer (some ⟨0, 0, none⟩)] [some (.cells [.int .i64 lim, .bool true, .int .i64 bad, .int .i64 op, .int .i64 sum, .pointer (some ⟨0, 5, none⟩), .slice (some ⟨1, 0, none⟩) bn 0, .pointer (some ⟨2, 0, none⟩), .bool begun, .bool last, .int .i64 lacks] 51 none), some (.cells B 5 (some 1)), some (.cells [.int .i64 left, .int .u8 low, .int .u8 high, .int .i32 x, .int .i64 at', .bool cbad] 77 none)] (e_v3 lim bad op sum begun last lacks bn B left low high x at' cbad) (e_h3 lim bad op sum begun last lacks bn B left low high x at' cbad) := by
  unfold e_pr3 at hp
  obtain ⟨b, hb1, hb2⟩ := hp.1
  have hT : List.take (bn * 1) (List.drop 0 B) = B := by rw [hb2, List.drop_zero, Nat.mul_one, ← hb1, take_ob]
  have hV : List.take (bn : Int).toNat (List.drop 0 B) = B := by rw [hb2, List.drop_zero, Int.toNat_natCast, ← hb1, take_ob]
  rcases Bool.eq_false_or_eq_true (bad != 0) with d0 | d0
  ·
    have d0z : (bad == 0) = false := by simpa using d0
    have w := e3_w0_0 lim bad op sum begun last lacks bn B left low high x at' cbad (by rw [hb2]; exact ob_flat b) d0
    try simp only [hT, hV] at w
    exact fin_e3 (by simp only [e_v3, bcode, pcode, ecode, fedP, Bool.and_true, Bool.true_and, Bool.and_false, Bool.false_and, Bool.or_true, Bool.or_false, Bool.true_or, Bool.false_or, Bool.not_true, Bool.not_false, cond_true, cond_false, d0, d0z] <;> first | rfl | (simp; done)) (by simp only [e_h3, bcode, pcode, ecode, fedP, Bool.and_true, Bool.true_and, Bool.and_false, Bool.false_and, Bool.or_true, Bool.or_false, Bool.true_or, Bool.false_or, Bool.not_true, Bool.not_false, cond_true, cond_false, d0, d0z] <;> first | rfl | (simp; done)) w (by kernel_rfl)
  ·
    have d0z : (bad == 0) = true := by simpa using d0
    rcases Bool.eq_false_or_eq_true (!begun) with d1 | d1
    ·
      have d1z : (begun) = false := by simpa using d1
      rcases Bool.eq_false_or_eq_true (bad == 0) with d2 | d2
      ·
        have w := e3_w0_1 lim bad op sum begun last lacks bn B left low high x at' cbad (by rw [hb2]; exact ob_flat b) d2 d1 d0
        try simp only [hT, hV] at w
        exact fin_e3 (by simp only [e_v3, bcode, pcode, ecode, fedP, Bool.and_true, Bool.true_and, Bool.and_false, Bool.false_and, Bool.or_true, Bool.or_false, Bool.true_or, Bool.false_or, Bool.not_true, Bool.not_false, cond_true, cond_false, d0, d0z, d1, d1z, d2] <;> first | rfl | (simp; done)) (by simp only [e_h3, bcode, pcode, ecode, fedP, Bool.and_true, Bool.true_and, Bool.and_false, Bool.false_and, Bool.or_true, Bool.or_false, Bool.true_or, Bool.false_or, Bool.not_true, Bool.not_false, cond_true, cond_false, d0, d0z, d1, d1z, d2] <;> first | rfl | (simp; done)) w (by kernel_rfl)
      ·
        exfalso; simp_all
    ·
      have d1z : (begun) = true := by simpa using d1
      rcases Bool.eq_false_or_eq_true (decide (0 < lacks)) with d2 | d2
      ·
        rcases Bool.eq_false_or_eq_true (bad == 0) with d3 | d3
        ·
          have w := e3_w0_3 lim bad op sum begun last lacks bn B left low high x at' cbad (by rw [hb2]; exact ob_flat b) d3 d2 d1 d0
          try simp only [hT, hV] at w
          exact fin_e3 (by simp only [e_v3, bcode, pcode, ecode, fedP, Bool.and_true, Bool.true_and, Bool.and_false, Bool.false_and, Bool.or_true, Bool.or_false, Bool.true_or, Bool.false_or, Bool.not_true, Bool.not_false, cond_true, cond_false, d0, d0z, d1, d1z, d2, d3] <;> first | rfl | (simp; done)) (by simp only [e_h3, bcode, pcode, ecode, fedP, Bool.and_true, Bool.true_and, Bool.and_false, Bool.false_and, Bool.or_true, Bool.or_false, Bool.true_or, Bool.false_or, Bool.not_true, Bool.not_false, cond_true, cond_false, d0, d0z, d1, d1z, d2, d3] <;> first | rfl | (simp; done)) w (by kernel_rfl)
        ·
          exfalso; simp_all
      ·
        rcases Bool.eq_false_or_eq_true last with d3 | d3
        ·
          rcases Bool.eq_false_or_eq_true (op == 1) with d4 | d4
          ·
            rcases Bool.eq_false_or_eq_true (!cbad) with d5 | d5
            ·
              have d5z : (cbad) = false := by simpa using d5
              rcases Bool.eq_false_or_eq_true (!left == 0) with d6 | d6
              ·
                have d6z : (left == 0) = false := by simpa using d6
                rcases Bool.eq_false_or_eq_true (bad == 0) with d7 | d7
                ·
                  have w := e3_w0_5 lim bad op sum begun last lacks bn B left low high x at' cbad (by rw [hb2]; exact ob_flat b) d7 d6 d5 d4 d3 d2 d1 d0
                  try simp only [hT, hV] at w
                  exact fin_e3 (by simp only [e_v3, bcode, pcode, ecode, fedP, Bool.and_true, Bool.true_and, Bool.and_false, Bool.false_and, Bool.or_true, Bool.or_false, Bool.true_or, Bool.false_or, Bool.not_true, Bool.not_false, cond_true, cond_false, d0, d0z, d1, d1z, d2, d3, d4, d5, d5z, d6, d6z, d7] <;> first | rfl | (simp; done)) (by simp only [e_h3, bcode, pcode, ecode, fedP, Bool.and_true, Bool.true_and, Bool.and_false, Bool.false_and, Bool.or_true, Bool.or_false, Bool.true_or, Bool.false_or, Bool.not_true, Bool.not_false, cond_true, cond_false, d0, d0z, d1, d1z, d2, d3, d4, d5, d5z, d6, d6z, d7] <;> first | rfl | (simp; done)) w (by kernel_rfl)
                ·
                  exfalso; simp_all
              ·
                have d6z : (left == 0) = true := by simpa using d6
                rcases Bool.eq_false_or_eq_true (!last) with d7 | d7
                ·
                  have d7z : (last) = false := by simpa using d7
                  exfalso; simp_all
                ·
                  have d7z : (last) = true := by simpa using d7
                  have w := e3_w0_8 lim bad op sum begun last lacks bn B left low high x at' cbad (by omega) (by omega) (by rw [hb2, ob_len]; omega) (by rw [hV, hb2]; exact ob_int b) (by omega) d7 d6 d5 d4 d3 d2 d1 d0
                  try simp only [hT, hV] at w
                  exact fin_e3 (by simp only [e_v3, bcode, pcode, ecode, fedP, Bool.and_true, Bool.true_and, Bool.and_false, Bool.false_and, Bool.or_true, Bool.or_false, Bool.true_or, Bool.false_or, Bool.not_true, Bool.not_false, cond_true, cond_false, d0, d0z, d1, d1z, d2, d3, d4, d5, d5z, d6, d6z, d7, d7z] <;> first | rfl | (simp; done)) (by simp only [e_h3, bcode, pcode, ecode, fedP, Bool.and_true, Bool.true_and, Bool.and_false, Bool.false_and, Bool.or_true, Bool.or_false, Bool.true_or, Bool.false_or, Bool.not_true, Bool.not_false, cond_true, cond_false, d0, d0z, d1, d1z, d2, d3, d4, d5, d5z, d6, d6z, d7, d7z] <;> first | rfl | (simp; done)) w (by kernel_rfl)
            ·
              have d5z : (cbad) = true := by simpa using d5
              rcases Bool.eq_false_or_eq_true (bad == 0) with d6 | d6
              ·
                have w := e3_w0_9 lim bad op sum begun last lacks bn B left low high x at' cbad (by rw [hb2]; exact ob_flat b) d6 d5 d4 d3 d2 d1 d0
                try simp only [hT, hV] at w
                exact fin_e3 (by simp only [e_v3, bcode, pcode, ecode, fedP, Bool.and_true, Bool.true_and, Bool.and_false, Bool.false_and, Bool.or_true, Bool.or_false, Bool.true_or, Bool.false_or, Bool.not_true, Bool.not_false, cond_true, cond_false, d0, d0z, d1, d1z, d2, d3, d4, d5, d5z, d6] <;> first | rfl | (simp; done)) (by simp only [e_h3, bcode, pcode, ecode, fedP, Bool.and_true, Bool.true_and, Bool.and_false, Bool.false_and, Bool.or_true, Bool.or_false, Bool.true_or, Bool.false_or, Bool.not_true, Bool.not_false, cond_true, cond_false, d0, d0z, d1, d1z, d2, d3, d4, d5, d5z, d6] <;> first | rfl | (simp; done)) w (by kernel_rfl)
              ·
                exfalso; simp_all
          ·
            rcases Bool.eq_false_or_eq_true (!last) with d5 | d5
            ·
              have d5z : (last) = false := by simpa using d5
              exfalso; simp_all
            ·
              have d5z : (last) = true := by simpa using d5
              have w := e3_w0_12 lim bad op sum begun last lacks bn B left low high x at' cbad (by omega) (by omega) (by rw [hb2, ob_len]; omega) (by rw [hV, hb2]; exact ob_int b) (by omega) d5 d4 d3 d2 d1 d0
              try simp only [hT, hV] at w
              exact fin_e3 (by simp only [e_v3, bcode, pcode, ecode, fedP, Bool.and_true, Bool.true_and, Bool.and_false, Bool.false_and, Bool.or_true, Bool.or_false, Bool.true_or, Bool.false_or, Bool.not_true, Bool.not_false, cond_true, cond_false, d0, d0z, d1, d1z, d2, d3, d4, d5, d5z] <;> first | rfl | (simp; done)) (by simp only [e_h3, bcode, pcode, ecode, fedP, Bool.and_true, Bool.true_and, Bool.and_false, Bool.false_and, Bool.or_true, Bool.or_false, Bool.true_or, Bool.false_or, Bool.not_true, Bool.not_false, cond_true, cond_false, d0, d0z, d1, d1z, d2, d3, d4, d5, d5z] <;> first | rfl | (simp; done)) w (by kernel_rfl)
        ·
          rcases Bool.eq_false_or_eq_true (!last) with d4 | d4
          ·
            have d4z : (last) = false := by simpa using d4
            have w := e3_w0_13 lim bad op sum begun last lacks bn B left low high x at' cbad (by rw [hb2]; exact ob_flat b) d4 d3 d2 d1 d0
            try simp only [hT, hV] at w
            exact fin_e3 (by simp only [e_v3, bcode, pcode, ecode, fedP, Bool.and_true, Bool.true_and, Bool.and_false, Bool.false_and, Bool.or_true, Bool.or_false, Bool.true_or, Bool.false_or, Bool.not_true, Bool.not_false, cond_true, cond_false, d0, d0z, d1, d1z, d2, d3, d4, d4z] <;> first | rfl | (simp; done)) (by simp only [e_h3, bcode, pcode, ecode, fedP, Bool.and_true, Bool.true_and, Bool.and_false, Bool.false_and, Bool.or_true, Bool.or_false, Bool.true_or, Bool.false_or, Bool.not_true, Bool.not_false, cond_true, cond_false, d0, d0z, d1, d1z, d2, d3, d4, d4z] <;> first | rfl | (simp; done)) w (by kernel_rfl)
          ·
            have d4z : (last) = true := by simpa using d4
            exfalso; simp_all


end Go.Proofs.Ytgaedhpeiamdfaa
