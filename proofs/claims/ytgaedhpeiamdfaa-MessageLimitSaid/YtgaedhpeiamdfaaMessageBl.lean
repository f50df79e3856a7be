/-
  A joiner of frames: what it lacks, as plain functions; by the shapes of its memory: no check (0); a check (1); one that was written to, with nothing (2); one that holds something (3).
-/
import Derived.Test.YtgaedhpeiamdfaaAmSlim
import Derived.Test.YtgaedhpeiamdfaaMessageJ0
set_option linter.unusedVariables false
set_option linter.unusedSimpArgs false
open Go Go.Am
namespace Go.Proofs.Ytgaedhpeiamdfaa

abbrev jlacks0_R : Type := Int
def jlacks0_V (lim : Int) (made : Bool) (bad op sum : Int) (begun last : Bool) (lacks r : Int) : Value := .int .i64 r
def jlacks0_H (lim : Int) (made : Bool) (bad op sum : Int) (begun last : Bool) (lacks r : Int) : Heap := [some (.cells [.int .i64 lim, .bool made, .int .i64 bad, .int .i64 op, .int .i64 sum, .pointer none, .slice none 0 0, .pointer none, .bool begun, .bool last, .int .i64 lacks] 51 none)]
noncomputable def jlacks0_Q (lim : Int) (made : Bool) (bad op sum : Int) (begun last : Bool) (lacks : Int) (C : Cfg) (r : jlacks0_R) : Prop :=
  let p := r
  AEnds E 20 1 C (jlacks0_V lim made bad op sum begun last lacks p) (jlacks0_H lim made bad op sum begun last lacks p)
noncomputable def jlacks0_t0 (lim : Int) (made : Bool) (bad op sum : Int) (begun last : Bool) (lacks : Int) : jlacks0_R :=
  bif !made then -1
  else bif bad != 0 then -1
    else bif !begun then -1
      else lacks
def jlacks0_S0 (lim : Int) (made : Bool) (bad op sum : Int) (begun last : Bool) (lacks : Int) : Prop :=
  True
theorem jlacks0_ok0 (lim : Int) (made : Bool) (bad op sum : Int) (begun last : Bool) (lacks : Int) (hS : jlacks0_S0 lim made bad op sum begun last lacks) : jlacks0_Q lim made bad op sum begun last lacks (startC E 20 ([.pointer (some ⟨0, 0, none⟩)]) ([some (.cells [.int .i64 lim, .bool made, .int .i64 bad, .int .i64 op, .int .i64 sum, .pointer none, .slice none 0 0, .pointer none, .bool begun, .bool last, .int .i64 lacks] 51 none)])) (jlacks0_t0 lim made bad op sum begun last lacks) := by
  unfold jlacks0_S0 at hS
  unfold jlacks0_t0
  refine cond_intro (P := jlacks0_Q lim made bad op sum begun last lacks (startC E 20 ([.pointer (some ⟨0, 0, none⟩)]) ([some (.cells [.int .i64 lim, .bool made, .int .i64 bad, .int .i64 op, .int .i64 sum, .pointer none, .slice none 0 0, .pointer none, .bool begun, .bool last, .int .i64 lacks] 51 none)]))) _ (fun h1 => ?_) (fun h1 => ?_)
  · skip
    exact ends_q noK_ok 2000 47 (some [false, true, true, true]) [0] [2] [0] (by kernel_rfl) (andI (dT h1) (rfl)) (by kernel_rfl)
  · skip
    refine cond_intro (P := jlacks0_Q lim made bad op sum begun last lacks (startC E 20 ([.pointer (some ⟨0, 0, none⟩)]) ([some (.cells [.int .i64 lim, .bool made, .int .i64 bad, .int .i64 op, .int .i64 sum, .pointer none, .slice none 0 0, .pointer none, .bool begun, .bool last, .int .i64 lacks] 51 none)]))) _ (fun h2 => ?_) (fun h2 => ?_)
    · skip
      exact ends_q noK_ok 2000 47 (some [false, false, true, true]) [0] [2] [0] (by kernel_rfl) (andI (dT h2) (andI (dF h1) (rfl))) (by kernel_rfl)
    · skip
      refine cond_intro (P := jlacks0_Q lim made bad op sum begun last lacks (startC E 20 ([.pointer (some ⟨0, 0, none⟩)]) ([some (.cells [.int .i64 lim, .bool made, .int .i64 bad, .int .i64 op, .int .i64 sum, .pointer none, .slice none 0 0, .pointer none, .bool begun, .bool last, .int .i64 lacks] 51 none)]))) _ (fun h3 => ?_) (fun h3 => ?_)
      · skip
        exact ends_q noK_ok 2000 47 (some [false, false, false, true]) [0] [2] [0] (by kernel_rfl) (andI (dT h3) (andI (dF h2) (andI (dF h1) (rfl)))) (by kernel_rfl)
      · skip
        exact ends_q noK_ok 2000 52 (some [false, false, false, false]) [0] [2] [0] (by kernel_rfl) (andI (dF h3) (andI (dF h2) (andI (dF h1) (rfl)))) (by kernel_rfl)
theorem jlacks0_call (lim : Int) (made : Bool) (bad op sum : Int) (begun last : Bool) (lacks : Int) (hS : jlacks0_S0 lim made bad op sum begun last lacks) : CallOk E 20 ([.pointer (some ⟨0, 0, none⟩)]) ([some (.cells [.int .i64 lim, .bool made, .int .i64 bad, .int .i64 op, .int .i64 sum, .pointer none, .slice none 0 0, .pointer none, .bool begun, .bool last, .int .i64 lacks] 51 none)]) (jlacks0_V lim made bad op sum begun last lacks (jlacks0_t0 lim made bad op sum begun last lacks)) (jlacks0_H lim made bad op sum begun last lacks (jlacks0_t0 lim made bad op sum begun last lacks)) := callOk_of_ends (jlacks0_ok0 lim made bad op sum begun last lacks hS) (by kernel_rfl) (Nat.le_of_ble_eq_true (by kernel_rfl))
def jlacks0_ex (a : List Value) (h : Heap) : Int × Bool × Int × Int × Int × Bool × Bool × Int := ((toInt ((cellsOf h 0).getD 0 undef)), (toBool ((cellsOf h 0).getD 1 undef)), (toInt ((cellsOf h 0).getD 2 undef)), (toInt ((cellsOf h 0).getD 3 undef)), (toInt ((cellsOf h 0).getD 4 undef)), (toBool ((cellsOf h 0).getD 8 undef)), (toBool ((cellsOf h 0).getD 9 undef)), (toInt ((cellsOf h 0).getD 10 undef)))
noncomputable def jlacks0_k : Ct := kP jlacks0_ex (fun (a0, a1, a2, a3, a4, a5, a6, a7) => [.pointer (some ⟨0, 0, none⟩)]) (fun (a0, a1, a2, a3, a4, a5, a6, a7) => [some (.cells [.int .i64 a0, .bool a1, .int .i64 a2, .int .i64 a3, .int .i64 a4, .pointer none, .slice none 0 0, .pointer none, .bool a5, .bool a6, .int .i64 a7] 51 none)]) (fun (a0, a1, a2, a3, a4, a5, a6, a7) => jlacks0_S0 a0 a1 a2 a3 a4 a5 a6 a7) (fun (a0, a1, a2, a3, a4, a5, a6, a7) => jlacks0_V a0 a1 a2 a3 a4 a5 a6 a7 (jlacks0_t0 a0 a1 a2 a3 a4 a5 a6 a7)) (fun (a0, a1, a2, a3, a4, a5, a6, a7) => jlacks0_H a0 a1 a2 a3 a4 a5 a6 a7 (jlacks0_t0 a0 a1 a2 a3 a4 a5 a6 a7))
theorem jlacks0_k_ok : KFor E 20 jlacks0_k := kP_ok (fun (a0, a1, a2, a3, a4, a5, a6, a7) hx => jlacks0_call a0 a1 a2 a3 a4 a5 a6 a7 hx)


abbrev jlacks1_R : Type := Int
def jlacks1_V (lim : Int) (made : Bool) (bad op sum : Int) (begun last : Bool) (lacks left : Int) (low high : Int) (x at' : Int) (cbad : Bool) (r : Int) : Value := .int .i64 r
def jlacks1_H (lim : Int) (made : Bool) (bad op sum : Int) (begun last : Bool) (lacks left : Int) (low high : Int) (x at' : Int) (cbad : Bool) (r : Int) : Heap := [some (.cells [.int .i64 lim, .bool made, .int .i64 bad, .int .i64 op, .int .i64 sum, .pointer none, .slice none 0 0, .pointer (some ⟨1, 0, none⟩), .bool begun, .bool last, .int .i64 lacks] 51 none), some (.cells [.int .i64 left, .int .u8 low, .int .u8 high, .int .i32 x, .int .i64 at', .bool cbad] 77 none)]
noncomputable def jlacks1_Q (lim : Int) (made : Bool) (bad op sum : Int) (begun last : Bool) (lacks left : Int) (low high : Int) (x at' : Int) (cbad : Bool) (C : Cfg) (r : jlacks1_R) : Prop :=
  let p := r
  AEnds E 20 2 C (jlacks1_V lim made bad op sum begun last lacks left low high x at' cbad p) (jlacks1_H lim made bad op sum begun last lacks left low high x at' cbad p)
noncomputable def jlacks1_t0 (lim : Int) (made : Bool) (bad op sum : Int) (begun last : Bool) (lacks left : Int) (low high : Int) (x at' : Int) (cbad : Bool) : jlacks1_R :=
  bif !made then -1
  else bif bad != 0 then -1
    else bif !begun then -1
      else lacks
def jlacks1_S0 (lim : Int) (made : Bool) (bad op sum : Int) (begun last : Bool) (lacks left : Int) (low high : Int) (x at' : Int) (cbad : Bool) : Prop :=
  True
theorem jlacks1_ok0 (lim : Int) (made : Bool) (bad op sum : Int) (begun last : Bool) (lacks left : Int) (low high : Int) (x at' : Int) (cbad : Bool) (hS : jlacks1_S0 lim made bad op sum begun last lacks left low high x at' cbad) : jlacks1_Q lim made bad op sum begun last lacks left low high x at' cbad (startC E 20 ([.pointer (some ⟨0, 0, none⟩)]) ([some (.cells [.int .i64 lim, .bool made, .int .i64 bad, .int .i64 op, .int .i64 sum, .pointer none, .slice none 0 0, .pointer (some ⟨1, 0, none⟩), .bool begun, .bool last, .int .i64 lacks] 51 none), some (.cells [.int .i64 left, .int .u8 low, .int .u8 high, .int .i32 x, .int .i64 at', .bool cbad] 77 none)])) (jlacks1_t0 lim made bad op sum begun last lacks left low high x at' cbad) := by
  unfold jlacks1_S0 at hS
  unfold jlacks1_t0
  refine cond_intro (P := jlacks1_Q lim made bad op sum begun last lacks left low high x at' cbad (startC E 20 ([.pointer (some ⟨0, 0, none⟩)]) ([some (.cells [.int .i64 lim, .bool made, .int .i64 bad, .int .i64 op, .int .i64 sum, .pointer none, .slice none 0 0, .pointer (some ⟨1, 0, none⟩), .bool begun, .bool last, .int .i64 lacks] 51 none), some (.cells [.int .i64 left, .int .u8 low, .int .u8 high, .int .i32 x, .int .i64 at', .bool cbad] 77 none)]))) _ (fun h1 => ?_) (fun h1 => ?_)
  · skip
    exact ends_q noK_ok 2000 47 (some [false, true, true, true]) [0, 1] [2] [0, 1] (by kernel_rfl) (andI (dT h1) (rfl)) (by kernel_rfl)
  · skip
    refine cond_intro (P := jlacks1_Q lim made bad op sum begun last lacks left low high x at' cbad (startC E 20 ([.pointer (some ⟨0, 0, none⟩)]) ([some (.cells [.int .i64 lim, .bool made, .int .i64 bad, .int .i64 op, .int .i64 sum, .pointer none, .slice none 0 0, .pointer (some ⟨1, 0, none⟩), .bool begun, .bool last, .int .i64 lacks] 51 none), some (.cells [.int .i64 left, .int .u8 low, .int .u8 high, .int .i32 x, .int .i64 at', .bool cbad] 77 none)]))) _ (fun h2 => ?_) (fun h2 => ?_)
    · skip
      exact ends_q noK_ok 2000 47 (some [false, false, true, true]) [0, 1] [2] [0, 1] (by kernel_rfl) (andI (dT h2) (andI (dF h1) (rfl))) (by kernel_rfl)
    · skip
      refine cond_intro (P := jlacks1_Q lim made bad op sum begun last lacks left low high x at' cbad (startC E 20 ([.pointer (some ⟨0, 0, none⟩)]) ([some (.cells [.int .i64 lim, .bool made, .int .i64 bad, .int .i64 op, .int .i64 sum, .pointer none, .slice none 0 0, .pointer (some ⟨1, 0, none⟩), .bool begun, .bool last, .int .i64 lacks] 51 none), some (.cells [.int .i64 left, .int .u8 low, .int .u8 high, .int .i32 x, .int .i64 at', .bool cbad] 77 none)]))) _ (fun h3 => ?_) (fun h3 => ?_)
      · skip
        exact ends_q noK_ok 2000 47 (some [false, false, false, true]) [0, 1] [2] [0, 1] (by kernel_rfl) (andI (dT h3) (andI (dF h2) (andI (dF h1) (rfl)))) (by kernel_rfl)
      · skip
        exact ends_q noK_ok 2000 52 (some [false, false, false, false]) [0, 1] [2] [0, 1] (by kernel_rfl) (andI (dF h3) (andI (dF h2) (andI (dF h1) (rfl)))) (by kernel_rfl)
theorem jlacks1_call (lim : Int) (made : Bool) (bad op sum : Int) (begun last : Bool) (lacks left : Int) (low high : Int) (x at' : Int) (cbad : Bool) (hS : jlacks1_S0 lim made bad op sum begun last lacks left low high x at' cbad) : CallOk E 20 ([.pointer (some ⟨0, 0, none⟩)]) ([some (.cells [.int .i64 lim, .bool made, .int .i64 bad, .int .i64 op, .int .i64 sum, .pointer none, .slice none 0 0, .pointer (some ⟨1, 0, none⟩), .bool begun, .bool last, .int .i64 lacks] 51 none), some (.cells [.int .i64 left, .int .u8 low, .int .u8 high, .int .i32 x, .int .i64 at', .bool cbad] 77 none)]) (jlacks1_V lim made bad op sum begun last lacks left low high x at' cbad (jlacks1_t0 lim made bad op sum begun last lacks left low high x at' cbad)) (jlacks1_H lim made bad op sum begun last lacks left low high x at' cbad (jlacks1_t0 lim made bad op sum begun last lacks left low high x at' cbad)) := callOk_of_ends (jlacks1_ok0 lim made bad op sum begun last lacks left low high x at' cbad hS) (by kernel_rfl) (Nat.le_of_ble_eq_true (by kernel_rfl))
def jlacks1_ex (a : List Value) (h : Heap) : Int × Bool × Int × Int × Int × Bool × Bool × Int × Int × Int × Int × Int × Int × Bool := ((toInt ((cellsOf h 0).getD 0 undef)), (toBool ((cellsOf h 0).getD 1 undef)), (toInt ((cellsOf h 0).getD 2 undef)), (toInt ((cellsOf h 0).getD 3 undef)), (toInt ((cellsOf h 0).getD 4 undef)), (toBool ((cellsOf h 0).getD 8 undef)), (toBool ((cellsOf h 0).getD 9 undef)), (toInt ((cellsOf h 0).getD 10 undef)), (toInt ((cellsOf h 1).getD 0 undef)), (toInt ((cellsOf h 1).getD 1 undef)), (toInt ((cellsOf h 1).getD 2 undef)), (toInt ((cellsOf h 1).getD 3 undef)), (toInt ((cellsOf h 1).getD 4 undef)), (toBool ((cellsOf h 1).getD 5 undef)))
noncomputable def jlacks1_k : Ct := kP jlacks1_ex (fun (a0, a1, a2, a3, a4, a5, a6, a7, a8, a9, a10, a11, a12, a13) => [.pointer (some ⟨0, 0, none⟩)]) (fun (a0, a1, a2, a3, a4, a5, a6, a7, a8, a9, a10, a11, a12, a13) => [some (.cells [.int .i64 a0, .bool a1, .int .i64 a2, .int .i64 a3, .int .i64 a4, .pointer none, .slice none 0 0, .pointer (some ⟨1, 0, none⟩), .bool a5, .bool a6, .int .i64 a7] 51 none), some (.cells [.int .i64 a8, .int .u8 a9, .int .u8 a10, .int .i32 a11, .int .i64 a12, .bool a13] 77 none)]) (fun (a0, a1, a2, a3, a4, a5, a6, a7, a8, a9, a10, a11, a12, a13) => jlacks1_S0 a0 a1 a2 a3 a4 a5 a6 a7 a8 a9 a10 a11 a12 a13) (fun (a0, a1, a2, a3, a4, a5, a6, a7, a8, a9, a10, a11, a12, a13) => jlacks1_V a0 a1 a2 a3 a4 a5 a6 a7 a8 a9 a10 a11 a12 a13 (jlacks1_t0 a0 a1 a2 a3 a4 a5 a6 a7 a8 a9 a10 a11 a12 a13)) (fun (a0, a1, a2, a3, a4, a5, a6, a7, a8, a9, a10, a11, a12, a13) => jlacks1_H a0 a1 a2 a3 a4 a5 a6 a7 a8 a9 a10 a11 a12 a13 (jlacks1_t0 a0 a1 a2 a3 a4 a5 a6 a7 a8 a9 a10 a11 a12 a13))
theorem jlacks1_k_ok : KFor E 20 jlacks1_k := kP_ok (fun (a0, a1, a2, a3, a4, a5, a6, a7, a8, a9, a10, a11, a12, a13) hx => jlacks1_call a0 a1 a2 a3 a4 a5 a6 a7 a8 a9 a10 a11 a12 a13 hx)


abbrev jlacks2_R : Type := Int
def jlacks2_V (lim : Int) (made : Bool) (bad op sum : Int) (begun last : Bool) (lacks left : Int) (low high : Int) (x at' : Int) (cbad : Bool) (r : Int) : Value := .int .i64 r
def jlacks2_H (lim : Int) (made : Bool) (bad op sum : Int) (begun last : Bool) (lacks left : Int) (low high : Int) (x at' : Int) (cbad : Bool) (r : Int) : Heap := [some (.cells [.int .i64 lim, .bool made, .int .i64 bad, .int .i64 op, .int .i64 sum, .pointer (some ⟨0, 5, none⟩), .slice none 0 0, .pointer (some ⟨1, 0, none⟩), .bool begun, .bool last, .int .i64 lacks] 51 none), some (.cells [.int .i64 left, .int .u8 low, .int .u8 high, .int .i32 x, .int .i64 at', .bool cbad] 77 none)]
noncomputable def jlacks2_Q (lim : Int) (made : Bool) (bad op sum : Int) (begun last : Bool) (lacks left : Int) (low high : Int) (x at' : Int) (cbad : Bool) (C : Cfg) (r : jlacks2_R) : Prop :=
  let p := r
  AEnds E 20 2 C (jlacks2_V lim made bad op sum begun last lacks left low high x at' cbad p) (jlacks2_H lim made bad op sum begun last lacks left low high x at' cbad p)
noncomputable def jlacks2_t0 (lim : Int) (made : Bool) (bad op sum : Int) (begun last : Bool) (lacks left : Int) (low high : Int) (x at' : Int) (cbad : Bool) : jlacks2_R :=
  bif !made then -1
  else bif bad != 0 then -1
    else bif !begun then -1
      else lacks
def jlacks2_S0 (lim : Int) (made : Bool) (bad op sum : Int) (begun last : Bool) (lacks left : Int) (low high : Int) (x at' : Int) (cbad : Bool) : Prop :=
  True
theorem jlacks2_ok0 (lim : Int) (made : Bool) (bad op sum : Int) (begun last : Bool) (lacks left : Int) (low high : Int) (x at' : Int) (cbad : Bool) (hS : jlacks2_S0 lim made bad op sum begun last lacks left low high x at' cbad) : jlacks2_Q lim made bad op sum begun last lacks left low high x at' cbad (startC E 20 ([.pointer (some ⟨0, 0, none⟩)]) ([some (.cells [.int .i64 lim, .bool made, .int .i64 bad, .int .i64 op, .int .i64 sum, .pointer (some ⟨0, 5, none⟩), .slice none 0 0, .pointer (some ⟨1, 0, none⟩), .bool begun, .bool last, .int .i64 lacks] 51 none), some (.cells [.int .i64 left, .int .u8 low, .int .u8 high, .int .i32 x, .int .i64 at', .bool cbad] 77 none)])) (jlacks2_t0 lim made bad op sum begun last lacks left low high x at' cbad) := by
  unfold jlacks2_S0 at hS
  unfold jlacks2_t0
  refine cond_intro (P := jlacks2_Q lim made bad op sum begun last lacks left low high x at' cbad (startC E 20 ([.pointer (some ⟨0, 0, none⟩)]) ([some (.cells [.int .i64 lim, .bool made, .int .i64 bad, .int .i64 op, .int .i64 sum, .pointer (some ⟨0, 5, none⟩), .slice none 0 0, .pointer (some ⟨1, 0, none⟩), .bool begun, .bool last, .int .i64 lacks] 51 none), some (.cells [.int .i64 left, .int .u8 low, .int .u8 high, .int .i32 x, .int .i64 at', .bool cbad] 77 none)]))) _ (fun h1 => ?_) (fun h1 => ?_)
  · skip
    exact ends_q noK_ok 2000 47 (some [false, true, true, true]) [0, 1] [2] [0, 1] (by kernel_rfl) (andI (dT h1) (rfl)) (by kernel_rfl)
  · skip
    refine cond_intro (P := jlacks2_Q lim made bad op sum begun last lacks left low high x at' cbad (startC E 20 ([.pointer (some ⟨0, 0, none⟩)]) ([some (.cells [.int .i64 lim, .bool made, .int .i64 bad, .int .i64 op, .int .i64 sum, .pointer (some ⟨0, 5, none⟩), .slice none 0 0, .pointer (some ⟨1, 0, none⟩), .bool begun, .bool last, .int .i64 lacks] 51 none), some (.cells [.int .i64 left, .int .u8 low, .int .u8 high, .int .i32 x, .int .i64 at', .bool cbad] 77 none)]))) _ (fun h2 => ?_) (fun h2 => ?_)
    · skip
      exact ends_q noK_ok 2000 47 (some [false, false, true, true]) [0, 1] [2] [0, 1] (by kernel_rfl) (andI (dT h2) (andI (dF h1) (rfl))) (by kernel_rfl)
    · skip
      refine cond_intro (P := jlacks2_Q lim made bad op sum begun last lacks left low high x at' cbad (startC E 20 ([.pointer (some ⟨0, 0, none⟩)]) ([some (.cells [.int .i64 lim, .bool made, .int .i64 bad, .int .i64 op, .int .i64 sum, .pointer (some ⟨0, 5, none⟩), .slice none 0 0, .pointer (some ⟨1, 0, none⟩), .bool begun, .bool last, .int .i64 lacks] 51 none), some (.cells [.int .i64 left, .int .u8 low, .int .u8 high, .int .i32 x, .int .i64 at', .bool cbad] 77 none)]))) _ (fun h3 => ?_) (fun h3 => ?_)
      · skip
        exact ends_q noK_ok 2000 47 (some [false, false, false, true]) [0, 1] [2] [0, 1] (by kernel_rfl) (andI (dT h3) (andI (dF h2) (andI (dF h1) (rfl)))) (by kernel_rfl)
      · skip
        exact ends_q noK_ok 2000 52 (some [false, false, false, false]) [0, 1] [2] [0, 1] (by kernel_rfl) (andI (dF h3) (andI (dF h2) (andI (dF h1) (rfl)))) (by kernel_rfl)
theorem jlacks2_call (lim : Int) (made : Bool) (bad op sum : Int) (begun last : Bool) (lacks left : Int) (low high : Int) (x at' : Int) (cbad : Bool) (hS : jlacks2_S0 lim made bad op sum begun last lacks left low high x at' cbad) : CallOk E 20 ([.pointer (some ⟨0, 0, none⟩)]) ([some (.cells [.int .i64 lim, .bool made, .int .i64 bad, .int .i64 op, .int .i64 sum, .pointer (some ⟨0, 5, none⟩), .slice none 0 0, .pointer (some ⟨1, 0, none⟩), .bool begun, .bool last, .int .i64 lacks] 51 none), some (.cells [.int .i64 left, .int .u8 low, .int .u8 high, .int .i32 x, .int .i64 at', .bool cbad] 77 none)]) (jlacks2_V lim made bad op sum begun last lacks left low high x at' cbad (jlacks2_t0 lim made bad op sum begun last lacks left low high x at' cbad)) (jlacks2_H lim made bad op sum begun last lacks left low high x at' cbad (jlacks2_t0 lim made bad op sum begun last lacks left low high x at' cbad)) := callOk_of_ends (jlacks2_ok0 lim made bad op sum begun last lacks left low high x at' cbad hS) (by kernel_rfl) (Nat.le_of_ble_eq_true (by kernel_rfl))
def jlacks2_ex (a : List Value) (h : Heap) : Int × Bool × Int × Int × Int × Bool × Bool × Int × Int × Int × Int × Int × Int × Bool := ((toInt ((cellsOf h 0).getD 0 undef)), (toBool ((cellsOf h 0).getD 1 undef)), (toInt ((cellsOf h 0).getD 2 undef)), (toInt ((cellsOf h 0).getD 3 undef)), (toInt ((cellsOf h 0).getD 4 undef)), (toBool ((cellsOf h 0).getD 8 undef)), (toBool ((cellsOf h 0).getD 9 undef)), (toInt ((cellsOf h 0).getD 10 undef)), (toInt ((cellsOf h 1).getD 0 undef)), (toInt ((cellsOf h 1).getD 1 undef)), (toInt ((cellsOf h 1).getD 2 undef)), (toInt ((cellsOf h 1).getD 3 undef)), (toInt ((cellsOf h 1).getD 4 undef)), (toBool ((cellsOf h 1).getD 5 undef)))
noncomputable def jlacks2_k : Ct := kP jlacks2_ex (fun (a0, a1, a2, a3, a4, a5, a6, a7, a8, a9, a10, a11, a12, a13) => [.pointer (some ⟨0, 0, none⟩)]) (fun (a0, a1, a2, a3, a4, a5, a6, a7, a8, a9, a10, a11, a12, a13) => [some (.cells [.int .i64 a0, .bool a1, .int .i64 a2, .int .i64 a3, .int .i64 a4, .pointer (some ⟨0, 5, none⟩), .slice none 0 0, .pointer (some ⟨1, 0, none⟩), .bool a5, .bool a6, .int .i64 a7] 51 none), some (.cells [.int .i64 a8, .int .u8 a9, .int .u8 a10, .int .i32 a11, .int .i64 a12, .bool a13] 77 none)]) (fun (a0, a1, a2, a3, a4, a5, a6, a7, a8, a9, a10, a11, a12, a13) => jlacks2_S0 a0 a1 a2 a3 a4 a5 a6 a7 a8 a9 a10 a11 a12 a13) (fun (a0, a1, a2, a3, a4, a5, a6, a7, a8, a9, a10, a11, a12, a13) => jlacks2_V a0 a1 a2 a3 a4 a5 a6 a7 a8 a9 a10 a11 a12 a13 (jlacks2_t0 a0 a1 a2 a3 a4 a5 a6 a7 a8 a9 a10 a11 a12 a13)) (fun (a0, a1, a2, a3, a4, a5, a6, a7, a8, a9, a10, a11, a12, a13) => jlacks2_H a0 a1 a2 a3 a4 a5 a6 a7 a8 a9 a10 a11 a12 a13 (jlacks2_t0 a0 a1 a2 a3 a4 a5 a6 a7 a8 a9 a10 a11 a12 a13))
theorem jlacks2_k_ok : KFor E 20 jlacks2_k := kP_ok (fun (a0, a1, a2, a3, a4, a5, a6, a7, a8, a9, a10, a11, a12, a13) hx => jlacks2_call a0 a1 a2 a3 a4 a5 a6 a7 a8 a9 a10 a11 a12 a13 hx)


abbrev jlacks3_R : Type := Int
def jlacks3_V (lim : Int) (made : Bool) (bad op sum : Int) (begun last : Bool) (lacks : Int) (bn : Nat) (B : List Value) (left low : Int) (high x at' : Int) (cbad : Bool) (r : Int) : Value := .int .i64 r
def jlacks3_H (lim : Int) (made : Bool) (bad op sum : Int) (begun last : Bool) (lacks : Int) (bn : Nat) (B : List Value) (left low : Int) (high x at' : Int) (cbad : Bool) (r : Int) : Heap := [some (.cells [.int .i64 lim, .bool made, .int .i64 bad, .int .i64 op, .int .i64 sum, .pointer (some ⟨0, 5, none⟩), .slice (some ⟨1, 0, none⟩) bn 0, .pointer (some ⟨2, 0, none⟩), .bool begun, .bool last, .int .i64 lacks] 51 none), some (.cells B 5 (some 1)), some (.cells [.int .i64 left, .int .u8 low, .int .u8 high, .int .i32 x, .int .i64 at', .bool cbad] 77 none)]
noncomputable def jlacks3_Q (lim : Int) (made : Bool) (bad op sum : Int) (begun last : Bool) (lacks : Int) (bn : Nat) (B : List Value) (left low : Int) (high x at' : Int) (cbad : Bool) (C : Cfg) (r : jlacks3_R) : Prop :=
  let p := r
  AEnds E 20 3 C (jlacks3_V lim made bad op sum begun last lacks bn B left low high x at' cbad p) (jlacks3_H lim made bad op sum begun last lacks bn B left low high x at' cbad p)
noncomputable def jlacks3_t0 (lim : Int) (made : Bool) (bad op sum : Int) (begun last : Bool) (lacks : Int) (bn : Nat) (B : List Value) (left low : Int) (high x at' : Int) (cbad : Bool) : jlacks3_R :=
  bif !made then -1
  else bif bad != 0 then -1
    else bif !begun then -1
      else lacks
def jlacks3_S0 (lim : Int) (made : Bool) (bad op sum : Int) (begun last : Bool) (lacks : Int) (bn : Nat) (B : List Value) (left low : Int) (high x at' : Int) (cbad : Bool) : Prop :=
  ((!made) = true → (B.all flat) = true) ∧
  ((!made) = false → ((bad != 0) = true → (B.all flat) = true) ∧
    ((bad != 0) = false → ((!begun) = true → (B.all flat) = true) ∧
      ((!begun) = false → (B.all flat) = true)))
theorem jlacks3_ok0 (lim : Int) (made : Bool) (bad op sum : Int) (begun last : Bool) (lacks : Int) (bn : Nat) (B : List Value) (left low : Int) (high x at' : Int) (cbad : Bool) (hS : jlacks3_S0 lim made bad op sum begun last lacks bn B left low high x at' cbad) : jlacks3_Q lim made bad op sum begun last lacks bn B left low high x at' cbad (startC E 20 ([.pointer (some ⟨0, 0, none⟩)]) ([some (.cells [.int .i64 lim, .bool made, .int .i64 bad, .int .i64 op, .int .i64 sum, .pointer (some ⟨0, 5, none⟩), .slice (some ⟨1, 0, none⟩) bn 0, .pointer (some ⟨2, 0, none⟩), .bool begun, .bool last, .int .i64 lacks] 51 none), some (.cells B 5 (some 1)), some (.cells [.int .i64 left, .int .u8 low, .int .u8 high, .int .i32 x, .int .i64 at', .bool cbad] 77 none)])) (jlacks3_t0 lim made bad op sum begun last lacks bn B left low high x at' cbad) := by
  unfold jlacks3_S0 at hS
  unfold jlacks3_t0
  refine cond_intro (P := jlacks3_Q lim made bad op sum begun last lacks bn B left low high x at' cbad (startC E 20 ([.pointer (some ⟨0, 0, none⟩)]) ([some (.cells [.int .i64 lim, .bool made, .int .i64 bad, .int .i64 op, .int .i64 sum, .pointer (some ⟨0, 5, none⟩), .slice (some ⟨1, 0, none⟩) bn 0, .pointer (some ⟨2, 0, none⟩), .bool begun, .bool last, .int .i64 lacks] 51 none), some (.cells B 5 (some 1)), some (.cells [.int .i64 left, .int .u8 low, .int .u8 high, .int .i32 x, .int .i64 at', .bool cbad] 77 none)]))) _ (fun h1 => ?_) (fun h1 => ?_)
  · skip
    exact ends_q noK_ok 2000 47 (some [false, true, true, true]) [0, 1, 2] [2] [0, 1, 2] (by kernel_rfl) (andI ((hS.1 h1)) (andI ((hS.1 h1)) (andI (dT h1) (rfl)))) (by kernel_rfl)
  · skip
    refine cond_intro (P := jlacks3_Q lim made bad op sum begun last lacks bn B left low high x at' cbad (startC E 20 ([.pointer (some ⟨0, 0, none⟩)]) ([some (.cells [.int .i64 lim, .bool made, .int .i64 bad, .int .i64 op, .int .i64 sum, .pointer (some ⟨0, 5, none⟩), .slice (some ⟨1, 0, none⟩) bn 0, .pointer (some ⟨2, 0, none⟩), .bool begun, .bool last, .int .i64 lacks] 51 none), some (.cells B 5 (some 1)), some (.cells [.int .i64 left, .int .u8 low, .int .u8 high, .int .i32 x, .int .i64 at', .bool cbad] 77 none)]))) _ (fun h2 => ?_) (fun h2 => ?_)
    · skip
      exact ends_q noK_ok 2000 47 (some [false, false, true, true]) [0, 1, 2] [2] [0, 1, 2] (by kernel_rfl) (andI (((hS.2 h1).1 h2)) (andI (((hS.2 h1).1 h2)) (andI (dT h2) (andI (dF h1) (rfl))))) (by kernel_rfl)
    · skip
      refine cond_intro (P := jlacks3_Q lim made bad op sum begun last lacks bn B left low high x at' cbad (startC E 20 ([.pointer (some ⟨0, 0, none⟩)]) ([some (.cells [.int .i64 lim, .bool made, .int .i64 bad, .int .i64 op, .int .i64 sum, .pointer (some ⟨0, 5, none⟩), .slice (some ⟨1, 0, none⟩) bn 0, .pointer (some ⟨2, 0, none⟩), .bool begun, .bool last, .int .i64 lacks] 51 none), some (.cells B 5 (some 1)), some (.cells [.int .i64 left, .int .u8 low, .int .u8 high, .int .i32 x, .int .i64 at', .bool cbad] 77 none)]))) _ (fun h3 => ?_) (fun h3 => ?_)
      · skip
        exact ends_q noK_ok 2000 47 (some [false, false, false, true]) [0, 1, 2] [2] [0, 1, 2] (by kernel_rfl) (andI ((((hS.2 h1).2 h2).1 h3)) (andI ((((hS.2 h1).2 h2).1 h3)) (andI (dT h3) (andI (dF h2) (andI (dF h1) (rfl)))))) (by kernel_rfl)
      · skip
        exact ends_q noK_ok 2000 52 (some [false, false, false, false]) [0, 1, 2] [2] [0, 1, 2] (by kernel_rfl) (andI ((((hS.2 h1).2 h2).2 h3)) (andI ((((hS.2 h1).2 h2).2 h3)) (andI (dF h3) (andI (dF h2) (andI (dF h1) (rfl)))))) (by kernel_rfl)
theorem jlacks3_call (lim : Int) (made : Bool) (bad op sum : Int) (begun last : Bool) (lacks : Int) (bn : Nat) (B : List Value) (left low : Int) (high x at' : Int) (cbad : Bool) (hS : jlacks3_S0 lim made bad op sum begun last lacks bn B left low high x at' cbad) : CallOk E 20 ([.pointer (some ⟨0, 0, none⟩)]) ([some (.cells [.int .i64 lim, .bool made, .int .i64 bad, .int .i64 op, .int .i64 sum, .pointer (some ⟨0, 5, none⟩), .slice (some ⟨1, 0, none⟩) bn 0, .pointer (some ⟨2, 0, none⟩), .bool begun, .bool last, .int .i64 lacks] 51 none), some (.cells B 5 (some 1)), some (.cells [.int .i64 left, .int .u8 low, .int .u8 high, .int .i32 x, .int .i64 at', .bool cbad] 77 none)]) (jlacks3_V lim made bad op sum begun last lacks bn B left low high x at' cbad (jlacks3_t0 lim made bad op sum begun last lacks bn B left low high x at' cbad)) (jlacks3_H lim made bad op sum begun last lacks bn B left low high x at' cbad (jlacks3_t0 lim made bad op sum begun last lacks bn B left low high x at' cbad)) := callOk_of_ends (jlacks3_ok0 lim made bad op sum begun last lacks bn B left low high x at' cbad hS) (by kernel_rfl) (Nat.le_of_ble_eq_true (by kernel_rfl))
def jlacks3_ex (a : List Value) (h : Heap) : Int × Bool × Int × Int × Int × Bool × Bool × Int × Nat × List Value × Int × Int × Int × Int × Int × Bool := ((toInt ((cellsOf h 0).getD 0 undef)), (toBool ((cellsOf h 0).getD 1 undef)), (toInt ((cellsOf h 0).getD 2 undef)), (toInt ((cellsOf h 0).getD 3 undef)), (toInt ((cellsOf h 0).getD 4 undef)), (toBool ((cellsOf h 0).getD 8 undef)), (toBool ((cellsOf h 0).getD 9 undef)), (toInt ((cellsOf h 0).getD 10 undef)), (sliceLen ((cellsOf h 0).getD 6 undef)), (cellsOf h 1), (toInt ((cellsOf h 2).getD 0 undef)), (toInt ((cellsOf h 2).getD 1 undef)), (toInt ((cellsOf h 2).getD 2 undef)), (toInt ((cellsOf h 2).getD 3 undef)), (toInt ((cellsOf h 2).getD 4 undef)), (toBool ((cellsOf h 2).getD 5 undef)))
noncomputable def jlacks3_k : Ct := kP jlacks3_ex (fun (a0, a1, a2, a3, a4, a5, a6, a7, a8, a9, a10, a11, a12, a13, a14, a15) => [.pointer (some ⟨0, 0, none⟩)]) (fun (a0, a1, a2, a3, a4, a5, a6, a7, a8, a9, a10, a11, a12, a13, a14, a15) => [some (.cells [.int .i64 a0, .bool a1, .int .i64 a2, .int .i64 a3, .int .i64 a4, .pointer (some ⟨0, 5, none⟩), .slice (some ⟨1, 0, none⟩) a8 0, .pointer (some ⟨2, 0, none⟩), .bool a5, .bool a6, .int .i64 a7] 51 none), some (.cells a9 5 (some 1)), some (.cells [.int .i64 a10, .int .u8 a11, .int .u8 a12, .int .i32 a13, .int .i64 a14, .bool a15] 77 none)]) (fun (a0, a1, a2, a3, a4, a5, a6, a7, a8, a9, a10, a11, a12, a13, a14, a15) => jlacks3_S0 a0 a1 a2 a3 a4 a5 a6 a7 a8 a9 a10 a11 a12 a13 a14 a15) (fun (a0, a1, a2, a3, a4, a5, a6, a7, a8, a9, a10, a11, a12, a13, a14, a15) => jlacks3_V a0 a1 a2 a3 a4 a5 a6 a7 a8 a9 a10 a11 a12 a13 a14 a15 (jlacks3_t0 a0 a1 a2 a3 a4 a5 a6 a7 a8 a9 a10 a11 a12 a13 a14 a15)) (fun (a0, a1, a2, a3, a4, a5, a6, a7, a8, a9, a10, a11, a12, a13, a14, a15) => jlacks3_H a0 a1 a2 a3 a4 a5 a6 a7 a8 a9 a10 a11 a12 a13 a14 a15 (jlacks3_t0 a0 a1 a2 a3 a4 a5 a6 a7 a8 a9 a10 a11 a12 a13 a14 a15))
theorem jlacks3_k_ok : KFor E 20 jlacks3_k := kP_ok (fun (a0, a1, a2, a3, a4, a5, a6, a7, a8, a9, a10, a11, a12, a13, a14, a15) hx => jlacks3_call a0 a1 a2 a3 a4 a5 a6 a7 a8 a9 a10 a11 a12 a13 a14 a15 hx)


end Go.Proofs.Ytgaedhpeiamdfaa
