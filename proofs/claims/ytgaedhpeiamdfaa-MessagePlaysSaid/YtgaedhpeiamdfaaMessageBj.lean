/-
  A joiner of frames: the examples; whether acts are too many.
-/
import Derived.Test.YtgaedhpeiamdfaaAmSlim
import Derived.Test.YtgaedhpeiamdfaaMessageJe
set_option linter.unusedVariables false
set_option linter.unusedSimpArgs false
open Go Go.Am
namespace Go.Proofs.Ytgaedhpeiamdfaa

abbrev wakes_R : Type := Unit
def wakes_V (r : Unit) : Value := .bool true
def wakes_H (r : Unit) : Heap := []
noncomputable def wakes_Q (C : Cfg) (r : wakes_R) : Prop :=
 let p := r
 AEnds E 10 0 C (wakes_V p) (wakes_H p)
noncomputable def wakes_t0 : wakes_R :=
 ()
def wakes_S0 : Prop :=
 True
theorem wakes_ok0 (hS : wakes_S0) : wakes_Q (startC E 10 ([]) ([])) (wakes_t0) := by
 unfold wakes_S0 at hS
 unfold wakes_t0
 exact ends_q noK_ok 2000 1760 (bs 114 4545793156850636956897818199474688) [] [0] [] (rfl)
theorem wakes_call (hS : wakes_S0) : CallOk E 10 ([]) ([]) (wakes_V (wakes_t0)) (wakes_H (wakes_t0)) := callOk_of_ends (wakes_ok0 hS) (by kernel_rfl) (Nat.le_of_ble_eq_true (by kernel_rfl))
def wakes_ex (a : List Value) (h : Heap) : Unit := ()
noncomputable def wakes_k : Ct := kP wakes_ex (fun x => []) (fun x => []) (fun x => wakes_S0 ) (fun x => wakes_V  (wakes_t0 )) (fun x => wakes_H  (wakes_t0 ))
theorem wakes_k_ok : KFor E 10 wakes_k := kP_ok (fun x hx => wakes_call  hx)


noncomputable def great_b1 (n : Nat) (A : List Value) : Cfg := cfgOf (goNil E noK 2000 20 (bs 1 0) [] [] [] [0, 3] [] [] [] (startC E 9 ([.iface n (.agg A.toArray)]) ([])))
noncomputable def great_h1 (n : Nat) (A : List Value) (ua : Int) : Cfg := wTmp 3 (.int .i64 ua) (great_b1 n A)
noncomputable abbrev great_st (n : Nat) (A : List Value) : Cfg := startC E 9 ([.iface n (.agg A.toArray)]) ([])
theorem great_w0_0 (n : Nat) (A : List Value) (h0 : (decide (100 < (n : Int))) = true) : AEnds E 9 0 (great_st n A) (.bool true) ([]) := by
 exact ends_q noK_ok 2000 16 (bs 1 1) [] [2] [] (andI (dT h0) rfl)
theorem great_w0_1 (n : Nat) (A : List Value) (h0 : (decide (100 < (n : Int))) = false) : Gets E 0 (great_st n A) (great_h1 n A (0)) := by
 exact reach_q noK_ok 2000 20 (bs 1 0) [] [] [] [0, 3] [] [] [] (andI (dF h0) rfl)
theorem great_w1_0 (n : Nat) (A : List Value) (ua : Int) (h0 : (decide (100 < (↑(slen (toStr (g5 A ua 4))) : Int))) = true) (h1 : ua.toNat * 5 + 4 < A.length) (h2 : (isStr (g5 A ua 4)) = true) (h3 : 0 ≤ ua) (h4 : ua < (n : Int)) (h5 : 0 < A.length) (h6 : (decide (ua < (n : Int))) = true) : AEnds E 9 0 (great_h1 n A ua) (.bool true) ([]) := by
 exact ends_q noK_ok 2000 27 (bs 2 3) [] [2] [] (andI (dT h0) (andI (decide_eq_true h1) (andI h2 (and4 (decide_eq_true h3) (decide_eq_true h4) (decide_eq_true h5) (dT h6) rfl))))
theorem great_w1_1 (n : Nat) (A : List Value) (ua : Int) (h0 : (decide (100 < (↑(slen (toStr (g5 A ua 4))) : Int))) = false) (h1 : ua.toNat * 5 + 4 < A.length) (h2 : (isStr (g5 A ua 4)) = true) (h3 : 0 ≤ ua) (h4 : ua < (n : Int)) (h5 : 0 < A.length) (h6 : (decide (ua < (n : Int))) = true) : Gets E 0 (great_h1 n A ua) (great_h1 n A (IntKind.i64.wrap (ua + 1))) := by
 exact reach_q noK_ok 2000 31 (bs 2 1) [] [] [] [0, 3] [] [] [] (andI (dF h0) (andI (decide_eq_true h1) (andI h2 (and4 (decide_eq_true h3) (decide_eq_true h4) (decide_eq_true h5) (dT h6) rfl))))
theorem great_w1_2 (n : Nat) (A : List Value) (ua : Int) (h0 : (decide (ua < (n : Int))) = false) : AEnds E 9 0 (great_h1 n A ua) (.bool false) ([]) := by
 exact ends_q noK_ok 2000 14 (bs 1 0) [] [2] [] (andI (dF h0) rfl)


end Go.Proofs.Ytgaedhpeiamdfaa

/-
  A joiner of frames: what it lacks, as plain functions; by the shapes of its memory: no check (0); a check (1); one that was written to, with nothing (2); one that holds something (3).
-/
set_option linter.unusedVariables false
set_option linter.unusedSimpArgs false
open Go Go.Am
namespace Go.Proofs.Ytgaedhpeiamdfaa

abbrev jlacks0_R : Type := Int
def jlacks0_V (lim : Int) (made : Bool) (bad op sum : Int) (begun last : Bool) (lacks r : Int) : Value := .int .i64 r
def jlacks0_H (lim : Int) (made : Bool) (bad op sum : Int) (begun last : Bool) (lacks r : Int) : Heap := [some (.cells [.int .i64 lim, .bool made, .int .i64 bad, .int .i64 op, .int .i64 sum, .pointer none, .slice none 0 0, .pointer none, .bool begun, .bool last, .int .i64 lacks] 51 none)]
noncomputable def jlacks0_Q (lim : Int) (made : Bool) (bad op sum : Int) (begun last : Bool) (lacks : Int) (C : Cfg) (r : jlacks0_R) : Prop :=
 let p := r
 AEnds E 20 1 C (jlacks0_V lim made bad op sum begun last lacks p) (jlacks0_H lim made bad op sum begun last lacks p)
noncomputable def jlacks0_t0 (lim : Int) (made : Bool) (bad op sum : Int) (begun last : Bool) (lacks : Int) : jlacks0_R :=
 bif !made then -1
 else bif bad != 0 then -1
  else bif !begun then -1
   else lacks
def jlacks0_S0 (lim : Int) (made : Bool) (bad op sum : Int) (begun last : Bool) (lacks : Int) : Prop :=
 True
theorem jlacks0_ok0 (lim : Int) (made : Bool) (bad op sum : Int) (begun last : Bool) (lacks : Int) (hS : jlacks0_S0 lim made bad op sum begun last lacks) : jlacks0_Q lim made bad op sum begun last lacks (startC E 20 ([.pointer (some ⟨0, 0, none⟩)]) ([some (.cells [.int .i64 lim, .bool made, .int .i64 bad, .int .i64 op, .int .i64 sum, .pointer none, .slice none 0 0, .pointer none, .bool begun, .bool last, .int .i64 lacks] 51 none)])) (jlacks0_t0 lim made bad op sum begun last lacks) := by
 unfold jlacks0_S0 at hS
 unfold jlacks0_t0
 refine cond_intro (P := jlacks0_Q lim made bad op sum begun last lacks (startC E 20 ([.pointer (some ⟨0, 0, none⟩)]) ([some (.cells [.int .i64 lim, .bool made, .int .i64 bad, .int .i64 op, .int .i64 sum, .pointer none, .slice none 0 0, .pointer none, .bool begun, .bool last, .int .i64 lacks] 51 none)]))) _ (fun h1 => ?_) (fun h1 => ?_)
 ·skip
  exact ends_q noK_ok 2000 47 (bs 4 14) [0] [2] [0] (andI (dT h1) rfl)
 ·skip
  refine cond_intro (P := jlacks0_Q lim made bad op sum begun last lacks (startC E 20 ([.pointer (some ⟨0, 0, none⟩)]) ([some (.cells [.int .i64 lim, .bool made, .int .i64 bad, .int .i64 op, .int .i64 sum, .pointer none, .slice none 0 0, .pointer none, .bool begun, .bool last, .int .i64 lacks] 51 none)]))) _ (fun h2 => ?_) (fun h2 => ?_)
  ·skip
   exact ends_q noK_ok 2000 47 (bs 4 12) [0] [2] [0] (andI (dT h2) (andI (dF h1) rfl))
  ·skip
   refine cond_intro (P := jlacks0_Q lim made bad op sum begun last lacks (startC E 20 ([.pointer (some ⟨0, 0, none⟩)]) ([some (.cells [.int .i64 lim, .bool made, .int .i64 bad, .int .i64 op, .int .i64 sum, .pointer none, .slice none 0 0, .pointer none, .bool begun, .bool last, .int .i64 lacks] 51 none)]))) _ (fun h3 => ?_) (fun h3 => ?_)
   ·skip
    exact ends_q noK_ok 2000 47 (bs 4 8) [0] [2] [0] (andI (dT h3) (andI (dF h2) (andI (dF h1) rfl)))
   ·skip
    exact ends_q noK_ok 2000 52 (bs 4 0) [0] [2] [0] (andI (dF h3) (andI (dF h2) (andI (dF h1) rfl)))
theorem jlacks0_call (lim : Int) (made : Bool) (bad op sum : Int) (begun last : Bool) (lacks : Int) (hS : jlacks0_S0 lim made bad op sum begun last lacks) : CallOk E 20 ([.pointer (some ⟨0, 0, none⟩)]) ([some (.cells [.int .i64 lim, .bool made, .int .i64 bad, .int .i64 op, .int .i64 sum, .pointer none, .slice none 0 0, .pointer none, .bool begun, .bool last, .int .i64 lacks] 51 none)]) (jlacks0_V lim made bad op sum begun last lacks (jlacks0_t0 lim made bad op sum begun last lacks)) (jlacks0_H lim made bad op sum begun last lacks (jlacks0_t0 lim made bad op sum begun last lacks)) := callOk_of_ends (jlacks0_ok0 lim made bad op sum begun last lacks hS) (by kernel_rfl) (Nat.le_of_ble_eq_true (by kernel_rfl))
def jlacks0_ex (a : List Value) (h : Heap) : Int × Bool × Int × Int × Int × Bool × Bool × Int := ((toInt ((cellsOf h 0).getD 0 undef)), (toBool ((cellsOf h 0).getD 1 undef)), (toInt ((cellsOf h 0).getD 2 undef)), (toInt ((cellsOf h 0).getD 3 undef)), (toInt ((cellsOf h 0).getD 4 undef)), (toBool ((cellsOf h 0).getD 8 undef)), (toBool ((cellsOf h 0).getD 9 undef)), (toInt ((cellsOf h 0).getD 10 undef)))
noncomputable def jlacks0_k : Ct := kS jlacks0_ex [.ptr 0 0] [.cells [.int .i64, .bool, .int .i64, .int .i64, .int .i64, .nilP, .nilS, .nilP, .bool, .bool, .int .i64] 51 none] (fun (a0, a1, a2, a3, a4, a5, a6, a7) => jlacks0_S0 a0 a1 a2 a3 a4 a5 a6 a7) (fun (a0, a1, a2, a3, a4, a5, a6, a7) => jlacks0_V a0 a1 a2 a3 a4 a5 a6 a7 (jlacks0_t0 a0 a1 a2 a3 a4 a5 a6 a7)) (fun (a0, a1, a2, a3, a4, a5, a6, a7) => jlacks0_H a0 a1 a2 a3 a4 a5 a6 a7 (jlacks0_t0 a0 a1 a2 a3 a4 a5 a6 a7))
theorem jlacks0_k_ok : KFor E 20 jlacks0_k := kS_ok (fun x hx => jlacks0_call (x.1) (x.2.1) (x.2.2.1) (x.2.2.2.1) (x.2.2.2.2.1) (x.2.2.2.2.2.1) (x.2.2.2.2.2.2.1) (x.2.2.2.2.2.2.2) hx) (fun _ _ => rfl) (fun _ _ => rfl)


abbrev jlacks1_R : Type := Int
def jlacks1_V (lim : Int) (made : Bool) (bad op sum : Int) (begun last : Bool) (lacks left : Int) (low high : Int) (x at' : Int) (cbad : Bool) (r : Int) : Value := .int .i64 r
def jlacks1_H (lim : Int) (made : Bool) (bad op sum : Int) (begun last : Bool) (lacks left : Int) (low high : Int) (x at' : Int) (cbad : Bool) (r : Int) : Heap := [some (.cells [.int .i64 lim, .bool made, .int .i64 bad, .int .i64 op, .int .i64 sum, .pointer none, .slice none 0 0, .pointer (some ⟨1, 0, none⟩), .bool begun, .bool last, .int .i64 lacks] 51 none), some (.cells [.int .i64 left, .int .u8 low, .int .u8 high, .int .i32 x, .int .i64 at', .bool cbad] 77 none)]
noncomputable def jlacks1_Q (lim : Int) (made : Bool) (bad op sum : Int) (begun last : Bool) (lacks left : Int) (low high : Int) (x at' : Int) (cbad : Bool) (C : Cfg) (r : jlacks1_R) : Prop :=
 let p := r
 AEnds E 20 2 C (jlacks1_V lim made bad op sum begun last lacks left low high x at' cbad p) (jlacks1_H lim made bad op sum begun last lacks left low high x at' cbad p)
noncomputable def jlacks1_t0 (lim : Int) (made : Bool) (bad op sum : Int) (begun last : Bool) (lacks left : Int) (low high : Int) (x at' : Int) (cbad : Bool) : jlacks1_R :=
 bif !made then -1
 else bif bad != 0 then -1
  else bif !begun then -1
   else lacks
def jlacks1_S0 (lim : Int) (made : Bool) (bad op sum : Int) (begun last : Bool) (lacks left : Int) (low high : Int) (x at' : Int) (cbad : Bool) : Prop :=
 True
theorem jlacks1_ok0 (lim : Int) (made : Bool) (bad op sum : Int) (begun last : Bool) (lacks left : Int) (low high : Int) (x at' : Int) (cbad : Bool) (hS : jlacks1_S0 lim made bad op sum begun last lacks left low high x at' cbad) : jlacks1_Q lim made bad op sum begun last lacks left low high x at' cbad (startC E 20 ([.pointer (some ⟨0, 0, none⟩)]) ([some (.cells [.int .i64 lim, .bool made, .int .i64 bad, .int .i64 op, .int .i64 sum, .pointer none, .slice none 0 0, .pointer (some ⟨1, 0, none⟩), .bool begun, .bool last, .int .i64 lacks] 51 none), some (.cells [.int .i64 left, .int .u8 low, .int .u8 high, .int .i32 x, .int .i64 at', .bool cbad] 77 none)])) (jlacks1_t0 lim made bad op sum begun last lacks left low high x at' cbad) := by
 unfold jlacks1_S0 at hS
 unfold jlacks1_t0
 refine cond_intro (P := jlacks1_Q lim made bad op sum begun last lacks left low high x at' cbad (startC E 20 ([.pointer (some ⟨0, 0, none⟩)]) ([some (.cells [.int .i64 lim, .bool made, .int .i64 bad, .int .i64 op, .int .i64 sum, .pointer none, .slice none 0 0, .pointer (some ⟨1, 0, none⟩), .bool begun, .bool last, .int .i64 lacks] 51 none), some (.cells [.int .i64 left, .int .u8 low, .int .u8 high, .int .i32 x, .int .i64 at', .bool cbad] 77 none)]))) _ (fun h1 => ?_) (fun h1 => ?_)
 ·skip
  exact ends_q noK_ok 2000 47 (bs 4 14) [0, 1] [2] [0, 1] (andI (dT h1) rfl)
 ·skip
  refine cond_intro (P := jlacks1_Q lim made bad op sum begun last lacks left low high x at' cbad (startC E 20 ([.pointer (some ⟨0, 0, none⟩)]) ([some (.cells [.int .i64 lim, .bool made, .int .i64 bad, .int .i64 op, .int .i64 sum, .pointer none, .slice none 0 0, .pointer (some ⟨1, 0, none⟩), .bool begun, .bool last, .int .i64 lacks] 51 none), some (.cells [.int .i64 left, .int .u8 low, .int .u8 high, .int .i32 x, .int .i64 at', .bool cbad] 77 none)]))) _ (fun h2 => ?_) (fun h2 => ?_)
  ·skip
   exact ends_q noK_ok 2000 47 (bs 4 12) [0, 1] [2] [0, 1] (andI (dT h2) (andI (dF h1) rfl))
  ·skip
   refine cond_intro (P := jlacks1_Q lim made bad op sum begun last lacks left low high x at' cbad (startC E 20 ([.pointer (some ⟨0, 0, none⟩)]) ([some (.cells [.int .i64 lim, .bool made, .int .i64 bad, .int .i64 op, .int .i64 sum, .pointer none, .slice none 0 0, .pointer (some ⟨1, 0, none⟩), .bool begun, .bool last, .int .i64 lacks] 51 none), some (.cells [.int .i64 left, .int .u8 low, .int .u8 high, .int .i32 x, .int .i64 at', .bool cbad] 77 none)]))) _ (fun h3 => ?_) (fun h3 => ?_)
   ·skip
    exact ends_q noK_ok 2000 47 (bs 4 8) [0, 1] [2] [0, 1] (andI (dT h3) (andI (dF h2) (andI (dF h1) rfl)))
   ·skip
    exact ends_q noK_ok 2000 52 (bs 4 0) [0, 1] [2] [0, 1] (andI (dF h3) (andI (dF h2) (andI (dF h1) rfl)))
theorem jlacks1_call (lim : Int) (made : Bool) (bad op sum : Int) (begun last : Bool) (lacks left : Int) (low high : Int) (x at' : Int) (cbad : Bool) (hS : jlacks1_S0 lim made bad op sum begun last lacks left low high x at' cbad) : CallOk E 20 ([.pointer (some ⟨0, 0, none⟩)]) ([some (.cells [.int .i64 lim, .bool made, .int .i64 bad, .int .i64 op, .int .i64 sum, .pointer none, .slice none 0 0, .pointer (some ⟨1, 0, none⟩), .bool begun, .bool last, .int .i64 lacks] 51 none), some (.cells [.int .i64 left, .int .u8 low, .int .u8 high, .int .i32 x, .int .i64 at', .bool cbad] 77 none)]) (jlacks1_V lim made bad op sum begun last lacks left low high x at' cbad (jlacks1_t0 lim made bad op sum begun last lacks left low high x at' cbad)) (jlacks1_H lim made bad op sum begun last lacks left low high x at' cbad (jlacks1_t0 lim made bad op sum begun last lacks left low high x at' cbad)) := callOk_of_ends (jlacks1_ok0 lim made bad op sum begun last lacks left low high x at' cbad hS) (by kernel_rfl) (Nat.le_of_ble_eq_true (by kernel_rfl))
def jlacks1_ex (a : List Value) (h : Heap) : Int × Bool × Int × Int × Int × Bool × Bool × Int × Int × Int × Int × Int × Int × Bool := ((toInt ((cellsOf h 0).getD 0 undef)), (toBool ((cellsOf h 0).getD 1 undef)), (toInt ((cellsOf h 0).getD 2 undef)), (toInt ((cellsOf h 0).getD 3 undef)), (toInt ((cellsOf h 0).getD 4 undef)), (toBool ((cellsOf h 0).getD 8 undef)), (toBool ((cellsOf h 0).getD 9 undef)), (toInt ((cellsOf h 0).getD 10 undef)), (toInt ((cellsOf h 1).getD 0 undef)), (toInt ((cellsOf h 1).getD 1 undef)), (toInt ((cellsOf h 1).getD 2 undef)), (toInt ((cellsOf h 1).getD 3 undef)), (toInt ((cellsOf h 1).getD 4 undef)), (toBool ((cellsOf h 1).getD 5 undef)))
noncomputable def jlacks1_k : Ct := kS jlacks1_ex [.ptr 0 0] [.cells [.int .i64, .bool, .int .i64, .int .i64, .int .i64, .nilP, .nilS, .ptr 1 0, .bool, .bool, .int .i64] 51 none, .cells [.int .i64, .int .u8, .int .u8, .int .i32, .int .i64, .bool] 77 none] (fun (a0, a1, a2, a3, a4, a5, a6, a7, a8, a9, a10, a11, a12, a13) => jlacks1_S0 a0 a1 a2 a3 a4 a5 a6 a7 a8 a9 a10 a11 a12 a13) (fun (a0, a1, a2, a3, a4, a5, a6, a7, a8, a9, a10, a11, a12, a13) => jlacks1_V a0 a1 a2 a3 a4 a5 a6 a7 a8 a9 a10 a11 a12 a13 (jlacks1_t0 a0 a1 a2 a3 a4 a5 a6 a7 a8 a9 a10 a11 a12 a13)) (fun (a0, a1, a2, a3, a4, a5, a6, a7, a8, a9, a10, a11, a12, a13) => jlacks1_H a0 a1 a2 a3 a4 a5 a6 a7 a8 a9 a10 a11 a12 a13 (jlacks1_t0 a0 a1 a2 a3 a4 a5 a6 a7 a8 a9 a10 a11 a12 a13))
theorem jlacks1_k_ok : KFor E 20 jlacks1_k := kS_ok (fun x hx => jlacks1_call (x.1) (x.2.1) (x.2.2.1) (x.2.2.2.1) (x.2.2.2.2.1) (x.2.2.2.2.2.1) (x.2.2.2.2.2.2.1) (x.2.2.2.2.2.2.2.1) (x.2.2.2.2.2.2.2.2.1) (x.2.2.2.2.2.2.2.2.2.1) (x.2.2.2.2.2.2.2.2.2.2.1) (x.2.2.2.2.2.2.2.2.2.2.2.1) (x.2.2.2.2.2.2.2.2.2.2.2.2.1) (x.2.2.2.2.2.2.2.2.2.2.2.2.2) hx) (fun _ _ => rfl) (fun _ _ => rfl)


abbrev jlacks2_R : Type := Int
def jlacks2_V (lim : Int) (made : Bool) (bad op sum : Int) (begun last : Bool) (lacks left : Int) (low high : Int) (x at' : Int) (cbad : Bool) (r : Int) : Value := .int .i64 r
def jlacks2_H (lim : Int) (made : Bool) (bad op sum : Int) (begun last : Bool) (lacks left : Int) (low high : Int) (x at' : Int) (cbad : Bool) (r : Int) : Heap := [some (.cells [.int .i64 lim, .bool made, .int .i64 bad, .int .i64 op, .int .i64 sum, .pointer (some ⟨0, 5, none⟩), .slice none 0 0, .pointer (some ⟨1, 0, none⟩), .bool begun, .bool last, .int .i64 lacks] 51 none), some (.cells [.int .i64 left, .int .u8 low, .int .u8 high, .int .i32 x, .int .i64 at', .bool cbad] 77 none)]
noncomputable def jlacks2_Q (lim : Int) (made : Bool) (bad op sum : Int) (begun last : Bool) (lacks left : Int) (low high : Int) (x at' : Int) (cbad : Bool) (C : Cfg) (r : jlacks2_R) : Prop :=
 let p := r
 AEnds E 20 2 C (jlacks2_V lim made bad op sum begun last lacks left low high x at' cbad p) (jlacks2_H lim made bad op sum begun last lacks left low high x at' cbad p)
noncomputable def jlacks2_t0 (lim : Int) (made : Bool) (bad op sum : Int) (begun last : Bool) (lacks left : Int) (low high : Int) (x at' : Int) (cbad : Bool) : jlacks2_R :=
 bif !made then -1
 else bif bad != 0 then -1
  else bif !begun then -1
   else lacks
def jlacks2_S0 (lim : Int) (made : Bool) (bad op sum : Int) (begun last : Bool) (lacks left : Int) (low high : Int) (x at' : Int) (cbad : Bool) : Prop :=
 True
theorem jlacks2_ok0 (lim : Int) (made : Bool) (bad op sum : Int) (begun last : Bool) (lacks left : Int) (low high : Int) (x at' : Int) (cbad : Bool) (hS : jlacks2_S0 lim made bad op sum begun last lacks left low high x at' cbad) : jlacks2_Q lim made bad op sum begun last lacks left low high x at' cbad (startC E 20 ([.pointer (some ⟨0, 0, none⟩)]) ([some (.cells [.int .i64 lim, .bool made, .int .i64 bad, .int .i64 op, .int .i64 sum, .pointer (some ⟨0, 5, none⟩), .slice none 0 0, .pointer (some ⟨1, 0, none⟩), .bool begun, .bool last, .int .i64 lacks] 51 none), some (.cells [.int .i64 left, .int .u8 low, .int .u8 high, .int .i32 x, .int .i64 at', .bool cbad] 77 none)])) (jlacks2_t0 lim made bad op sum begun last lacks left low high x at' cbad) := by
 unfold jlacks2_S0 at hS
 unfold jlacks2_t0
 refine cond_intro (P := jlacks2_Q lim made bad op sum begun last lacks left low high x at' cbad (startC E 20 ([.pointer (some ⟨0, 0, none⟩)]) ([some (.cells [.int .i64 lim, .bool made, .int .i64 bad, .int .i64 op, .int .i64 sum, .pointer (some ⟨0, 5, none⟩), .slice none 0 0, .pointer (some ⟨1, 0, none⟩), .bool begun, .bool last, .int .i64 lacks] 51 none), some (.cells [.int .i64 left, .int .u8 low, .int .u8 high, .int .i32 x, .int .i64 at', .bool cbad] 77 none)]))) _ (fun h1 => ?_) (fun h1 => ?_)
 ·skip
  exact ends_q noK_ok 2000 47 (bs 4 14) [0, 1] [2] [0, 1] (andI (dT h1) rfl)
 ·skip
  refine cond_intro (P := jlacks2_Q lim made bad op sum begun last lacks left low high x at' cbad (startC E 20 ([.pointer (some ⟨0, 0, none⟩)]) ([some (.cells [.int .i64 lim, .bool made, .int .i64 bad, .int .i64 op, .int .i64 sum, .pointer (some ⟨0, 5, none⟩), .slice none 0 0, .pointer (some ⟨1, 0, none⟩), .bool begun, .bool last, .int .i64 lacks] 51 none), some (.cells [.int .i64 left, .int .u8 low, .int .u8 high, .int .i32 x, .int .i64 at', .bool cbad] 77 none)]))) _ (fun h2 => ?_) (fun h2 => ?_)
  ·skip
   exact ends_q noK_ok 2000 47 (bs 4 12) [0, 1] [2] [0, 1] (andI (dT h2) (andI (dF h1) rfl))
  ·skip
   refine cond_intro (P := jlacks2_Q lim made bad op sum begun last lacks left low high x at' cbad (startC E 20 ([.pointer (some ⟨0, 0, none⟩)]) ([some (.cells [.int .i64 lim, .bool made, .int .i64 bad, .int .i64 op, .int .i64 sum, .pointer (some ⟨0, 5, none⟩), .slice none 0 0, .pointer (some ⟨1, 0, none⟩), .bool begun, .bool last, .int .i64 lacks] 51 none), some (.cells [.int .i64 left, .int .u8 low, .int .u8 high, .int .i32 x, .int .i64 at', .bool cbad] 77 none)]))) _ (fun h3 => ?_) (fun h3 => ?_)
   ·skip
    exact ends_q noK_ok 2000 47 (bs 4 8) [0, 1] [2] [0, 1] (andI (dT h3) (andI (dF h2) (andI (dF h1) rfl)))
   ·skip
    exact ends_q noK_ok 2000 52 (bs 4 0) [0, 1] [2] [0, 1] (andI (dF h3) (andI (dF h2) (andI (dF h1) rfl)))
theorem jlacks2_call (lim : Int) (made : Bool) (bad op sum : Int) (begun last : Bool) (lacks left : Int) (low high : Int) (x at' : Int) (cbad : Bool) (hS : jlacks2_S0 lim made bad op sum begun last lacks left low high x at' cbad) : CallOk E 20 ([.pointer (some ⟨0, 0, none⟩)]) ([some (.cells [.int .i64 lim, .bool made, .int .i64 bad, .int .i64 op, .int .i64 sum, .pointer (some ⟨0, 5, none⟩), .slice none 0 0, .pointer (some ⟨1, 0, none⟩), .bool begun, .bool last, .int .i64 lacks] 51 none), some (.cells [.int .i64 left, .int .u8 low, .int .u8 high, .int .i32 x, .int .i64 at', .bool cbad] 77 none)]) (jlacks2_V lim made bad op sum begun last lacks left low high x at' cbad (jlacks2_t0 lim made bad op sum begun last lacks left low high x at' cbad)) (jlacks2_H lim made bad op sum begun last lacks left low high x at' cbad (jlacks2_t0 lim made bad op sum begun last lacks left low high x at' cbad)) := callOk_of_ends (jlacks2_ok0 lim made bad op sum begun last lacks left low high x at' cbad hS) (by kernel_rfl) (Nat.le_of_ble_eq_true (by kernel_rfl))
abbrev jlacks2_ex := jlacks1_ex
noncomputable def jlacks2_k : Ct := kS jlacks2_ex [.ptr 0 0] [.cells [.int .i64, .bool, .int .i64, .int .i64, .int .i64, .ptr 0 5, .nilS, .ptr 1 0, .bool, .bool, .int .i64] 51 none, .cells [.int .i64, .int .u8, .int .u8, .int .i32, .int .i64, .bool] 77 none] (fun (a0, a1, a2, a3, a4, a5, a6, a7, a8, a9, a10, a11, a12, a13) => jlacks2_S0 a0 a1 a2 a3 a4 a5 a6 a7 a8 a9 a10 a11 a12 a13) (fun (a0, a1, a2, a3, a4, a5, a6, a7, a8, a9, a10, a11, a12, a13) => jlacks2_V a0 a1 a2 a3 a4 a5 a6 a7 a8 a9 a10 a11 a12 a13 (jlacks2_t0 a0 a1 a2 a3 a4 a5 a6 a7 a8 a9 a10 a11 a12 a13)) (fun (a0, a1, a2, a3, a4, a5, a6, a7, a8, a9, a10, a11, a12, a13) => jlacks2_H a0 a1 a2 a3 a4 a5 a6 a7 a8 a9 a10 a11 a12 a13 (jlacks2_t0 a0 a1 a2 a3 a4 a5 a6 a7 a8 a9 a10 a11 a12 a13))
theorem jlacks2_k_ok : KFor E 20 jlacks2_k := kS_ok (fun x hx => jlacks2_call (x.1) (x.2.1) (x.2.2.1) (x.2.2.2.1) (x.2.2.2.2.1) (x.2.2.2.2.2.1) (x.2.2.2.2.2.2.1) (x.2.2.2.2.2.2.2.1) (x.2.2.2.2.2.2.2.2.1) (x.2.2.2.2.2.2.2.2.2.1) (x.2.2.2.2.2.2.2.2.2.2.1) (x.2.2.2.2.2.2.2.2.2.2.2.1) (x.2.2.2.2.2.2.2.2.2.2.2.2.1) (x.2.2.2.2.2.2.2.2.2.2.2.2.2) hx) (fun _ _ => rfl) (fun _ _ => rfl)


abbrev jlacks3_R : Type := Int
def jlacks3_V (lim : Int) (made : Bool) (bad op sum : Int) (begun last : Bool) (lacks : Int) (bn : Nat) (B : List Value) (left low : Int) (high x at' : Int) (cbad : Bool) (r : Int) : Value := .int .i64 r
def jlacks3_H (lim : Int) (made : Bool) (bad op sum : Int) (begun last : Bool) (lacks : Int) (bn : Nat) (B : List Value) (left low : Int) (high x at' : Int) (cbad : Bool) (r : Int) : Heap := [some (.cells [.int .i64 lim, .bool made, .int .i64 bad, .int .i64 op, .int .i64 sum, .pointer (some ⟨0, 5, none⟩), .slice (some ⟨1, 0, none⟩) bn 0, .pointer (some ⟨2, 0, none⟩), .bool begun, .bool last, .int .i64 lacks] 51 none), some (.cells B 5 (some 1)), some (.cells [.int .i64 left, .int .u8 low, .int .u8 high, .int .i32 x, .int .i64 at', .bool cbad] 77 none)]
noncomputable def jlacks3_Q (lim : Int) (made : Bool) (bad op sum : Int) (begun last : Bool) (lacks : Int) (bn : Nat) (B : List Value) (left low : Int) (high x at' : Int) (cbad : Bool) (C : Cfg) (r : jlacks3_R) : Prop :=
 let p := r
 AEnds E 20 3 C (jlacks3_V lim made bad op sum begun last lacks bn B left low high x at' cbad p) (jlacks3_H lim made bad op sum begun last lacks bn B left low high x at' cbad p)
noncomputable def jlacks3_t0 (lim : Int) (made : Bool) (bad op sum : Int) (begun last : Bool) (lacks : Int) (bn : Nat) (B : List Value) (left low : Int) (high x at' : Int) (cbad : Bool) : jlacks3_R :=
 bif !made then -1
 else bif bad != 0 then -1
  else bif !begun then -1
   else lacks
def jlacks3_S0 (lim : Int) (made : Bool) (bad op sum : Int) (begun last : Bool) (lacks : Int) (bn : Nat) (B : List Value) (left low : Int) (high x at' : Int) (cbad : Bool) : Prop :=
 ((!made) = true → (B.all flat) = true) ∧
 ((!made) = false → ((bad != 0) = true → (B.all flat) = true) ∧
  ((bad != 0) = false → ((!begun) = true → (B.all flat) = true) ∧
   ((!begun) = false → (B.all flat) = true)))
theorem jlacks3_ok0 (lim : Int) (made : Bool) (bad op sum : Int) (begun last : Bool) (lacks : Int) (bn : Nat) (B : List Value) (left low : Int) (high x at' : Int) (cbad : Bool) (hS : jlacks3_S0 lim made bad op sum begun last lacks bn B left low high x at' cbad) : jlacks3_Q lim made bad op sum begun last lacks bn B left low high x at' cbad (startC E 20 ([.pointer (some ⟨0, 0, none⟩)]) ([some (.cells [.int .i64 lim, .bool made, .int .i64 bad, .int .i64 op, .int .i64 sum, .pointer (some ⟨0, 5, none⟩), .slice (some ⟨1, 0, none⟩) bn 0, .pointer (some ⟨2, 0, none⟩), .bool begun, .bool last, .int .i64 lacks] 51 none), some (.cells B 5 (some 1)), some (.cells [.int .i64 left, .int .u8 low, .int .u8 high, .int .i32 x, .int .i64 at', .bool cbad] 77 none)])) (jlacks3_t0 lim made bad op sum begun last lacks bn B left low high x at' cbad) := by
 unfold jlacks3_S0 at hS
 unfold jlacks3_t0
 refine cond_intro (P := jlacks3_Q lim made bad op sum begun last lacks bn B left low high x at' cbad (startC E 20 ([.pointer (some ⟨0, 0, none⟩)]) ([some (.cells [.int .i64 lim, .bool made, .int .i64 bad, .int .i64 op, .int .i64 sum, .pointer (some ⟨0, 5, none⟩), .slice (some ⟨1, 0, none⟩) bn 0, .pointer (some ⟨2, 0, none⟩), .bool begun, .bool last, .int .i64 lacks] 51 none), some (.cells B 5 (some 1)), some (.cells [.int .i64 left, .int .u8 low, .int .u8 high, .int .i32 x, .int .i64 at', .bool cbad] 77 none)]))) _ (fun h1 => ?_) (fun h1 => ?_)
 ·skip
  exact ends_q noK_ok 2000 47 (bs 4 14) [0, 1, 2] [2] [0, 1, 2] (andI ((hS.1 h1)) (andI ((hS.1 h1)) (andI (dT h1) rfl)))
 ·skip
  refine cond_intro (P := jlacks3_Q lim made bad op sum begun last lacks bn B left low high x at' cbad (startC E 20 ([.pointer (some ⟨0, 0, none⟩)]) ([some (.cells [.int .i64 lim, .bool made, .int .i64 bad, .int .i64 op, .int .i64 sum, .pointer (some ⟨0, 5, none⟩), .slice (some ⟨1, 0, none⟩) bn 0, .pointer (some ⟨2, 0, none⟩), .bool begun, .bool last, .int .i64 lacks] 51 none), some (.cells B 5 (some 1)), some (.cells [.int .i64 left, .int .u8 low, .int .u8 high, .int .i32 x, .int .i64 at', .bool cbad] 77 none)]))) _ (fun h2 => ?_) (fun h2 => ?_)
  ·skip
   exact ends_q noK_ok 2000 47 (bs 4 12) [0, 1, 2] [2] [0, 1, 2] (and4 (((hS.2 h1).1 h2)) (((hS.2 h1).1 h2)) (dT h2) (dF h1) rfl)
  ·skip
   refine cond_intro (P := jlacks3_Q lim made bad op sum begun last lacks bn B left low high x at' cbad (startC E 20 ([.pointer (some ⟨0, 0, none⟩)]) ([some (.cells [.int .i64 lim, .bool made, .int .i64 bad, .int .i64 op, .int .i64 sum, .pointer (some ⟨0, 5, none⟩), .slice (some ⟨1, 0, none⟩) bn 0, .pointer (some ⟨2, 0, none⟩), .bool begun, .bool last, .int .i64 lacks] 51 none), some (.cells B 5 (some 1)), some (.cells [.int .i64 left, .int .u8 low, .int .u8 high, .int .i32 x, .int .i64 at', .bool cbad] 77 none)]))) _ (fun h3 => ?_) (fun h3 => ?_)
   ·skip
    exact ends_q noK_ok 2000 47 (bs 4 8) [0, 1, 2] [2] [0, 1, 2] (andI ((((hS.2 h1).2 h2).1 h3)) (and4 ((((hS.2 h1).2 h2).1 h3)) (dT h3) (dF h2) (dF h1) rfl))
   ·skip
    exact ends_q noK_ok 2000 52 (bs 4 0) [0, 1, 2] [2] [0, 1, 2] (andI ((((hS.2 h1).2 h2).2 h3)) (and4 ((((hS.2 h1).2 h2).2 h3)) (dF h3) (dF h2) (dF h1) rfl))
theorem jlacks3_call (lim : Int) (made : Bool) (bad op sum : Int) (begun last : Bool) (lacks : Int) (bn : Nat) (B : List Value) (left low : Int) (high x at' : Int) (cbad : Bool) (hS : jlacks3_S0 lim made bad op sum begun last lacks bn B left low high x at' cbad) : CallOk E 20 ([.pointer (some ⟨0, 0, none⟩)]) ([some (.cells [.int .i64 lim, .bool made, .int .i64 bad, .int .i64 op, .int .i64 sum, .pointer (some ⟨0, 5, none⟩), .slice (some ⟨1, 0, none⟩) bn 0, .pointer (some ⟨2, 0, none⟩), .bool begun, .bool last, .int .i64 lacks] 51 none), some (.cells B 5 (some 1)), some (.cells [.int .i64 left, .int .u8 low, .int .u8 high, .int .i32 x, .int .i64 at', .bool cbad] 77 none)]) (jlacks3_V lim made bad op sum begun last lacks bn B left low high x at' cbad (jlacks3_t0 lim made bad op sum begun last lacks bn B left low high x at' cbad)) (jlacks3_H lim made bad op sum begun last lacks bn B left low high x at' cbad (jlacks3_t0 lim made bad op sum begun last lacks bn B left low high x at' cbad)) := callOk_of_ends (jlacks3_ok0 lim made bad op sum begun last lacks bn B left low high x at' cbad hS) (by kernel_rfl) (Nat.le_of_ble_eq_true (by kernel_rfl))
def jlacks3_ex (a : List Value) (h : Heap) : Int × Bool × Int × Int × Int × Bool × Bool × Int × Nat × List Value × Int × Int × Int × Int × Int × Bool := ((toInt ((cellsOf h 0).getD 0 undef)), (toBool ((cellsOf h 0).getD 1 undef)), (toInt ((cellsOf h 0).getD 2 undef)), (toInt ((cellsOf h 0).getD 3 undef)), (toInt ((cellsOf h 0).getD 4 undef)), (toBool ((cellsOf h 0).getD 8 undef)), (toBool ((cellsOf h 0).getD 9 undef)), (toInt ((cellsOf h 0).getD 10 undef)), (sliceLen ((cellsOf h 0).getD 6 undef)), (cellsOf h 1), (toInt ((cellsOf h 2).getD 0 undef)), (toInt ((cellsOf h 2).getD 1 undef)), (toInt ((cellsOf h 2).getD 2 undef)), (toInt ((cellsOf h 2).getD 3 undef)), (toInt ((cellsOf h 2).getD 4 undef)), (toBool ((cellsOf h 2).getD 5 undef)))
noncomputable def jlacks3_k : Ct := kS jlacks3_ex [.ptr 0 0] [.cells [.int .i64, .bool, .int .i64, .int .i64, .int .i64, .ptr 0 5, .sl 1 (some 0) (some 0), .ptr 2 0, .bool, .bool, .int .i64] 51 none, .any 5 (some 1), .cells [.int .i64, .int .u8, .int .u8, .int .i32, .int .i64, .bool] 77 none] (fun (a0, a1, a2, a3, a4, a5, a6, a7, a8, a9, a10, a11, a12, a13, a14, a15) => jlacks3_S0 a0 a1 a2 a3 a4 a5 a6 a7 a8 a9 a10 a11 a12 a13 a14 a15) (fun (a0, a1, a2, a3, a4, a5, a6, a7, a8, a9, a10, a11, a12, a13, a14, a15) => jlacks3_V a0 a1 a2 a3 a4 a5 a6 a7 a8 a9 a10 a11 a12 a13 a14 a15 (jlacks3_t0 a0 a1 a2 a3 a4 a5 a6 a7 a8 a9 a10 a11 a12 a13 a14 a15)) (fun (a0, a1, a2, a3, a4, a5, a6, a7, a8, a9, a10, a11, a12, a13, a14, a15) => jlacks3_H a0 a1 a2 a3 a4 a5 a6 a7 a8 a9 a10 a11 a12 a13 a14 a15 (jlacks3_t0 a0 a1 a2 a3 a4 a5 a6 a7 a8 a9 a10 a11 a12 a13 a14 a15))
theorem jlacks3_k_ok : KFor E 20 jlacks3_k := kS_ok (fun x hx => jlacks3_call (x.1) (x.2.1) (x.2.2.1) (x.2.2.2.1) (x.2.2.2.2.1) (x.2.2.2.2.2.1) (x.2.2.2.2.2.2.1) (x.2.2.2.2.2.2.2.1) (x.2.2.2.2.2.2.2.2.1) (x.2.2.2.2.2.2.2.2.2.1) (x.2.2.2.2.2.2.2.2.2.2.1) (x.2.2.2.2.2.2.2.2.2.2.2.1) (x.2.2.2.2.2.2.2.2.2.2.2.2.1) (x.2.2.2.2.2.2.2.2.2.2.2.2.2.1) (x.2.2.2.2.2.2.2.2.2.2.2.2.2.2.1) (x.2.2.2.2.2.2.2.2.2.2.2.2.2.2.2) hx) (fun _ _ => rfl) (fun _ _ => rfl)


end Go.Proofs.Ytgaedhpeiamdfaa

/-
  A joiner of frames: what is bad, whether one is open, as plain functions; by the shapes of its memory: no check (0); a check (1); one that was written to, with nothing (2); one that holds something (3).
-/
set_option linter.unusedVariables false
set_option linter.unusedSimpArgs false
open Go Go.Am
namespace Go.Proofs.Ytgaedhpeiamdfaa

abbrev jbad0_R : Type := Int
def jbad0_V (lim : Int) (made : Bool) (bad op sum : Int) (begun last : Bool) (lacks r : Int) : Value := .int .i64 r
def jbad0_H (lim : Int) (made : Bool) (bad op sum : Int) (begun last : Bool) (lacks r : Int) : Heap := [some (.cells [.int .i64 lim, .bool made, .int .i64 bad, .int .i64 op, .int .i64 sum, .pointer none, .slice none 0 0, .pointer none, .bool begun, .bool last, .int .i64 lacks] 51 none)]
noncomputable def jbad0_Q (lim : Int) (made : Bool) (bad op sum : Int) (begun last : Bool) (lacks : Int) (C : Cfg) (r : jbad0_R) : Prop :=
 let p := r
 AEnds E 18 1 C (jbad0_V lim made bad op sum begun last lacks p) (jbad0_H lim made bad op sum begun last lacks p)
noncomputable def jbad0_t0 (lim : Int) (made : Bool) (bad op sum : Int) (begun last : Bool) (lacks : Int) : jbad0_R :=
 bif !made then 1002
 else bad
def jbad0_S0 (lim : Int) (made : Bool) (bad op sum : Int) (begun last : Bool) (lacks : Int) : Prop :=
 True
theorem jbad0_ok0 (lim : Int) (made : Bool) (bad op sum : Int) (begun last : Bool) (lacks : Int) (hS : jbad0_S0 lim made bad op sum begun last lacks) : jbad0_Q lim made bad op sum begun last lacks (startC E 18 ([.pointer (some ⟨0, 0, none⟩)]) ([some (.cells [.int .i64 lim, .bool made, .int .i64 bad, .int .i64 op, .int .i64 sum, .pointer none, .slice none 0 0, .pointer none, .bool begun, .bool last, .int .i64 lacks] 51 none)])) (jbad0_t0 lim made bad op sum begun last lacks) := by
 unfold jbad0_S0 at hS
 unfold jbad0_t0
 refine cond_intro (P := jbad0_Q lim made bad op sum begun last lacks (startC E 18 ([.pointer (some ⟨0, 0, none⟩)]) ([some (.cells [.int .i64 lim, .bool made, .int .i64 bad, .int .i64 op, .int .i64 sum, .pointer none, .slice none 0 0, .pointer none, .bool begun, .bool last, .int .i64 lacks] 51 none)]))) _ (fun h1 => ?_) (fun h1 => ?_)
 ·skip
  exact ends_q noK_ok 2000 33 (bs 2 2) [0] [2] [0] (andI (dT h1) rfl)
 ·skip
  exact ends_q noK_ok 2000 38 (bs 2 0) [0] [2] [0] (andI (dF h1) rfl)
theorem jbad0_call (lim : Int) (made : Bool) (bad op sum : Int) (begun last : Bool) (lacks : Int) (hS : jbad0_S0 lim made bad op sum begun last lacks) : CallOk E 18 ([.pointer (some ⟨0, 0, none⟩)]) ([some (.cells [.int .i64 lim, .bool made, .int .i64 bad, .int .i64 op, .int .i64 sum, .pointer none, .slice none 0 0, .pointer none, .bool begun, .bool last, .int .i64 lacks] 51 none)]) (jbad0_V lim made bad op sum begun last lacks (jbad0_t0 lim made bad op sum begun last lacks)) (jbad0_H lim made bad op sum begun last lacks (jbad0_t0 lim made bad op sum begun last lacks)) := callOk_of_ends (jbad0_ok0 lim made bad op sum begun last lacks hS) (by kernel_rfl) (Nat.le_of_ble_eq_true (by kernel_rfl))
def jbad0_ex (a : List Value) (h : Heap) : Int × Bool × Int × Int × Int × Bool × Bool × Int := ((toInt ((cellsOf h 0).getD 0 undef)), (toBool ((cellsOf h 0).getD 1 undef)), (toInt ((cellsOf h 0).getD 2 undef)), (toInt ((cellsOf h 0).getD 3 undef)), (toInt ((cellsOf h 0).getD 4 undef)), (toBool ((cellsOf h 0).getD 8 undef)), (toBool ((cellsOf h 0).getD 9 undef)), (toInt ((cellsOf h 0).getD 10 undef)))
noncomputable def jbad0_k : Ct := kS jbad0_ex [.ptr 0 0] [.cells [.int .i64, .bool, .int .i64, .int .i64, .int .i64, .nilP, .nilS, .nilP, .bool, .bool, .int .i64] 51 none] (fun (a0, a1, a2, a3, a4, a5, a6, a7) => jbad0_S0 a0 a1 a2 a3 a4 a5 a6 a7) (fun (a0, a1, a2, a3, a4, a5, a6, a7) => jbad0_V a0 a1 a2 a3 a4 a5 a6 a7 (jbad0_t0 a0 a1 a2 a3 a4 a5 a6 a7)) (fun (a0, a1, a2, a3, a4, a5, a6, a7) => jbad0_H a0 a1 a2 a3 a4 a5 a6 a7 (jbad0_t0 a0 a1 a2 a3 a4 a5 a6 a7))
theorem jbad0_k_ok : KFor E 18 jbad0_k := kS_ok (fun x hx => jbad0_call (x.1) (x.2.1) (x.2.2.1) (x.2.2.2.1) (x.2.2.2.2.1) (x.2.2.2.2.2.1) (x.2.2.2.2.2.2.1) (x.2.2.2.2.2.2.2) hx) (fun _ _ => rfl) (fun _ _ => rfl)


abbrev jbad1_R : Type := Int
def jbad1_V (lim : Int) (made : Bool) (bad op sum : Int) (begun last : Bool) (lacks left : Int) (low high : Int) (x at' : Int) (cbad : Bool) (r : Int) : Value := .int .i64 r
def jbad1_H (lim : Int) (made : Bool) (bad op sum : Int) (begun last : Bool) (lacks left : Int) (low high : Int) (x at' : Int) (cbad : Bool) (r : Int) : Heap := [some (.cells [.int .i64 lim, .bool made, .int .i64 bad, .int .i64 op, .int .i64 sum, .pointer none, .slice none 0 0, .pointer (some ⟨1, 0, none⟩), .bool begun, .bool last, .int .i64 lacks] 51 none), some (.cells [.int .i64 left, .int .u8 low, .int .u8 high, .int .i32 x, .int .i64 at', .bool cbad] 77 none)]
noncomputable def jbad1_Q (lim : Int) (made : Bool) (bad op sum : Int) (begun last : Bool) (lacks left : Int) (low high : Int) (x at' : Int) (cbad : Bool) (C : Cfg) (r : jbad1_R) : Prop :=
 let p := r
 AEnds E 18 2 C (jbad1_V lim made bad op sum begun last lacks left low high x at' cbad p) (jbad1_H lim made bad op sum begun last lacks left low high x at' cbad p)
noncomputable def jbad1_t0 (lim : Int) (made : Bool) (bad op sum : Int) (begun last : Bool) (lacks left : Int) (low high : Int) (x at' : Int) (cbad : Bool) : jbad1_R :=
 bif !made then 1002
 else bad
def jbad1_S0 (lim : Int) (made : Bool) (bad op sum : Int) (begun last : Bool) (lacks left : Int) (low high : Int) (x at' : Int) (cbad : Bool) : Prop :=
 True
theorem jbad1_ok0 (lim : Int) (made : Bool) (bad op sum : Int) (begun last : Bool) (lacks left : Int) (low high : Int) (x at' : Int) (cbad : Bool) (hS : jbad1_S0 lim made bad op sum begun last lacks left low high x at' cbad) : jbad1_Q lim made bad op sum begun last lacks left low high x at' cbad (startC E 18 ([.pointer (some ⟨0, 0, none⟩)]) ([some (.cells [.int .i64 lim, .bool made, .int .i64 bad, .int .i64 op, .int .i64 sum, .pointer none, .slice none 0 0, .pointer (some ⟨1, 0, none⟩), .bool begun, .bool last, .int .i64 lacks] 51 none), some (.cells [.int .i64 left, .int .u8 low, .int .u8 high, .int .i32 x, .int .i64 at', .bool cbad] 77 none)])) (jbad1_t0 lim made bad op sum begun last lacks left low high x at' cbad) := by
 unfold jbad1_S0 at hS
 unfold jbad1_t0
 refine cond_intro (P := jbad1_Q lim made bad op sum begun last lacks left low high x at' cbad (startC E 18 ([.pointer (some ⟨0, 0, none⟩)]) ([some (.cells [.int .i64 lim, .bool made, .int .i64 bad, .int .i64 op, .int .i64 sum, .pointer none, .slice none 0 0, .pointer (some ⟨1, 0, none⟩), .bool begun, .bool last, .int .i64 lacks] 51 none), some (.cells [.int .i64 left, .int .u8 low, .int .u8 high, .int .i32 x, .int .i64 at', .bool cbad] 77 none)]))) _ (fun h1 => ?_) (fun h1 => ?_)
 ·skip
  exact ends_q noK_ok 2000 33 (bs 2 2) [0, 1] [2] [0, 1] (andI (dT h1) rfl)
 ·skip
  exact ends_q noK_ok 2000 38 (bs 2 0) [0, 1] [2] [0, 1] (andI (dF h1) rfl)
theorem jbad1_call (lim : Int) (made : Bool) (bad op sum : Int) (begun last : Bool) (lacks left : Int) (low high : Int) (x at' : Int) (cbad : Bool) (hS : jbad1_S0 lim made bad op sum begun last lacks left low high x at' cbad) : CallOk E 18 ([.pointer (some ⟨0, 0, none⟩)]) ([some (.cells [.int .i64 lim, .bool made, .int .i64 bad, .int .i64 op, .int .i64 sum, .pointer none, .slice none 0 0, .pointer (some ⟨1, 0, none⟩), .bool begun, .bool last, .int .i64 lacks] 51 none), some (.cells [.int .i64 left, .int .u8 low, .int .u8 high, .int .i32 x, .int .i64 at', .bool cbad] 77 none)]) (jbad1_V lim made bad op sum begun last lacks left low high x at' cbad (jbad1_t0 lim made bad op sum begun last lacks left low high x at' cbad)) (jbad1_H lim made bad op sum begun last lacks left low high x at' cbad (jbad1_t0 lim made bad op sum begun last lacks left low high x at' cbad)) := callOk_of_ends (jbad1_ok0 lim made bad op sum begun last lacks left low high x at' cbad hS) (by kernel_rfl) (Nat.le_of_ble_eq_true (by kernel_rfl))
def jbad1_ex (a : List Value) (h : Heap) : Int × Bool × Int × Int × Int × Bool × Bool × Int × Int × Int × Int × Int × Int × Bool := ((toInt ((cellsOf h 0).getD 0 undef)), (toBool ((cellsOf h 0).getD 1 undef)), (toInt ((cellsOf h 0).getD 2 undef)), (toInt ((cellsOf h 0).getD 3 undef)), (toInt ((cellsOf h 0).getD 4 undef)), (toBool ((cellsOf h 0).getD 8 undef)), (toBool ((cellsOf h 0).getD 9 undef)), (toInt ((cellsOf h 0).getD 10 undef)), (toInt ((cellsOf h 1).getD 0 undef)), (toInt ((cellsOf h 1).getD 1 undef)), (toInt ((cellsOf h 1).getD 2 undef)), (toInt ((cellsOf h 1).getD 3 undef)), (toInt ((cellsOf h 1).getD 4 undef)), (toBool ((cellsOf h 1).getD 5 undef)))
noncomputable def jbad1_k : Ct := kS jbad1_ex [.ptr 0 0] [.cells [.int .i64, .bool, .int .i64, .int .i64, .int .i64, .nilP, .nilS, .ptr 1 0, .bool, .bool, .int .i64] 51 none, .cells [.int .i64, .int .u8, .int .u8, .int .i32, .int .i64, .bool] 77 none] (fun (a0, a1, a2, a3, a4, a5, a6, a7, a8, a9, a10, a11, a12, a13) => jbad1_S0 a0 a1 a2 a3 a4 a5 a6 a7 a8 a9 a10 a11 a12 a13) (fun (a0, a1, a2, a3, a4, a5, a6, a7, a8, a9, a10, a11, a12, a13) => jbad1_V a0 a1 a2 a3 a4 a5 a6 a7 a8 a9 a10 a11 a12 a13 (jbad1_t0 a0 a1 a2 a3 a4 a5 a6 a7 a8 a9 a10 a11 a12 a13)) (fun (a0, a1, a2, a3, a4, a5, a6, a7, a8, a9, a10, a11, a12, a13) => jbad1_H a0 a1 a2 a3 a4 a5 a6 a7 a8 a9 a10 a11 a12 a13 (jbad1_t0 a0 a1 a2 a3 a4 a5 a6 a7 a8 a9 a10 a11 a12 a13))
theorem jbad1_k_ok : KFor E 18 jbad1_k := kS_ok (fun x hx => jbad1_call (x.1) (x.2.1) (x.2.2.1) (x.2.2.2.1) (x.2.2.2.2.1) (x.2.2.2.2.2.1) (x.2.2.2.2.2.2.1) (x.2.2.2.2.2.2.2.1) (x.2.2.2.2.2.2.2.2.1) (x.2.2.2.2.2.2.2.2.2.1) (x.2.2.2.2.2.2.2.2.2.2.1) (x.2.2.2.2.2.2.2.2.2.2.2.1) (x.2.2.2.2.2.2.2.2.2.2.2.2.1) (x.2.2.2.2.2.2.2.2.2.2.2.2.2) hx) (fun _ _ => rfl) (fun _ _ => rfl)


abbrev jbad2_R : Type := Int
def jbad2_V (lim : Int) (made : Bool) (bad op sum : Int) (begun last : Bool) (lacks left : Int) (low high : Int) (x at' : Int) (cbad : Bool) (r : Int) : Value := .int .i64 r
def jbad2_H (lim : Int) (made : Bool) (bad op sum : Int) (begun last : Bool) (lacks left : Int) (low high : Int) (x at' : Int) (cbad : Bool) (r : Int) : Heap := [some (.cells [.int .i64 lim, .bool made, .int .i64 bad, .int .i64 op, .int .i64 sum, .pointer (some ⟨0, 5, none⟩), .slice none 0 0, .pointer (some ⟨1, 0, none⟩), .bool begun, .bool last, .int .i64 lacks] 51 none), some (.cells [.int .i64 left, .int .u8 low, .int .u8 high, .int .i32 x, .int .i64 at', .bool cbad] 77 none)]
noncomputable def jbad2_Q (lim : Int) (made : Bool) (bad op sum : Int) (begun last : Bool) (lacks left : Int) (low high : Int) (x at' : Int) (cbad : Bool) (C : Cfg) (r : jbad2_R) : Prop :=
 let p := r
 AEnds E 18 2 C (jbad2_V lim made bad op sum begun last lacks left low high x at' cbad p) (jbad2_H lim made bad op sum begun last lacks left low high x at' cbad p)
noncomputable def jbad2_t0 (lim : Int) (made : Bool) (bad op sum : Int) (begun last : Bool) (lacks left : Int) (low high : Int) (x at' : Int) (cbad : Bool) : jbad2_R :=
 bif !made then 1002
 else bad
def jbad2_S0 (lim : Int) (made : Bool) (bad op sum : Int) (begun last : Bool) (lacks left : Int) (low high : Int) (x at' : Int) (cbad : Bool) : Prop :=
 True
theorem jbad2_ok0 (lim : Int) (made : Bool) (bad op sum : Int) (begun last : Bool) (lacks left : Int) (low high : Int) (x at' : Int) (cbad : Bool) (hS : jbad2_S0 lim made bad op sum begun last lacks left low high x at' cbad) : jbad2_Q lim made bad op sum begun last lacks left low high x at' cbad (startC E 18 ([.pointer (some ⟨0, 0, none⟩)]) ([some (.cells [.int .i64 lim, .bool made, .int .i64 bad, .int .i64 op, .int .i64 sum, .pointer (some ⟨0, 5, none⟩), .slice none 0 0, .pointer (some ⟨1, 0, none⟩), .bool begun, .bool last, .int .i64 lacks] 51 none), some (.cells [.int .i64 left, .int .u8 low, .int .u8 high, .int .i32 x, .int .i64 at', .bool cbad] 77 none)])) (jbad2_t0 lim made bad op sum begun last lacks left low high x at' cbad) := by
 unfold jbad2_S0 at hS
 unfold jbad2_t0
 refine cond_intro (P := jbad2_Q lim made bad op sum begun last lacks left low high x at' cbad (startC E 18 ([.pointer (some ⟨0, 0, none⟩)]) ([some (.cells [.int .i64 lim, .bool made, .int .i64 bad, .int .i64 op, .int .i64 sum, .pointer (some ⟨0, 5, none⟩), .slice none 0 0, .pointer (some ⟨1, 0, none⟩), .bool begun, .bool last, .int .i64 lacks] 51 none), some (.cells [.int .i64 left, .int .u8 low, .int .u8 high, .int .i32 x, .int .i64 at', .bool cbad] 77 none)]))) _ (fun h1 => ?_) (fun h1 => ?_)
 ·skip
  exact ends_q noK_ok 2000 33 (bs 2 2) [0, 1] [2] [0, 1] (andI (dT h1) rfl)
 ·skip
  exact ends_q noK_ok 2000 38 (bs 2 0) [0, 1] [2] [0, 1] (andI (dF h1) rfl)
theorem jbad2_call (lim : Int) (made : Bool) (bad op sum : Int) (begun last : Bool) (lacks left : Int) (low high : Int) (x at' : Int) (cbad : Bool) (hS : jbad2_S0 lim made bad op sum begun last lacks left low high x at' cbad) : CallOk E 18 ([.pointer (some ⟨0, 0, none⟩)]) ([some (.cells [.int .i64 lim, .bool made, .int .i64 bad, .int .i64 op, .int .i64 sum, .pointer (some ⟨0, 5, none⟩), .slice none 0 0, .pointer (some ⟨1, 0, none⟩), .bool begun, .bool last, .int .i64 lacks] 51 none), some (.cells [.int .i64 left, .int .u8 low, .int .u8 high, .int .i32 x, .int .i64 at', .bool cbad] 77 none)]) (jbad2_V lim made bad op sum begun last lacks left low high x at' cbad (jbad2_t0 lim made bad op sum begun last lacks left low high x at' cbad)) (jbad2_H lim made bad op sum begun last lacks left low high x at' cbad (jbad2_t0 lim made bad op sum begun last lacks left low high x at' cbad)) := callOk_of_ends (jbad2_ok0 lim made bad op sum begun last lacks left low high x at' cbad hS) (by kernel_rfl) (Nat.le_of_ble_eq_true (by kernel_rfl))
abbrev jbad2_ex := jbad1_ex
noncomputable def jbad2_k : Ct := kS jbad2_ex [.ptr 0 0] [.cells [.int .i64, .bool, .int .i64, .int .i64, .int .i64, .ptr 0 5, .nilS, .ptr 1 0, .bool, .bool, .int .i64] 51 none, .cells [.int .i64, .int .u8, .int .u8, .int .i32, .int .i64, .bool] 77 none] (fun (a0, a1, a2, a3, a4, a5, a6, a7, a8, a9, a10, a11, a12, a13) => jbad2_S0 a0 a1 a2 a3 a4 a5 a6 a7 a8 a9 a10 a11 a12 a13) (fun (a0, a1, a2, a3, a4, a5, a6, a7, a8, a9, a10, a11, a12, a13) => jbad2_V a0 a1 a2 a3 a4 a5 a6 a7 a8 a9 a10 a11 a12 a13 (jbad2_t0 a0 a1 a2 a3 a4 a5 a6 a7 a8 a9 a10 a11 a12 a13)) (fun (a0, a1, a2, a3, a4, a5, a6, a7, a8, a9, a10, a11, a12, a13) => jbad2_H a0 a1 a2 a3 a4 a5 a6 a7 a8 a9 a10 a11 a12 a13 (jbad2_t0 a0 a1 a2 a3 a4 a5 a6 a7 a8 a9 a10 a11 a12 a13))
theorem jbad2_k_ok : KFor E 18 jbad2_k := kS_ok (fun x hx => jbad2_call (x.1) (x.2.1) (x.2.2.1) (x.2.2.2.1) (x.2.2.2.2.1) (x.2.2.2.2.2.1) (x.2.2.2.2.2.2.1) (x.2.2.2.2.2.2.2.1) (x.2.2.2.2.2.2.2.2.1) (x.2.2.2.2.2.2.2.2.2.1) (x.2.2.2.2.2.2.2.2.2.2.1) (x.2.2.2.2.2.2.2.2.2.2.2.1) (x.2.2.2.2.2.2.2.2.2.2.2.2.1) (x.2.2.2.2.2.2.2.2.2.2.2.2.2) hx) (fun _ _ => rfl) (fun _ _ => rfl)


abbrev jbad3_R : Type := Int
def jbad3_V (lim : Int) (made : Bool) (bad op sum : Int) (begun last : Bool) (lacks : Int) (bn : Nat) (B : List Value) (left low : Int) (high x at' : Int) (cbad : Bool) (r : Int) : Value := .int .i64 r
def jbad3_H (lim : Int) (made : Bool) (bad op sum : Int) (begun last : Bool) (lacks : Int) (bn : Nat) (B : List Value) (left low : Int) (high x at' : Int) (cbad : Bool) (r : Int) : Heap := [some (.cells [.int .i64 lim, .bool made, .int .i64 bad, .int .i64 op, .int .i64 sum, .pointer (some ⟨0, 5, none⟩), .slice (some ⟨1, 0, none⟩) bn 0, .pointer (some ⟨2, 0, none⟩), .bool begun, .bool last, .int .i64 lacks] 51 none), some (.cells B 5 (some 1)), some (.cells [.int .i64 left, .int .u8 low, .int .u8 high, .int .i32 x, .int .i64 at', .bool cbad] 77 none)]
noncomputable def jbad3_Q (lim : Int) (made : Bool) (bad op sum : Int) (begun last : Bool) (lacks : Int) (bn : Nat) (B : List Value) (left low : Int) (high x at' : Int) (cbad : Bool) (C : Cfg) (r : jbad3_R) : Prop :=
 let p := r
 AEnds E 18 3 C (jbad3_V lim made bad op sum begun last lacks bn B left low high x at' cbad p) (jbad3_H lim made bad op sum begun last lacks bn B left low high x at' cbad p)
noncomputable def jbad3_t0 (lim : Int) (made : Bool) (bad op sum : Int) (begun last : Bool) (lacks : Int) (bn : Nat) (B : List Value) (left low : Int) (high x at' : Int) (cbad : Bool) : jbad3_R :=
 bif !made then 1002
 else bad
def jbad3_S0 (lim : Int) (made : Bool) (bad op sum : Int) (begun last : Bool) (lacks : Int) (bn : Nat) (B : List Value) (left low : Int) (high x at' : Int) (cbad : Bool) : Prop :=
 ((!made) = true → (B.all flat) = true) ∧
 ((!made) = false → (B.all flat) = true)
theorem jbad3_ok0 (lim : Int) (made : Bool) (bad op sum : Int) (begun last : Bool) (lacks : Int) (bn : Nat) (B : List Value) (left low : Int) (high x at' : Int) (cbad : Bool) (hS : jbad3_S0 lim made bad op sum begun last lacks bn B left low high x at' cbad) : jbad3_Q lim made bad op sum begun last lacks bn B left low high x at' cbad (startC E 18 ([.pointer (some ⟨0, 0, none⟩)]) ([some (.cells [.int .i64 lim, .bool made, .int .i64 bad, .int .i64 op, .int .i64 sum, .pointer (some ⟨0, 5, none⟩), .slice (some ⟨1, 0, none⟩) bn 0, .pointer (some ⟨2, 0, none⟩), .bool begun, .bool last, .int .i64 lacks] 51 none), some (.cells B 5 (some 1)), some (.cells [.int .i64 left, .int .u8 low, .int .u8 high, .int .i32 x, .int .i64 at', .bool cbad] 77 none)])) (jbad3_t0 lim made bad op sum begun last lacks bn B left low high x at' cbad) := by
 unfold jbad3_S0 at hS
 unfold jbad3_t0
 refine cond_intro (P := jbad3_Q lim made bad op sum begun last lacks bn B left low high x at' cbad (startC E 18 ([.pointer (some ⟨0, 0, none⟩)]) ([some (.cells [.int .i64 lim, .bool made, .int .i64 bad, .int .i64 op, .int .i64 sum, .pointer (some ⟨0, 5, none⟩), .slice (some ⟨1, 0, none⟩) bn 0, .pointer (some ⟨2, 0, none⟩), .bool begun, .bool last, .int .i64 lacks] 51 none), some (.cells B 5 (some 1)), some (.cells [.int .i64 left, .int .u8 low, .int .u8 high, .int .i32 x, .int .i64 at', .bool cbad] 77 none)]))) _ (fun h1 => ?_) (fun h1 => ?_)
 ·skip
  exact ends_q noK_ok 2000 33 (bs 2 2) [0, 1, 2] [2] [0, 1, 2] (andI ((hS.1 h1)) (andI ((hS.1 h1)) (andI (dT h1) rfl)))
 ·skip
  exact ends_q noK_ok 2000 38 (bs 2 0) [0, 1, 2] [2] [0, 1, 2] (andI ((hS.2 h1)) (andI ((hS.2 h1)) (andI (dF h1) rfl)))
theorem jbad3_call (lim : Int) (made : Bool) (bad op sum : Int) (begun last : Bool) (lacks : Int) (bn : Nat) (B : List Value) (left low : Int) (high x at' : Int) (cbad : Bool) (hS : jbad3_S0 lim made bad op sum begun last lacks bn B left low high x at' cbad) : CallOk E 18 ([.pointer (some ⟨0, 0, none⟩)]) ([some (.cells [.int .i64 lim, .bool made, .int .i64 bad, .int .i64 op, .int .i64 sum, .pointer (some ⟨0, 5, none⟩), .slice (some ⟨1, 0, none⟩) bn 0, .pointer (some ⟨2, 0, none⟩), .bool begun, .bool last, .int .i64 lacks] 51 none), some (.cells B 5 (some 1)), some (.cells [.int .i64 left, .int .u8 low, .int .u8 high, .int .i32 x, .int .i64 at', .bool cbad] 77 none)]) (jbad3_V lim made bad op sum begun last lacks bn B left low high x at' cbad (jbad3_t0 lim made bad op sum begun last lacks bn B left low high x at' cbad)) (jbad3_H lim made bad op sum begun last lacks bn B left low high x at' cbad (jbad3_t0 lim made bad op sum begun last lacks bn B left low high x at' cbad)) := callOk_of_ends (jbad3_ok0 lim made bad op sum begun last lacks bn B left low high x at' cbad hS) (by kernel_rfl) (Nat.le_of_ble_eq_true (by kernel_rfl))
def jbad3_ex (a : List Value) (h : Heap) : Int × Bool × Int × Int × Int × Bool × Bool × Int × Nat × List Value × Int × Int × Int × Int × Int × Bool := ((toInt ((cellsOf h 0).getD 0 undef)), (toBool ((cellsOf h 0).getD 1 undef)), (toInt ((cellsOf h 0).getD 2 undef)), (toInt ((cellsOf h 0).getD 3 undef)), (toInt ((cellsOf h 0).getD 4 undef)), (toBool ((cellsOf h 0).getD 8 undef)), (toBool ((cellsOf h 0).getD 9 undef)), (toInt ((cellsOf h 0).getD 10 undef)), (sliceLen ((cellsOf h 0).getD 6 undef)), (cellsOf h 1), (toInt ((cellsOf h 2).getD 0 undef)), (toInt ((cellsOf h 2).getD 1 undef)), (toInt ((cellsOf h 2).getD 2 undef)), (toInt ((cellsOf h 2).getD 3 undef)), (toInt ((cellsOf h 2).getD 4 undef)), (toBool ((cellsOf h 2).getD 5 undef)))
noncomputable def jbad3_k : Ct := kS jbad3_ex [.ptr 0 0] [.cells [.int .i64, .bool, .int .i64, .int .i64, .int .i64, .ptr 0 5, .sl 1 (some 0) (some 0), .ptr 2 0, .bool, .bool, .int .i64] 51 none, .any 5 (some 1), .cells [.int .i64, .int .u8, .int .u8, .int .i32, .int .i64, .bool] 77 none] (fun (a0, a1, a2, a3, a4, a5, a6, a7, a8, a9, a10, a11, a12, a13, a14, a15) => jbad3_S0 a0 a1 a2 a3 a4 a5 a6 a7 a8 a9 a10 a11 a12 a13 a14 a15) (fun (a0, a1, a2, a3, a4, a5, a6, a7, a8, a9, a10, a11, a12, a13, a14, a15) => jbad3_V a0 a1 a2 a3 a4 a5 a6 a7 a8 a9 a10 a11 a12 a13 a14 a15 (jbad3_t0 a0 a1 a2 a3 a4 a5 a6 a7 a8 a9 a10 a11 a12 a13 a14 a15)) (fun (a0, a1, a2, a3, a4, a5, a6, a7, a8, a9, a10, a11, a12, a13, a14, a15) => jbad3_H a0 a1 a2 a3 a4 a5 a6 a7 a8 a9 a10 a11 a12 a13 a14 a15 (jbad3_t0 a0 a1 a2 a3 a4 a5 a6 a7 a8 a9 a10 a11 a12 a13 a14 a15))
theorem jbad3_k_ok : KFor E 18 jbad3_k := kS_ok (fun x hx => jbad3_call (x.1) (x.2.1) (x.2.2.1) (x.2.2.2.1) (x.2.2.2.2.1) (x.2.2.2.2.2.1) (x.2.2.2.2.2.2.1) (x.2.2.2.2.2.2.2.1) (x.2.2.2.2.2.2.2.2.1) (x.2.2.2.2.2.2.2.2.2.1) (x.2.2.2.2.2.2.2.2.2.2.1) (x.2.2.2.2.2.2.2.2.2.2.2.1) (x.2.2.2.2.2.2.2.2.2.2.2.2.1) (x.2.2.2.2.2.2.2.2.2.2.2.2.2.1) (x.2.2.2.2.2.2.2.2.2.2.2.2.2.2.1) (x.2.2.2.2.2.2.2.2.2.2.2.2.2.2.2) hx) (fun _ _ => rfl) (fun _ _ => rfl)


abbrev jopen0_R : Type := Bool
def jopen0_V (lim : Int) (made : Bool) (bad op sum : Int) (begun last : Bool) (lacks : Int) (r : Bool) : Value := .bool r
def jopen0_H (lim : Int) (made : Bool) (bad op sum : Int) (begun last : Bool) (lacks : Int) (r : Bool) : Heap := [some (.cells [.int .i64 lim, .bool made, .int .i64 bad, .int .i64 op, .int .i64 sum, .pointer none, .slice none 0 0, .pointer none, .bool begun, .bool last, .int .i64 lacks] 51 none)]
noncomputable def jopen0_Q (lim : Int) (made : Bool) (bad op sum : Int) (begun last : Bool) (lacks : Int) (C : Cfg) (r : jopen0_R) : Prop :=
 let p := r
 AEnds E 19 1 C (jopen0_V lim made bad op sum begun last lacks p) (jopen0_H lim made bad op sum begun last lacks p)
noncomputable def jopen0_t0 (lim : Int) (made : Bool) (bad op sum : Int) (begun last : Bool) (lacks : Int) : jopen0_R :=
 bif !!made then bif bad == 0 then op != 0
  else false
 else false
def jopen0_S0 (lim : Int) (made : Bool) (bad op sum : Int) (begun last : Bool) (lacks : Int) : Prop :=
 True
theorem jopen0_ok0 (lim : Int) (made : Bool) (bad op sum : Int) (begun last : Bool) (lacks : Int) (hS : jopen0_S0 lim made bad op sum begun last lacks) : jopen0_Q lim made bad op sum begun last lacks (startC E 19 ([.pointer (some ⟨0, 0, none⟩)]) ([some (.cells [.int .i64 lim, .bool made, .int .i64 bad, .int .i64 op, .int .i64 sum, .pointer none, .slice none 0 0, .pointer none, .bool begun, .bool last, .int .i64 lacks] 51 none)])) (jopen0_t0 lim made bad op sum begun last lacks) := by
 unfold jopen0_S0 at hS
 unfold jopen0_t0
 refine cond_intro (P := jopen0_Q lim made bad op sum begun last lacks (startC E 19 ([.pointer (some ⟨0, 0, none⟩)]) ([some (.cells [.int .i64 lim, .bool made, .int .i64 bad, .int .i64 op, .int .i64 sum, .pointer none, .slice none 0 0, .pointer none, .bool begun, .bool last, .int .i64 lacks] 51 none)]))) _ (fun h1 => ?_) (fun h1 => ?_)
 ·skip
  refine cond_intro (P := jopen0_Q lim made bad op sum begun last lacks (startC E 19 ([.pointer (some ⟨0, 0, none⟩)]) ([some (.cells [.int .i64 lim, .bool made, .int .i64 bad, .int .i64 op, .int .i64 sum, .pointer none, .slice none 0 0, .pointer none, .bool begun, .bool last, .int .i64 lacks] 51 none)]))) _ (fun h2 => ?_) (fun h2 => ?_)
  ·skip
   exact ends_q noK_ok 2000 43 (bs 3 6) [0] [2] [0] (andI (dT h2) (andI (dT h1) rfl))
  ·skip
   exact ends_q noK_ok 2000 43 (bs 3 2) [0] [2] [0] (andI (dF h2) (andI (dT h1) rfl))
 ·skip
  exact ends_q noK_ok 2000 43 (bs 3 0) [0] [2] [0] (andI (dF h1) rfl)
theorem jopen0_call (lim : Int) (made : Bool) (bad op sum : Int) (begun last : Bool) (lacks : Int) (hS : jopen0_S0 lim made bad op sum begun last lacks) : CallOk E 19 ([.pointer (some ⟨0, 0, none⟩)]) ([some (.cells [.int .i64 lim, .bool made, .int .i64 bad, .int .i64 op, .int .i64 sum, .pointer none, .slice none 0 0, .pointer none, .bool begun, .bool last, .int .i64 lacks] 51 none)]) (jopen0_V lim made bad op sum begun last lacks (jopen0_t0 lim made bad op sum begun last lacks)) (jopen0_H lim made bad op sum begun last lacks (jopen0_t0 lim made bad op sum begun last lacks)) := callOk_of_ends (jopen0_ok0 lim made bad op sum begun last lacks hS) (by kernel_rfl) (Nat.le_of_ble_eq_true (by kernel_rfl))
abbrev jopen0_ex := jbad0_ex
noncomputable def jopen0_k : Ct := kS jopen0_ex [.ptr 0 0] [.cells [.int .i64, .bool, .int .i64, .int .i64, .int .i64, .nilP, .nilS, .nilP, .bool, .bool, .int .i64] 51 none] (fun (a0, a1, a2, a3, a4, a5, a6, a7) => jopen0_S0 a0 a1 a2 a3 a4 a5 a6 a7) (fun (a0, a1, a2, a3, a4, a5, a6, a7) => jopen0_V a0 a1 a2 a3 a4 a5 a6 a7 (jopen0_t0 a0 a1 a2 a3 a4 a5 a6 a7)) (fun (a0, a1, a2, a3, a4, a5, a6, a7) => jopen0_H a0 a1 a2 a3 a4 a5 a6 a7 (jopen0_t0 a0 a1 a2 a3 a4 a5 a6 a7))
theorem jopen0_k_ok : KFor E 19 jopen0_k := kS_ok (fun x hx => jopen0_call (x.1) (x.2.1) (x.2.2.1) (x.2.2.2.1) (x.2.2.2.2.1) (x.2.2.2.2.2.1) (x.2.2.2.2.2.2.1) (x.2.2.2.2.2.2.2) hx) (fun _ _ => rfl) (fun _ _ => rfl)


abbrev jopen1_R : Type := Bool
def jopen1_V (lim : Int) (made : Bool) (bad op sum : Int) (begun last : Bool) (lacks left : Int) (low high : Int) (x at' : Int) (cbad r : Bool) : Value := .bool r
def jopen1_H (lim : Int) (made : Bool) (bad op sum : Int) (begun last : Bool) (lacks left : Int) (low high : Int) (x at' : Int) (cbad r : Bool) : Heap := [some (.cells [.int .i64 lim, .bool made, .int .i64 bad, .int .i64 op, .int .i64 sum, .pointer none, .slice none 0 0, .pointer (some ⟨1, 0, none⟩), .bool begun, .bool last, .int .i64 lacks] 51 none), some (.cells [.int .i64 left, .int .u8 low, .int .u8 high, .int .i32 x, .int .i64 at', .bool cbad] 77 none)]
noncomputable def jopen1_Q (lim : Int) (made : Bool) (bad op sum : Int) (begun last : Bool) (lacks left : Int) (low high : Int) (x at' : Int) (cbad : Bool) (C : Cfg) (r : jopen1_R) : Prop :=
 let p := r
 AEnds E 19 2 C (jopen1_V lim made bad op sum begun last lacks left low high x at' cbad p) (jopen1_H lim made bad op sum begun last lacks left low high x at' cbad p)
noncomputable def jopen1_t0 (lim : Int) (made : Bool) (bad op sum : Int) (begun last : Bool) (lacks left : Int) (low high : Int) (x at' : Int) (cbad : Bool) : jopen1_R :=
 bif !!made then bif bad == 0 then op != 0
  else false
 else false
def jopen1_S0 (lim : Int) (made : Bool) (bad op sum : Int) (begun last : Bool) (lacks left : Int) (low high : Int) (x at' : Int) (cbad : Bool) : Prop :=
 True
theorem jopen1_ok0 (lim : Int) (made : Bool) (bad op sum : Int) (begun last : Bool) (lacks left : Int) (low high : Int) (x at' : Int) (cbad : Bool) (hS : jopen1_S0 lim made bad op sum begun last lacks left low high x at' cbad) : jopen1_Q lim made bad op sum begun last lacks left low high x at' cbad (startC E 19 ([.pointer (some ⟨0, 0, none⟩)]) ([some (.cells [.int .i64 lim, .bool made, .int .i64 bad, .int .i64 op, .int .i64 sum, .pointer none, .slice none 0 0, .pointer (some ⟨1, 0, none⟩), .bool begun, .bool last, .int .i64 lacks] 51 none), some (.cells [.int .i64 left, .int .u8 low, .int .u8 high, .int .i32 x, .int .i64 at', .bool cbad] 77 none)])) (jopen1_t0 lim made bad op sum begun last lacks left low high x at' cbad) := by
 unfold jopen1_S0 at hS
 unfold jopen1_t0
 refine cond_intro (P := jopen1_Q lim made bad op sum begun last lacks left low high x at' cbad (startC E 19 ([.pointer (some ⟨0, 0, none⟩)]) ([some (.cells [.int .i64 lim, .bool made, .int .i64 bad, .int .i64 op, .int .i64 sum, .pointer none, .slice none 0 0, .pointer (some ⟨1, 0, none⟩), .bool begun, .bool last, .int .i64 lacks] 51 none), some (.cells [.int .i64 left, .int .u8 low, .int .u8 high, .int .i32 x, .int .i64 at', .bool cbad] 77 none)]))) _ (fun h1 => ?_) (fun h1 => ?_)
 ·skip
  refine cond_intro (P := jopen1_Q lim made bad op sum begun last lacks left low high x at' cbad (startC E 19 ([.pointer (some ⟨0, 0, none⟩)]) ([some (.cells [.int .i64 lim, .bool made, .int .i64 bad, .int .i64 op, .int .i64 sum, .pointer none, .slice none 0 0, .pointer (some ⟨1, 0, none⟩), .bool begun, .bool last, .int .i64 lacks] 51 none), some (.cells [.int .i64 left, .int .u8 low, .int .u8 high, .int .i32 x, .int .i64 at', .bool cbad] 77 none)]))) _ (fun h2 => ?_) (fun h2 => ?_)
  ·skip
   exact ends_q noK_ok 2000 43 (bs 3 6) [0, 1] [2] [0, 1] (andI (dT h2) (andI (dT h1) rfl))
  ·skip
   exact ends_q noK_ok 2000 43 (bs 3 2) [0, 1] [2] [0, 1] (andI (dF h2) (andI (dT h1) rfl))
 ·skip
  exact ends_q noK_ok 2000 43 (bs 3 0) [0, 1] [2] [0, 1] (andI (dF h1) rfl)
theorem jopen1_call (lim : Int) (made : Bool) (bad op sum : Int) (begun last : Bool) (lacks left : Int) (low high : Int) (x at' : Int) (cbad : Bool) (hS : jopen1_S0 lim made bad op sum begun last lacks left low high x at' cbad) : CallOk E 19 ([.pointer (some ⟨0, 0, none⟩)]) ([some (.cells [.int .i64 lim, .bool made, .int .i64 bad, .int .i64 op, .int .i64 sum, .pointer none, .slice none 0 0, .pointer (some ⟨1, 0, none⟩), .bool begun, .bool last, .int .i64 lacks] 51 none), some (.cells [.int .i64 left, .int .u8 low, .int .u8 high, .int .i32 x, .int .i64 at', .bool cbad] 77 none)]) (jopen1_V lim made bad op sum begun last lacks left low high x at' cbad (jopen1_t0 lim made bad op sum begun last lacks left low high x at' cbad)) (jopen1_H lim made bad op sum begun last lacks left low high x at' cbad (jopen1_t0 lim made bad op sum begun last lacks left low high x at' cbad)) := callOk_of_ends (jopen1_ok0 lim made bad op sum begun last lacks left low high x at' cbad hS) (by kernel_rfl) (Nat.le_of_ble_eq_true (by kernel_rfl))
abbrev jopen1_ex := jbad1_ex
noncomputable def jopen1_k : Ct := kS jopen1_ex [.ptr 0 0] [.cells [.int .i64, .bool, .int .i64, .int .i64, .int .i64, .nilP, .nilS, .ptr 1 0, .bool, .bool, .int .i64] 51 none, .cells [.int .i64, .int .u8, .int .u8, .int .i32, .int .i64, .bool] 77 none] (fun (a0, a1, a2, a3, a4, a5, a6, a7, a8, a9, a10, a11, a12, a13) => jopen1_S0 a0 a1 a2 a3 a4 a5 a6 a7 a8 a9 a10 a11 a12 a13) (fun (a0, a1, a2, a3, a4, a5, a6, a7, a8, a9, a10, a11, a12, a13) => jopen1_V a0 a1 a2 a3 a4 a5 a6 a7 a8 a9 a10 a11 a12 a13 (jopen1_t0 a0 a1 a2 a3 a4 a5 a6 a7 a8 a9 a10 a11 a12 a13)) (fun (a0, a1, a2, a3, a4, a5, a6, a7, a8, a9, a10, a11, a12, a13) => jopen1_H a0 a1 a2 a3 a4 a5 a6 a7 a8 a9 a10 a11 a12 a13 (jopen1_t0 a0 a1 a2 a3 a4 a5 a6 a7 a8 a9 a10 a11 a12 a13))
theorem jopen1_k_ok : KFor E 19 jopen1_k := kS_ok (fun x hx => jopen1_call (x.1) (x.2.1) (x.2.2.1) (x.2.2.2.1) (x.2.2.2.2.1) (x.2.2.2.2.2.1) (x.2.2.2.2.2.2.1) (x.2.2.2.2.2.2.2.1) (x.2.2.2.2.2.2.2.2.1) (x.2.2.2.2.2.2.2.2.2.1) (x.2.2.2.2.2.2.2.2.2.2.1) (x.2.2.2.2.2.2.2.2.2.2.2.1) (x.2.2.2.2.2.2.2.2.2.2.2.2.1) (x.2.2.2.2.2.2.2.2.2.2.2.2.2) hx) (fun _ _ => rfl) (fun _ _ => rfl)


abbrev jopen2_R : Type := Bool
def jopen2_V (lim : Int) (made : Bool) (bad op sum : Int) (begun last : Bool) (lacks left : Int) (low high : Int) (x at' : Int) (cbad r : Bool) : Value := .bool r
def jopen2_H (lim : Int) (made : Bool) (bad op sum : Int) (begun last : Bool) (lacks left : Int) (low high : Int) (x at' : Int) (cbad r : Bool) : Heap := [some (.cells [.int .i64 lim, .bool made, .int .i64 bad, .int .i64 op, .int .i64 sum, .pointer (some ⟨0, 5, none⟩), .slice none 0 0, .pointer (some ⟨1, 0, none⟩), .bool begun, .bool last, .int .i64 lacks] 51 none), some (.cells [.int .i64 left, .int .u8 low, .int .u8 high, .int .i32 x, .int .i64 at', .bool cbad] 77 none)]
noncomputable def jopen2_Q (lim : Int) (made : Bool) (bad op sum : Int) (begun last : Bool) (lacks left : Int) (low high : Int) (x at' : Int) (cbad : Bool) (C : Cfg) (r : jopen2_R) : Prop :=
 let p := r
 AEnds E 19 2 C (jopen2_V lim made bad op sum begun last lacks left low high x at' cbad p) (jopen2_H lim made bad op sum begun last lacks left low high x at' cbad p)
noncomputable def jopen2_t0 (lim : Int) (made : Bool) (bad op sum : Int) (begun last : Bool) (lacks left : Int) (low high : Int) (x at' : Int) (cbad : Bool) : jopen2_R :=
 bif !!made then bif bad == 0 then op != 0
  else false
 else false
def jopen2_S0 (lim : Int) (made : Bool) (bad op sum : Int) (begun last : Bool) (lacks left : Int) (low high : Int) (x at' : Int) (cbad : Bool) : Prop :=
 True
theorem jopen2_ok0 (lim : Int) (made : Bool) (bad op sum : Int) (begun last : Bool) (lacks left : Int) (low high : Int) (x at' : Int) (cbad : Bool) (hS : jopen2_S0 lim made bad op sum begun last lacks left low high x at' cbad) : jopen2_Q lim made bad op sum begun last lacks left low high x at' cbad (startC E 19 ([.pointer (some ⟨0, 0, none⟩)]) ([some (.cells [.int .i64 lim, .bool made, .int .i64 bad, .int .i64 op, .int .i64 sum, .pointer (some ⟨0, 5, none⟩), .slice none 0 0, .pointer (some ⟨1, 0, none⟩), .bool begun, .bool last, .int .i64 lacks] 51 none), some (.cells [.int .i64 left, .int .u8 low, .int .u8 high, .int .i32 x, .int .i64 at', .bool cbad] 77 none)])) (jopen2_t0 lim made bad op sum begun last lacks left low high x at' cbad) := by
 unfold jopen2_S0 at hS
 unfold jopen2_t0
 refine cond_intro (P := jopen2_Q lim made bad op sum begun last lacks left low high x at' cbad (startC E 19 ([.pointer (some ⟨0, 0, none⟩)]) ([some (.cells [.int .i64 lim, .bool made, .int .i64 bad, .int .i64 op, .int .i64 sum, .pointer (some ⟨0, 5, none⟩), .slice none 0 0, .pointer (some ⟨1, 0, none⟩), .bool begun, .bool last, .int .i64 lacks] 51 none), some (.cells [.int .i64 left, .int .u8 low, .int .u8 high, .int .i32 x, .int .i64 at', .bool cbad] 77 none)]))) _ (fun h1 => ?_) (fun h1 => ?_)
 ·skip
  refine cond_intro (P := jopen2_Q lim made bad op sum begun last lacks left low high x at' cbad (startC E 19 ([.pointer (some ⟨0, 0, none⟩)]) ([some (.cells [.int .i64 lim, .bool made, .int .i64 bad, .int .i64 op, .int .i64 sum, .pointer (some ⟨0, 5, none⟩), .slice none 0 0, .pointer (some ⟨1, 0, none⟩), .bool begun, .bool last, .int .i64 lacks] 51 none), some (.cells [.int .i64 left, .int .u8 low, .int .u8 high, .int .i32 x, .int .i64 at', .bool cbad] 77 none)]))) _ (fun h2 => ?_) (fun h2 => ?_)
  ·skip
   exact ends_q noK_ok 2000 43 (bs 3 6) [0, 1] [2] [0, 1] (andI (dT h2) (andI (dT h1) rfl))
  ·skip
   exact ends_q noK_ok 2000 43 (bs 3 2) [0, 1] [2] [0, 1] (andI (dF h2) (andI (dT h1) rfl))
 ·skip
  exact ends_q noK_ok 2000 43 (bs 3 0) [0, 1] [2] [0, 1] (andI (dF h1) rfl)
theorem jopen2_call (lim : Int) (made : Bool) (bad op sum : Int) (begun last : Bool) (lacks left : Int) (low high : Int) (x at' : Int) (cbad : Bool) (hS : jopen2_S0 lim made bad op sum begun last lacks left low high x at' cbad) : CallOk E 19 ([.pointer (some ⟨0, 0, none⟩)]) ([some (.cells [.int .i64 lim, .bool made, .int .i64 bad, .int .i64 op, .int .i64 sum, .pointer (some ⟨0, 5, none⟩), .slice none 0 0, .pointer (some ⟨1, 0, none⟩), .bool begun, .bool last, .int .i64 lacks] 51 none), some (.cells [.int .i64 left, .int .u8 low, .int .u8 high, .int .i32 x, .int .i64 at', .bool cbad] 77 none)]) (jopen2_V lim made bad op sum begun last lacks left low high x at' cbad (jopen2_t0 lim made bad op sum begun last lacks left low high x at' cbad)) (jopen2_H lim made bad op sum begun last lacks left low high x at' cbad (jopen2_t0 lim made bad op sum begun last lacks left low high x at' cbad)) := callOk_of_ends (jopen2_ok0 lim made bad op sum begun last lacks left low high x at' cbad hS) (by kernel_rfl) (Nat.le_of_ble_eq_true (by kernel_rfl))
abbrev jopen2_ex := jbad1_ex
noncomputable def jopen2_k : Ct := kS jopen2_ex [.ptr 0 0] [.cells [.int .i64, .bool, .int .i64, .int .i64, .int .i64, .ptr 0 5, .nilS, .ptr 1 0, .bool, .bool, .int .i64] 51 none, .cells [.int .i64, .int .u8, .int .u8, .int .i32, .int .i64, .bool] 77 none] (fun (a0, a1, a2, a3, a4, a5, a6, a7, a8, a9, a10, a11, a12, a13) => jopen2_S0 a0 a1 a2 a3 a4 a5 a6 a7 a8 a9 a10 a11 a12 a13) (fun (a0, a1, a2, a3, a4, a5, a6, a7, a8, a9, a10, a11, a12, a13) => jopen2_V a0 a1 a2 a3 a4 a5 a6 a7 a8 a9 a10 a11 a12 a13 (jopen2_t0 a0 a1 a2 a3 a4 a5 a6 a7 a8 a9 a10 a11 a12 a13)) (fun (a0, a1, a2, a3, a4, a5, a6, a7, a8, a9, a10, a11, a12, a13) => jopen2_H a0 a1 a2 a3 a4 a5 a6 a7 a8 a9 a10 a11 a12 a13 (jopen2_t0 a0 a1 a2 a3 a4 a5 a6 a7 a8 a9 a10 a11 a12 a13))
theorem jopen2_k_ok : KFor E 19 jopen2_k := kS_ok (fun x hx => jopen2_call (x.1) (x.2.1) (x.2.2.1) (x.2.2.2.1) (x.2.2.2.2.1) (x.2.2.2.2.2.1) (x.2.2.2.2.2.2.1) (x.2.2.2.2.2.2.2.1) (x.2.2.2.2.2.2.2.2.1) (x.2.2.2.2.2.2.2.2.2.1) (x.2.2.2.2.2.2.2.2.2.2.1) (x.2.2.2.2.2.2.2.2.2.2.2.1) (x.2.2.2.2.2.2.2.2.2.2.2.2.1) (x.2.2.2.2.2.2.2.2.2.2.2.2.2) hx) (fun _ _ => rfl) (fun _ _ => rfl)


abbrev jopen3_R : Type := Bool
def jopen3_V (lim : Int) (made : Bool) (bad op sum : Int) (begun last : Bool) (lacks : Int) (bn : Nat) (B : List Value) (left low : Int) (high x at' : Int) (cbad r : Bool) : Value := .bool r
def jopen3_H (lim : Int) (made : Bool) (bad op sum : Int) (begun last : Bool) (lacks : Int) (bn : Nat) (B : List Value) (left low : Int) (high x at' : Int) (cbad r : Bool) : Heap := [some (.cells [.int .i64 lim, .bool made, .int .i64 bad, .int .i64 op, .int .i64 sum, .pointer (some ⟨0, 5, none⟩), .slice (some ⟨1, 0, none⟩) bn 0, .pointer (some ⟨2, 0, none⟩), .bool begun, .bool last, .int .i64 lacks] 51 none), some (.cells B 5 (some 1)), some (.cells [.int .i64 left, .int .u8 low, .int .u8 high, .int .i32 x, .int .i64 at', .bool cbad] 77 none)]
noncomputable def jopen3_Q (lim : Int) (made : Bool) (bad op sum : Int) (begun last : Bool) (lacks : Int) (bn : Nat) (B : List Value) (left low : Int) (high x at' : Int) (cbad : Bool) (C : Cfg) (r : jopen3_R) : Prop :=
 let p := r
 AEnds E 19 3 C (jopen3_V lim made bad op sum begun last lacks bn B left low high x at' cbad p) (jopen3_H lim made bad op sum begun last lacks bn B left low high x at' cbad p)
noncomputable def jopen3_t0 (lim : Int) (made : Bool) (bad op sum : Int) (begun last : Bool) (lacks : Int) (bn : Nat) (B : List Value) (left low : Int) (high x at' : Int) (cbad : Bool) : jopen3_R :=
 bif !!made then bif bad == 0 then op != 0
  else false
 else false
def jopen3_S0 (lim : Int) (made : Bool) (bad op sum : Int) (begun last : Bool) (lacks : Int) (bn : Nat) (B : List Value) (left low : Int) (high x at' : Int) (cbad : Bool) : Prop :=
 ((!!made) = true → ((bad == 0) = true → (B.all flat) = true) ∧
  ((bad == 0) = false → (B.all flat) = true)) ∧
 ((!!made) = false → (B.all flat) = true)
theorem jopen3_ok0 (lim : Int) (made : Bool) (bad op sum : Int) (begun last : Bool) (lacks : Int) (bn : Nat) (B : List Value) (left low : Int) (high x at' : Int) (cbad : Bool) (hS : jopen3_S0 lim made bad op sum begun last lacks bn B left low high x at' cbad) : jopen3_Q lim made bad op sum begun last lacks bn B left low high x at' cbad (startC E 19 ([.pointer (some ⟨0, 0, none⟩)]) ([some (.cells [.int .i64 lim, .bool made, .int .i64 bad, .int .i64 op, .int .i64 sum, .pointer (some ⟨0, 5, none⟩), .slice (some ⟨1, 0, none⟩) bn 0, .pointer (some ⟨2, 0, none⟩), .bool begun, .bool last, .int .i64 lacks] 51 none), some (.cells B 5 (some 1)), some (.cells [.int .i64 left, .int .u8 low, .int .u8 high, .int .i32 x, .int .i64 at', .bool cbad] 77 none)])) (jopen3_t0 lim made bad op sum begun last lacks bn B left low high x at' cbad) := by
 unfold jopen3_S0 at hS
 unfold jopen3_t0
 refine cond_intro (P := jopen3_Q lim made bad op sum begun last lacks bn B left low high x at' cbad (startC E 19 ([.pointer (some ⟨0, 0, none⟩)]) ([some (.cells [.int .i64 lim, .bool made, .int .i64 bad, .int .i64 op, .int .i64 sum, .pointer (some ⟨0, 5, none⟩), .slice (some ⟨1, 0, none⟩) bn 0, .pointer (some ⟨2, 0, none⟩), .bool begun, .bool last, .int .i64 lacks] 51 none), some (.cells B 5 (some 1)), some (.cells [.int .i64 left, .int .u8 low, .int .u8 high, .int .i32 x, .int .i64 at', .bool cbad] 77 none)]))) _ (fun h1 => ?_) (fun h1 => ?_)
 ·skip
  refine cond_intro (P := jopen3_Q lim made bad op sum begun last lacks bn B left low high x at' cbad (startC E 19 ([.pointer (some ⟨0, 0, none⟩)]) ([some (.cells [.int .i64 lim, .bool made, .int .i64 bad, .int .i64 op, .int .i64 sum, .pointer (some ⟨0, 5, none⟩), .slice (some ⟨1, 0, none⟩) bn 0, .pointer (some ⟨2, 0, none⟩), .bool begun, .bool last, .int .i64 lacks] 51 none), some (.cells B 5 (some 1)), some (.cells [.int .i64 left, .int .u8 low, .int .u8 high, .int .i32 x, .int .i64 at', .bool cbad] 77 none)]))) _ (fun h2 => ?_) (fun h2 => ?_)
  ·skip
   exact ends_q noK_ok 2000 43 (bs 3 6) [0, 1, 2] [2] [0, 1, 2] (and4 (((hS.1 h1).1 h2)) (((hS.1 h1).1 h2)) (dT h2) (dT h1) rfl)
  ·skip
   exact ends_q noK_ok 2000 43 (bs 3 2) [0, 1, 2] [2] [0, 1, 2] (and4 (((hS.1 h1).2 h2)) (((hS.1 h1).2 h2)) (dF h2) (dT h1) rfl)
 ·skip
  exact ends_q noK_ok 2000 43 (bs 3 0) [0, 1, 2] [2] [0, 1, 2] (andI ((hS.2 h1)) (andI ((hS.2 h1)) (andI (dF h1) rfl)))
theorem jopen3_call (lim : Int) (made : Bool) (bad op sum : Int) (begun last : Bool) (lacks : Int) (bn : Nat) (B : List Value) (left low : Int) (high x at' : Int) (cbad : Bool) (hS : jopen3_S0 lim made bad op sum begun last lacks bn B left low high x at' cbad) : CallOk E 19 ([.pointer (some ⟨0, 0, none⟩)]) ([some (.cells [.int .i64 lim, .bool made, .int .i64 bad, .int .i64 op, .int .i64 sum, .pointer (some ⟨0, 5, none⟩), .slice (some ⟨1, 0, none⟩) bn 0, .pointer (some ⟨2, 0, none⟩), .bool begun, .bool last, .int .i64 lacks] 51 none), some (.cells B 5 (some 1)), some (.cells [.int .i64 left, .int .u8 low, .int .u8 high, .int .i32 x, .int .i64 at', .bool cbad] 77 none)]) (jopen3_V lim made bad op sum begun last lacks bn B left low high x at' cbad (jopen3_t0 lim made bad op sum begun last lacks bn B left low high x at' cbad)) (jopen3_H lim made bad op sum begun last lacks bn B left low high x at' cbad (jopen3_t0 lim made bad op sum begun last lacks bn B left low high x at' cbad)) := callOk_of_ends (jopen3_ok0 lim made bad op sum begun last lacks bn B left low high x at' cbad hS) (by kernel_rfl) (Nat.le_of_ble_eq_true (by kernel_rfl))
abbrev jopen3_ex := jbad3_ex
noncomputable def jopen3_k : Ct := kS jopen3_ex [.ptr 0 0] [.cells [.int .i64, .bool, .int .i64, .int .i64, .int .i64, .ptr 0 5, .sl 1 (some 0) (some 0), .ptr 2 0, .bool, .bool, .int .i64] 51 none, .any 5 (some 1), .cells [.int .i64, .int .u8, .int .u8, .int .i32, .int .i64, .bool] 77 none] (fun (a0, a1, a2, a3, a4, a5, a6, a7, a8, a9, a10, a11, a12, a13, a14, a15) => jopen3_S0 a0 a1 a2 a3 a4 a5 a6 a7 a8 a9 a10 a11 a12 a13 a14 a15) (fun (a0, a1, a2, a3, a4, a5, a6, a7, a8, a9, a10, a11, a12, a13, a14, a15) => jopen3_V a0 a1 a2 a3 a4 a5 a6 a7 a8 a9 a10 a11 a12 a13 a14 a15 (jopen3_t0 a0 a1 a2 a3 a4 a5 a6 a7 a8 a9 a10 a11 a12 a13 a14 a15)) (fun (a0, a1, a2, a3, a4, a5, a6, a7, a8, a9, a10, a11, a12, a13, a14, a15) => jopen3_H a0 a1 a2 a3 a4 a5 a6 a7 a8 a9 a10 a11 a12 a13 a14 a15 (jopen3_t0 a0 a1 a2 a3 a4 a5 a6 a7 a8 a9 a10 a11 a12 a13 a14 a15))
theorem jopen3_k_ok : KFor E 19 jopen3_k := kS_ok (fun x hx => jopen3_call (x.1) (x.2.1) (x.2.2.1) (x.2.2.2.1) (x.2.2.2.2.1) (x.2.2.2.2.2.1) (x.2.2.2.2.2.2.1) (x.2.2.2.2.2.2.2.1) (x.2.2.2.2.2.2.2.2.1) (x.2.2.2.2.2.2.2.2.2.1) (x.2.2.2.2.2.2.2.2.2.2.1) (x.2.2.2.2.2.2.2.2.2.2.2.1) (x.2.2.2.2.2.2.2.2.2.2.2.2.1) (x.2.2.2.2.2.2.2.2.2.2.2.2.2.1) (x.2.2.2.2.2.2.2.2.2.2.2.2.2.2.1) (x.2.2.2.2.2.2.2.2.2.2.2.2.2.2.2) hx) (fun _ _ => rfl) (fun _ _ => rfl)


end Go.Proofs.Ytgaedhpeiamdfaa
