/-
  A joiner of frames: the document's own, and what is looked at of the program's, as plain functions.
-/
import Derived.Test.YtgaedhpeiamdfaaAmSlim
import Derived.Test.YtgaedhpeiamdfaaUtfO18
import Derived.Test.YtgaedhpeiamdfaaAmFlex
set_option linter.unusedVariables false
set_option linter.unusedSimpArgs false
open Go Go.Am
namespace Go.Proofs.Ytgaedhpeiamdfaa

noncomputable def KA : Ctr := ctrOf E [(30, anyA, reads_k)]
theorem KA_ok : KOk E KA := ctr_cons reads_k_ok ctr_nil

abbrev rbegin_R : Type := Int × Int × Int × Int × ByteArray × Bool × Bool × Int
def rbegin_V (lim bad : Int) (op sum : Int) (d : ByteArray) (begun last : Bool) (left : Int) (l : Bool) (o n : Int) (r : Int × Int × Int × Int × ByteArray × Bool × Bool × Int) : Value := .int .i64 r.1
def rbegin_H (lim bad : Int) (op sum : Int) (d : ByteArray) (begun last : Bool) (left : Int) (l : Bool) (o n : Int) (r : Int × Int × Int × Int × ByteArray × Bool × Bool × Int) : Heap := [some (.cells [.int .i64 lim, .int .i64 r.2.1, .int .i64 r.2.2.1, .int .i64 r.2.2.2.1, .string r.2.2.2.2.1, .bool r.2.2.2.2.2.1, .bool r.2.2.2.2.2.2.1, .int .i64 r.2.2.2.2.2.2.2] 31 none)]
noncomputable def rbegin_Q (lim bad : Int) (op sum : Int) (d : ByteArray) (begun last : Bool) (left : Int) (l : Bool) (o n : Int) (C : Cfg) (r : rbegin_R) : Prop :=
 let p := r
 AEnds E 13 1 C (rbegin_V lim bad op sum d begun last left l o n p) (rbegin_H lim bad op sum d begun last left l o n p)
noncomputable def rbegin_t0 (lim bad : Int) (op sum : Int) (d : ByteArray) (begun last : Bool) (left : Int) (l : Bool) (o n : Int) : rbegin_R :=
 bif bad != 0 then (bad, bad, op, sum, d, begun, last, left)
 else bif begun then (1002, 1002, op, sum, d, begun, last, left)
  else bif decide (n < 0) then (1002, 1002, op, sum, d, begun, last, left)
   else bif o == 0 then bif op == 0 then (1002, 1002, op, sum, d, begun, last, left)
     else bif decide (lim < n) then (1009, 1009, op, sum, d, begun, last, left)
      else bif decide (IntKind.i64.wrap (lim - n) < sum) then (1009, 1009, op, sum, d, begun, last, left)
       else bif o != 0 then (0, bad, o, IntKind.i64.wrap (sum + n), { data := #[] }, true, l, n)
        else (0, bad, op, IntKind.i64.wrap (sum + n), d, true, l, n)
    else bif o == 1 then bif op != 0 then (1002, 1002, op, sum, d, begun, last, left)
      else bif decide (lim < n) then (1009, 1009, op, sum, d, begun, last, left)
       else bif decide (IntKind.i64.wrap (lim - n) < sum) then (1009, 1009, op, sum, d, begun, last, left)
        else bif o != 0 then (0, bad, o, IntKind.i64.wrap (sum + n), { data := #[] }, true, l, n)
         else (0, bad, op, IntKind.i64.wrap (sum + n), d, true, l, n)
     else bif o == 2 then bif op != 0 then (1002, 1002, op, sum, d, begun, last, left)
       else bif decide (lim < n) then (1009, 1009, op, sum, d, begun, last, left)
        else bif decide (IntKind.i64.wrap (lim - n) < sum) then (1009, 1009, op, sum, d, begun, last, left)
         else bif o != 0 then (0, bad, o, IntKind.i64.wrap (sum + n), { data := #[] }, true, l, n)
          else (0, bad, op, IntKind.i64.wrap (sum + n), d, true, l, n)
      else (1002, 1002, op, sum, d, begun, last, left)
def rbegin_S0 (lim bad : Int) (op sum : Int) (d : ByteArray) (begun last : Bool) (left : Int) (l : Bool) (o n : Int) : Prop :=
 True
theorem rbegin_ok0 (lim bad : Int) (op sum : Int) (d : ByteArray) (begun last : Bool) (left : Int) (l : Bool) (o n : Int) (hS : rbegin_S0 lim bad op sum d begun last left l o n) : rbegin_Q lim bad op sum d begun last left l o n (startC E 13 ([.pointer (some ⟨0, 0, none⟩), .bool l, .int .i64 o, .int .i64 n]) ([some (.cells [.int .i64 lim, .int .i64 bad, .int .i64 op, .int .i64 sum, .string d, .bool begun, .bool last, .int .i64 left] 31 none)])) (rbegin_t0 lim bad op sum d begun last left l o n) := by
 unfold rbegin_S0 at hS
 unfold rbegin_t0
 refine cond_intro (P := rbegin_Q lim bad op sum d begun last left l o n (startC E 13 ([.pointer (some ⟨0, 0, none⟩), .bool l, .int .i64 o, .int .i64 n]) ([some (.cells [.int .i64 lim, .int .i64 bad, .int .i64 op, .int .i64 sum, .string d, .bool begun, .bool last, .int .i64 left] 31 none)]))) _ (fun h0 => ?_) (fun h0 => ?_)
 ·skip
  exact ends_q noK_ok 2000 22 (bs 1 1) [0] [8] [0] (andI (dT h0) rfl)
 ·skip
  refine cond_intro (P := rbegin_Q lim bad op sum d begun last left l o n (startC E 13 ([.pointer (some ⟨0, 0, none⟩), .bool l, .int .i64 o, .int .i64 n]) ([some (.cells [.int .i64 lim, .int .i64 bad, .int .i64 op, .int .i64 sum, .string d, .bool begun, .bool last, .int .i64 left] 31 none)]))) _ (fun h1 => ?_) (fun h1 => ?_)
  ·skip
   exact ends_q noK_ok 2000 52 (bs 3 6) [0] [8] [0] (andI (dT h1) (andI (dF h0) rfl))
  ·skip
   refine cond_intro (P := rbegin_Q lim bad op sum d begun last left l o n (startC E 13 ([.pointer (some ⟨0, 0, none⟩), .bool l, .int .i64 o, .int .i64 n]) ([some (.cells [.int .i64 lim, .int .i64 bad, .int .i64 op, .int .i64 sum, .string d, .bool begun, .bool last, .int .i64 left] 31 none)]))) _ (fun h2 => ?_) (fun h2 => ?_)
   ·skip
    exact ends_q noK_ok 2000 52 (bs 3 4) [0] [8] [0] (andI (dT h2) (andI (dF h1) (andI (dF h0) rfl)))
   ·skip
    refine cond_intro (P := rbegin_Q lim bad op sum d begun last left l o n (startC E 13 ([.pointer (some ⟨0, 0, none⟩), .bool l, .int .i64 o, .int .i64 n]) ([some (.cells [.int .i64 lim, .int .i64 bad, .int .i64 op, .int .i64 sum, .string d, .bool begun, .bool last, .int .i64 left] 31 none)]))) _ (fun h3 => ?_) (fun h3 => ?_)
    ·skip
     refine cond_intro (P := rbegin_Q lim bad op sum d begun last left l o n (startC E 13 ([.pointer (some ⟨0, 0, none⟩), .bool l, .int .i64 o, .int .i64 n]) ([some (.cells [.int .i64 lim, .int .i64 bad, .int .i64 op, .int .i64 sum, .string d, .bool begun, .bool last, .int .i64 left] 31 none)]))) _ (fun h4 => ?_) (fun h4 => ?_)
     ·skip
      exact ends_q noK_ok 2000 74 (bs 5 24) [0] [8] [0] (andI (dT h4) (and4 (dT h3) (dF h2) (dF h1) (dF h0) rfl))
     ·skip
      refine cond_intro (P := rbegin_Q lim bad op sum d begun last left l o n (startC E 13 ([.pointer (some ⟨0, 0, none⟩), .bool l, .int .i64 o, .int .i64 n]) ([some (.cells [.int .i64 lim, .int .i64 bad, .int .i64 op, .int .i64 sum, .string d, .bool begun, .bool last, .int .i64 left] 31 none)]))) _ (fun h5 => ?_) (fun h5 => ?_)
      ·skip
       exact ends_q noK_ok 2000 80 (bs 7 104) [0] [8] [0] (andI (dT h5) (andI (dF h4) (and4 (dT h3) (dF h2) (dF h1) (dF h0) rfl)))
      ·skip
       refine cond_intro (P := rbegin_Q lim bad op sum d begun last left l o n (startC E 13 ([.pointer (some ⟨0, 0, none⟩), .bool l, .int .i64 o, .int .i64 n]) ([some (.cells [.int .i64 lim, .int .i64 bad, .int .i64 op, .int .i64 sum, .string d, .bool begun, .bool last, .int .i64 left] 31 none)]))) _ (fun h6 => ?_) (fun h6 => ?_)
       ·skip
        exact ends_q noK_ok 2000 80 (bs 7 72) [0] [8] [0] (andI (dT h6) (andI (dF h5) (andI (dF h4) (and4 (dT h3) (dF h2) (dF h1) (dF h0) rfl))))
       ·skip
        refine cond_intro (P := rbegin_Q lim bad op sum d begun last left l o n (startC E 13 ([.pointer (some ⟨0, 0, none⟩), .bool l, .int .i64 o, .int .i64 n]) ([some (.cells [.int .i64 lim, .int .i64 bad, .int .i64 op, .int .i64 sum, .string d, .bool begun, .bool last, .int .i64 left] 31 none)]))) _ (fun h7 => ?_) (fun h7 => ?_)
        ·skip
         exact ends_q noK_ok 2000 118 (bs 8 136) [0] [8] [0] (and8 (dT h7) (dF h6) (dF h5) (dF h4) (dT h3) (dF h2) (dF h1) (dF h0) rfl)
        ·skip
         exact ends_q noK_ok 2000 105 (bs 8 8) [0] [8] [0] (and8 (dF h7) (dF h6) (dF h5) (dF h4) (dT h3) (dF h2) (dF h1) (dF h0) rfl)
    ·skip
     refine cond_intro (P := rbegin_Q lim bad op sum d begun last left l o n (startC E 13 ([.pointer (some ⟨0, 0, none⟩), .bool l, .int .i64 o, .int .i64 n]) ([some (.cells [.int .i64 lim, .int .i64 bad, .int .i64 op, .int .i64 sum, .string d, .bool begun, .bool last, .int .i64 left] 31 none)]))) _ (fun h4 => ?_) (fun h4 => ?_)
     ·skip
      refine cond_intro (P := rbegin_Q lim bad op sum d begun last left l o n (startC E 13 ([.pointer (some ⟨0, 0, none⟩), .bool l, .int .i64 o, .int .i64 n]) ([some (.cells [.int .i64 lim, .int .i64 bad, .int .i64 op, .int .i64 sum, .string d, .bool begun, .bool last, .int .i64 left] 31 none)]))) _ (fun h6 => ?_) (fun h6 => ?_)
      ·skip
       exact ends_q noK_ok 2000 83 (bs 7 112) [0] [8] [0] (andI (dT h6) (andI (dT h4) (andI (dT h4) (and4 (dF h3) (dF h2) (dF h1) (dF h0) rfl))))
      ·skip
       refine cond_intro (P := rbegin_Q lim bad op sum d begun last left l o n (startC E 13 ([.pointer (some ⟨0, 0, none⟩), .bool l, .int .i64 o, .int .i64 n]) ([some (.cells [.int .i64 lim, .int .i64 bad, .int .i64 op, .int .i64 sum, .string d, .bool begun, .bool last, .int .i64 left] 31 none)]))) _ (fun h7 => ?_) (fun h7 => ?_)
       ·skip
        exact ends_q noK_ok 2000 89 (bs 9 432) [0] [8] [0] (and8 (dT h7) (dF h6) (dT h4) (dT h4) (dF h3) (dF h2) (dF h1) (dF h0) rfl)
       ·skip
        refine cond_intro (P := rbegin_Q lim bad op sum d begun last left l o n (startC E 13 ([.pointer (some ⟨0, 0, none⟩), .bool l, .int .i64 o, .int .i64 n]) ([some (.cells [.int .i64 lim, .int .i64 bad, .int .i64 op, .int .i64 sum, .string d, .bool begun, .bool last, .int .i64 left] 31 none)]))) _ (fun h8 => ?_) (fun h8 => ?_)
        ·skip
         exact ends_q noK_ok 2000 89 (bs 9 304) [0] [8] [0] (and8 (dT h8) (dF h7) (dF h6) (dT h4) (dT h4) (dF h3) (dF h2) (dF h1) (andI (dF h0) rfl))
        ·skip
         refine cond_intro (P := rbegin_Q lim bad op sum d begun last left l o n (startC E 13 ([.pointer (some ⟨0, 0, none⟩), .bool l, .int .i64 o, .int .i64 n]) ([some (.cells [.int .i64 lim, .int .i64 bad, .int .i64 op, .int .i64 sum, .string d, .bool begun, .bool last, .int .i64 left] 31 none)]))) _ (fun h9 => ?_) (fun h9 => ?_)
         ·skip
          exact ends_q noK_ok 2000 127 (bs 10 560) [0] [8] [0] (and8 (dT h9) (dF h8) (dF h7) (dF h6) (dT h4) (dT h4) (dF h3) (dF h2) (andI (dF h1) (andI (dF h0) rfl)))
         ·skip
          exact ends_q noK_ok 2000 114 (bs 10 48) [0] [8] [0] (and8 (dF h9) (dF h8) (dF h7) (dF h6) (dT h4) (dT h4) (dF h3) (dF h2) (andI (dF h1) (andI (dF h0) rfl)))
     ·skip
      refine cond_intro (P := rbegin_Q lim bad op sum d begun last left l o n (startC E 13 ([.pointer (some ⟨0, 0, none⟩), .bool l, .int .i64 o, .int .i64 n]) ([some (.cells [.int .i64 lim, .int .i64 bad, .int .i64 op, .int .i64 sum, .string d, .bool begun, .bool last, .int .i64 left] 31 none)]))) _ (fun h5 => ?_) (fun h5 => ?_)
      ·skip
       refine cond_intro (P := rbegin_Q lim bad op sum d begun last left l o n (startC E 13 ([.pointer (some ⟨0, 0, none⟩), .bool l, .int .i64 o, .int .i64 n]) ([some (.cells [.int .i64 lim, .int .i64 bad, .int .i64 op, .int .i64 sum, .string d, .bool begun, .bool last, .int .i64 left] 31 none)]))) _ (fun h6 => ?_) (fun h6 => ?_)
       ·skip
        exact ends_q noK_ok 2000 86 (bs 7 96) [0] [8] [0] (andI (dT h6) (andI (dT h5) (andI (dF h4) (and4 (dF h3) (dF h2) (dF h1) (dF h0) rfl))))
       ·skip
        refine cond_intro (P := rbegin_Q lim bad op sum d begun last left l o n (startC E 13 ([.pointer (some ⟨0, 0, none⟩), .bool l, .int .i64 o, .int .i64 n]) ([some (.cells [.int .i64 lim, .int .i64 bad, .int .i64 op, .int .i64 sum, .string d, .bool begun, .bool last, .int .i64 left] 31 none)]))) _ (fun h7 => ?_) (fun h7 => ?_)
        ·skip
         exact ends_q noK_ok 2000 92 (bs 9 416) [0] [8] [0] (and8 (dT h7) (dF h6) (dT h5) (dF h4) (dF h3) (dF h2) (dF h1) (dF h0) rfl)
        ·skip
         refine cond_intro (P := rbegin_Q lim bad op sum d begun last left l o n (startC E 13 ([.pointer (some ⟨0, 0, none⟩), .bool l, .int .i64 o, .int .i64 n]) ([some (.cells [.int .i64 lim, .int .i64 bad, .int .i64 op, .int .i64 sum, .string d, .bool begun, .bool last, .int .i64 left] 31 none)]))) _ (fun h8 => ?_) (fun h8 => ?_)
         ·skip
          exact ends_q noK_ok 2000 92 (bs 9 288) [0] [8] [0] (and8 (dT h8) (dF h7) (dF h6) (dT h5) (dF h4) (dF h3) (dF h2) (dF h1) (andI (dF h0) rfl))
         ·skip
          refine cond_intro (P := rbegin_Q lim bad op sum d begun last left l o n (startC E 13 ([.pointer (some ⟨0, 0, none⟩), .bool l, .int .i64 o, .int .i64 n]) ([some (.cells [.int .i64 lim, .int .i64 bad, .int .i64 op, .int .i64 sum, .string d, .bool begun, .bool last, .int .i64 left] 31 none)]))) _ (fun h9 => ?_) (fun h9 => ?_)
          ·skip
           exact ends_q noK_ok 2000 130 (bs 10 544) [0] [8] [0] (and8 (dT h9) (dF h8) (dF h7) (dF h6) (dT h5) (dF h4) (dF h3) (dF h2) (andI (dF h1) (andI (dF h0) rfl)))
          ·skip
           exact ends_q noK_ok 2000 117 (bs 10 32) [0] [8] [0] (and8 (dF h9) (dF h8) (dF h7) (dF h6) (dT h5) (dF h4) (dF h3) (dF h2) (andI (dF h1) (andI (dF h0) rfl)))
      ·skip
       exact ends_q noK_ok 2000 77 (bs 6 0) [0] [8] [0] (andI (dF h5) (andI (dF h4) (and4 (dF h3) (dF h2) (dF h1) (dF h0) rfl)))
theorem rbegin_call (lim bad : Int) (op sum : Int) (d : ByteArray) (begun last : Bool) (left : Int) (l : Bool) (o n : Int) (hS : rbegin_S0 lim bad op sum d begun last left l o n) : CallOk E 13 ([.pointer (some ⟨0, 0, none⟩), .bool l, .int .i64 o, .int .i64 n]) ([some (.cells [.int .i64 lim, .int .i64 bad, .int .i64 op, .int .i64 sum, .string d, .bool begun, .bool last, .int .i64 left] 31 none)]) (rbegin_V lim bad op sum d begun last left l o n (rbegin_t0 lim bad op sum d begun last left l o n)) (rbegin_H lim bad op sum d begun last left l o n (rbegin_t0 lim bad op sum d begun last left l o n)) := callOk_of_ends (rbegin_ok0 lim bad op sum d begun last left l o n hS) (by kernel_rfl) (Nat.le_of_ble_eq_true (by kernel_rfl))
def rbegin_ex (a : List Value) (h : Heap) : Int × Int × Int × Int × ByteArray × Bool × Bool × Int × Bool × Int × Int := ((toInt ((cellsOf h 0).getD 0 undef)), (toInt ((cellsOf h 0).getD 1 undef)), (toInt ((cellsOf h 0).getD 2 undef)), (toInt ((cellsOf h 0).getD 3 undef)), (toStr ((cellsOf h 0).getD 4 undef)), (toBool ((cellsOf h 0).getD 5 undef)), (toBool ((cellsOf h 0).getD 6 undef)), (toInt ((cellsOf h 0).getD 7 undef)), (toBool (a.getD 1 undef)), (toInt (a.getD 2 undef)), (toInt (a.getD 3 undef)))
noncomputable def rbegin_k : Ct := kP rbegin_ex (fun (a0, a1, a2, a3, a4, a5, a6, a7, a8, a9, a10) => [.pointer (some ⟨0, 0, none⟩), .bool a8, .int .i64 a9, .int .i64 a10]) (fun (a0, a1, a2, a3, a4, a5, a6, a7, a8, a9, a10) => [some (.cells [.int .i64 a0, .int .i64 a1, .int .i64 a2, .int .i64 a3, .string a4, .bool a5, .bool a6, .int .i64 a7] 31 none)]) (fun (a0, a1, a2, a3, a4, a5, a6, a7, a8, a9, a10) => rbegin_S0 a0 a1 a2 a3 a4 a5 a6 a7 a8 a9 a10) (fun (a0, a1, a2, a3, a4, a5, a6, a7, a8, a9, a10) => rbegin_V a0 a1 a2 a3 a4 a5 a6 a7 a8 a9 a10 (rbegin_t0 a0 a1 a2 a3 a4 a5 a6 a7 a8 a9 a10)) (fun (a0, a1, a2, a3, a4, a5, a6, a7, a8, a9, a10) => rbegin_H a0 a1 a2 a3 a4 a5 a6 a7 a8 a9 a10 (rbegin_t0 a0 a1 a2 a3 a4 a5 a6 a7 a8 a9 a10))
theorem rbegin_k_ok : KFor E 13 rbegin_k := kP_ok (fun (a0, a1, a2, a3, a4, a5, a6, a7, a8, a9, a10) hx => rbegin_call a0 a1 a2 a3 a4 a5 a6 a7 a8 a9 a10 hx)


abbrev rpiece_R : Type := Int × Int × ByteArray × Int
def rpiece_V (lim bad : Int) (op sum : Int) (d : ByteArray) (begun last : Bool) (left : Int) (s : ByteArray) (r : Int × Int × ByteArray × Int) : Value := .int .i64 r.1
def rpiece_H (lim bad : Int) (op sum : Int) (d : ByteArray) (begun last : Bool) (left : Int) (s : ByteArray) (r : Int × Int × ByteArray × Int) : Heap := [some (.cells [.int .i64 lim, .int .i64 r.2.1, .int .i64 op, .int .i64 sum, .string r.2.2.1, .bool begun, .bool last, .int .i64 r.2.2.2] 31 none)]
noncomputable def rpiece_Q (lim bad : Int) (op sum : Int) (d : ByteArray) (begun last : Bool) (left : Int) (s : ByteArray) (C : Cfg) (r : rpiece_R) : Prop :=
 let p := r
 AEnds E 15 1 C (rpiece_V lim bad op sum d begun last left s p) (rpiece_H lim bad op sum d begun last left s p)
noncomputable def rpiece_t0 (lim bad : Int) (op sum : Int) (d : ByteArray) (begun last : Bool) (left : Int) (s : ByteArray) : rpiece_R :=
 bif bad != 0 then (bad, bad, d, left)
 else bif !begun then (1002, 1002, d, left)
  else bif decide (left < ((slen s) : Int)) then (1002, 1002, d, left)
   else bif op == 1 then bif (feedL (0, 0, 0, 0) 0 false (toL (cat d s))).2.2 then (1007, 1007, d, left)
     else (0, bad, cat d s, IntKind.i64.wrap (left - ((slen s) : Int)))
    else (0, bad, cat d s, IntKind.i64.wrap (left - ((slen s) : Int)))
def rpiece_S0 (lim bad : Int) (op sum : Int) (d : ByteArray) (begun last : Bool) (left : Int) (s : ByteArray) : Prop :=
 ((bad != 0) = true → True) ∧
 ((bad != 0) = false → ((!begun) = true → True) ∧
  ((!begun) = false → ((decide (left < ((slen s) : Int))) = true → True) ∧
   ((decide (left < ((slen s) : Int))) = false → ((op == 1) = true → (((feedL (0, 0, 0, 0) 0 false (toL (cat d s))).2.2) = true → (reads_pre (cat d s)) ∧ (slen d + slen s ≤ 9223372036854775807)) ∧
     (((feedL (0, 0, 0, 0) 0 false (toL (cat d s))).2.2) = false → (slen d + slen s ≤ 9223372036854775807) ∧ (reads_pre (cat d s)))) ∧
    ((op == 1) = false → (slen d + slen s ≤ 9223372036854775807) ∧ (reads_pre (cat d s))))))
theorem rpiece_ok0 (lim bad : Int) (op sum : Int) (d : ByteArray) (begun last : Bool) (left : Int) (s : ByteArray) (hS : rpiece_S0 lim bad op sum d begun last left s) : rpiece_Q lim bad op sum d begun last left s (startC E 15 ([.pointer (some ⟨0, 0, none⟩), .string s]) ([some (.cells [.int .i64 lim, .int .i64 bad, .int .i64 op, .int .i64 sum, .string d, .bool begun, .bool last, .int .i64 left] 31 none)])) (rpiece_t0 lim bad op sum d begun last left s) := by
 unfold rpiece_S0 at hS
 unfold rpiece_t0
 refine cond_intro (P := rpiece_Q lim bad op sum d begun last left s (startC E 15 ([.pointer (some ⟨0, 0, none⟩), .string s]) ([some (.cells [.int .i64 lim, .int .i64 bad, .int .i64 op, .int .i64 sum, .string d, .bool begun, .bool last, .int .i64 left] 31 none)]))) _ (fun h0 => ?_) (fun h0 => ?_)
 ·skip
  exact ends_q KA_ok 2000 22 (bs 1 1) [0] [4] [0] (andI (dT h0) rfl)
 ·skip
  refine cond_intro (P := rpiece_Q lim bad op sum d begun last left s (startC E 15 ([.pointer (some ⟨0, 0, none⟩), .string s]) ([some (.cells [.int .i64 lim, .int .i64 bad, .int .i64 op, .int .i64 sum, .string d, .bool begun, .bool last, .int .i64 left] 31 none)]))) _ (fun h1 => ?_) (fun h1 => ?_)
  ·skip
   exact ends_q KA_ok 2000 58 (bs 3 6) [0] [4] [0] (andI (dT h1) (andI (dF h0) rfl))
  ·skip
   refine cond_intro (P := rpiece_Q lim bad op sum d begun last left s (startC E 15 ([.pointer (some ⟨0, 0, none⟩), .string s]) ([some (.cells [.int .i64 lim, .int .i64 bad, .int .i64 op, .int .i64 sum, .string d, .bool begun, .bool last, .int .i64 left] 31 none)]))) _ (fun h2 => ?_) (fun h2 => ?_)
   ·skip
    exact ends_q KA_ok 2000 58 (bs 3 4) [0] [4] [0] (andI (dT h2) (andI (dF h1) (andI (dF h0) rfl)))
   ·skip
    refine cond_intro (P := rpiece_Q lim bad op sum d begun last left s (startC E 15 ([.pointer (some ⟨0, 0, none⟩), .string s]) ([some (.cells [.int .i64 lim, .int .i64 bad, .int .i64 op, .int .i64 sum, .string d, .bool begun, .bool last, .int .i64 left] 31 none)]))) _ (fun h3 => ?_) (fun h3 => ?_)
    ·skip
     refine cond_intro (P := rpiece_Q lim bad op sum d begun last left s (startC E 15 ([.pointer (some ⟨0, 0, none⟩), .string s]) ([some (.cells [.int .i64 lim, .int .i64 bad, .int .i64 op, .int .i64 sum, .string d, .bool begun, .bool last, .int .i64 left] 31 none)]))) _ (fun h4 => ?_) (fun h4 => ?_)
     ·skip
      have z0 := ((((hS.2 h0).2 h1).2 h2).1 h3).1 h4; exact ends_q KA_ok 2000 89 (bs 5 24) [0] [4] [0] (and8 (dT h4) (dT h3) (eqA_self [.string (cat d s)]) (eqH_self []) (pdec_iff.2 z0.1) (decide_eq_true z0.2) (dF h2) (dF h1) (andI (dF h0) rfl))
     ·skip
      have z0 := ((((hS.2 h0).2 h1).2 h2).1 h3).2 h4; exact ends_q KA_ok 2000 97 (bs 5 8) [0] [4] [0] (and8 (decide_eq_true z0.1) (dF h4) (dT h3) (eqA_self [.string (cat d s)]) (eqH_self []) (pdec_iff.2 z0.2) (decide_eq_true z0.1) (dF h2) (andI (dF h1) (andI (dF h0) rfl)))
    ·skip
     have z0 := (((hS.2 h0).2 h1).2 h2).2 h3; exact ends_q KA_ok 2000 97 (bs 5 0) [0] [4] [0] (and8 (decide_eq_true z0.1) (dF h3) (eqA_self [.string (cat d s)]) (eqH_self []) (pdec_iff.2 z0.2) (decide_eq_true z0.1) (dF h2) (dF h1) (andI (dF h0) rfl))
theorem rpiece_call (lim bad : Int) (op sum : Int) (d : ByteArray) (begun last : Bool) (left : Int) (s : ByteArray) (hS : rpiece_S0 lim bad op sum d begun last left s) : CallOk E 15 ([.pointer (some ⟨0, 0, none⟩), .string s]) ([some (.cells [.int .i64 lim, .int .i64 bad, .int .i64 op, .int .i64 sum, .string d, .bool begun, .bool last, .int .i64 left] 31 none)]) (rpiece_V lim bad op sum d begun last left s (rpiece_t0 lim bad op sum d begun last left s)) (rpiece_H lim bad op sum d begun last left s (rpiece_t0 lim bad op sum d begun last left s)) := callOk_of_ends (rpiece_ok0 lim bad op sum d begun last left s hS) (by kernel_rfl) (Nat.le_of_ble_eq_true (by kernel_rfl))
def rpiece_ex (a : List Value) (h : Heap) : Int × Int × Int × Int × ByteArray × Bool × Bool × Int × ByteArray := ((toInt ((cellsOf h 0).getD 0 undef)), (toInt ((cellsOf h 0).getD 1 undef)), (toInt ((cellsOf h 0).getD 2 undef)), (toInt ((cellsOf h 0).getD 3 undef)), (toStr ((cellsOf h 0).getD 4 undef)), (toBool ((cellsOf h 0).getD 5 undef)), (toBool ((cellsOf h 0).getD 6 undef)), (toInt ((cellsOf h 0).getD 7 undef)), (toStr (a.getD 1 undef)))
noncomputable def rpiece_k : Ct := kP rpiece_ex (fun (a0, a1, a2, a3, a4, a5, a6, a7, a8) => [.pointer (some ⟨0, 0, none⟩), .string a8]) (fun (a0, a1, a2, a3, a4, a5, a6, a7, a8) => [some (.cells [.int .i64 a0, .int .i64 a1, .int .i64 a2, .int .i64 a3, .string a4, .bool a5, .bool a6, .int .i64 a7] 31 none)]) (fun (a0, a1, a2, a3, a4, a5, a6, a7, a8) => rpiece_S0 a0 a1 a2 a3 a4 a5 a6 a7 a8) (fun (a0, a1, a2, a3, a4, a5, a6, a7, a8) => rpiece_V a0 a1 a2 a3 a4 a5 a6 a7 a8 (rpiece_t0 a0 a1 a2 a3 a4 a5 a6 a7 a8)) (fun (a0, a1, a2, a3, a4, a5, a6, a7, a8) => rpiece_H a0 a1 a2 a3 a4 a5 a6 a7 a8 (rpiece_t0 a0 a1 a2 a3 a4 a5 a6 a7 a8))
theorem rpiece_k_ok : KFor E 15 rpiece_k := kP_ok (fun (a0, a1, a2, a3, a4, a5, a6, a7, a8) hx => rpiece_call a0 a1 a2 a3 a4 a5 a6 a7 a8 hx)


abbrev rend_R : Type := Int × ByteArray × Bool × Int × Int × Int × Int × ByteArray × Bool
def rend_V (lim bad : Int) (op sum : Int) (d : ByteArray) (begun last : Bool) (left : Int) (r : Int × ByteArray × Bool × Int × Int × Int × Int × ByteArray × Bool) : Value := .tuple #[.agg #[.int .i64 r.1, .string r.2.1], .bool r.2.2.1, .int .i64 r.2.2.2.1]
def rend_H (lim bad : Int) (op sum : Int) (d : ByteArray) (begun last : Bool) (left : Int) (r : Int × ByteArray × Bool × Int × Int × Int × Int × ByteArray × Bool) : Heap := [some (.cells [.int .i64 lim, .int .i64 r.2.2.2.2.1, .int .i64 r.2.2.2.2.2.1, .int .i64 r.2.2.2.2.2.2.1, .string r.2.2.2.2.2.2.2.1, .bool r.2.2.2.2.2.2.2.2, .bool last, .int .i64 left] 31 none)]
noncomputable def rend_Q (lim bad : Int) (op sum : Int) (d : ByteArray) (begun last : Bool) (left : Int) (C : Cfg) (r : rend_R) : Prop :=
 let p := r
 AEnds E 17 1 C (rend_V lim bad op sum d begun last left p) (rend_H lim bad op sum d begun last left p)
noncomputable def rend_t0 (lim bad : Int) (op sum : Int) (d : ByteArray) (begun last : Bool) (left : Int) : rend_R :=
 bif bad != 0 then (0, { data := #[] }, false, bad, bad, op, sum, d, begun)
 else bif !begun then (0, { data := #[] }, false, 1002, 1002, op, sum, d, begun)
  else bif decide (0 < left) then (0, { data := #[] }, false, 1002, 1002, op, sum, d, begun)
   else bif !last then (0, { data := #[] }, false, 0, bad, op, sum, d, false)
    else bif op == 1 then bif !(!(feedL (0, 0, 0, 0) 0 false (toL d)).2.2 && (feedL (0, 0, 0, 0) 0 false (toL d)).1.1 == 0) then (0, { data := #[] }, false, 1007, 1007, op, sum, d, begun)
      else (op, d, true, 0, bad, 0, 0, { data := #[] }, false)
     else (op, d, true, 0, bad, 0, 0, { data := #[] }, false)
def rend_S0 (lim bad : Int) (op sum : Int) (d : ByteArray) (begun last : Bool) (left : Int) : Prop :=
 ((bad != 0) = true → True) ∧
 ((bad != 0) = false → ((!begun) = true → True) ∧
  ((!begun) = false → ((decide (0 < left)) = true → True) ∧
   ((decide (0 < left)) = false → ((!last) = true → True) ∧
    ((!last) = false → ((op == 1) = true → ((!(!(feedL (0, 0, 0, 0) 0 false (toL d)).2.2 && (feedL (0, 0, 0, 0) 0 false (toL d)).1.1 == 0)) = true → reads_pre d) ∧
      ((!(!(feedL (0, 0, 0, 0) 0 false (toL d)).2.2 && (feedL (0, 0, 0, 0) 0 false (toL d)).1.1 == 0)) = false → ((toL d == toL d) = true) ∧ (reads_pre d))) ∧
     ((op == 1) = false → ((toL d == toL d) = true) ∧ (reads_pre d))))))
theorem rend_ok0 (lim bad : Int) (op sum : Int) (d : ByteArray) (begun last : Bool) (left : Int) (hS : rend_S0 lim bad op sum d begun last left) : rend_Q lim bad op sum d begun last left (startC E 17 ([.pointer (some ⟨0, 0, none⟩)]) ([some (.cells [.int .i64 lim, .int .i64 bad, .int .i64 op, .int .i64 sum, .string d, .bool begun, .bool last, .int .i64 left] 31 none)])) (rend_t0 lim bad op sum d begun last left) := by
 unfold rend_S0 at hS
 unfold rend_t0
 refine cond_intro (P := rend_Q lim bad op sum d begun last left (startC E 17 ([.pointer (some ⟨0, 0, none⟩)]) ([some (.cells [.int .i64 lim, .int .i64 bad, .int .i64 op, .int .i64 sum, .string d, .bool begun, .bool last, .int .i64 left] 31 none)]))) _ (fun h0 => ?_) (fun h0 => ?_)
 ·skip
  exact ends_q KA_ok 2000 18 (bs 1 1) [0, 1] [2, 3, 4] [0] (andI (beq_self_eq_true (bad)) (andI (dT h0) rfl))
 ·skip
  refine cond_intro (P := rend_Q lim bad op sum d begun last left (startC E 17 ([.pointer (some ⟨0, 0, none⟩)]) ([some (.cells [.int .i64 lim, .int .i64 bad, .int .i64 op, .int .i64 sum, .string d, .bool begun, .bool last, .int .i64 left] 31 none)]))) _ (fun h1 => ?_) (fun h1 => ?_)
  ·skip
   exact ends_q KA_ok 2000 61 (bs 3 6) [0, 1] [2, 3, 4] [0] (andI (dT h1) (andI (dF h0) rfl))
  ·skip
   refine cond_intro (P := rend_Q lim bad op sum d begun last left (startC E 17 ([.pointer (some ⟨0, 0, none⟩)]) ([some (.cells [.int .i64 lim, .int .i64 bad, .int .i64 op, .int .i64 sum, .string d, .bool begun, .bool last, .int .i64 left] 31 none)]))) _ (fun h2 => ?_) (fun h2 => ?_)
   ·skip
    exact ends_q KA_ok 2000 61 (bs 3 4) [0, 1] [2, 3, 4] [0] (andI (dT h2) (andI (dF h1) (andI (dF h0) rfl)))
   ·skip
    refine cond_intro (P := rend_Q lim bad op sum d begun last left (startC E 17 ([.pointer (some ⟨0, 0, none⟩)]) ([some (.cells [.int .i64 lim, .int .i64 bad, .int .i64 op, .int .i64 sum, .string d, .bool begun, .bool last, .int .i64 left] 31 none)]))) _ (fun h3 => ?_) (fun h3 => ?_)
    ·skip
     exact ends_q KA_ok 2000 59 (bs 4 8) [0, 1] [2, 3, 4] [0] (and4 (dT h3) (dF h2) (dF h1) (dF h0) rfl)
    ·skip
     refine cond_intro (P := rend_Q lim bad op sum d begun last left (startC E 17 ([.pointer (some ⟨0, 0, none⟩)]) ([some (.cells [.int .i64 lim, .int .i64 bad, .int .i64 op, .int .i64 sum, .string d, .bool begun, .bool last, .int .i64 left] 31 none)]))) _ (fun h4 => ?_) (fun h4 => ?_)
     ·skip
      refine cond_intro (P := rend_Q lim bad op sum d begun last left (startC E 17 ([.pointer (some ⟨0, 0, none⟩)]) ([some (.cells [.int .i64 lim, .int .i64 bad, .int .i64 op, .int .i64 sum, .string d, .bool begun, .bool last, .int .i64 left] 31 none)]))) _ (fun h5 => ?_) (fun h5 => ?_)
      ·skip
       exact ends_q KA_ok 2000 102 (bs 6 48) [0, 1] [2, 3, 4] [0] (and8 (dT h5) (dT h4) (eqA_self [.string d]) (eqH_self []) (pdec_iff.2 ((((((hS.2 h0).2 h1).2 h2).2 h3).1 h4).1 h5)) (dF h3) (dF h2) (dF h1) (andI (dF h0) rfl))
      ·skip
       have z0 := (((((hS.2 h0).2 h1).2 h2).2 h3).1 h4).2 h5; exact ends_q KA_ok 2000 113 (bs 6 16) [0, 1] [2, 3, 4] [0] (and8 (beq_self_eq_true (op)) (z0.1) (beq_self_eq_true (op)) (z0.1) (dF h5) (dT h4) (eqA_self [.string d]) (eqH_self []) (andI (pdec_iff.2 z0.2) (and4 (dF h3) (dF h2) (dF h1) (dF h0) rfl)))
     ·skip
      have z0 := ((((hS.2 h0).2 h1).2 h2).2 h3).2 h4; exact ends_q KA_ok 2000 113 (bs 6 0) [0, 1] [2, 3, 4] [0] (and8 (beq_self_eq_true (op)) (z0.1) (beq_self_eq_true (op)) (z0.1) (dF h4) (eqA_self [.string d]) (eqH_self []) (pdec_iff.2 z0.2) (and4 (dF h3) (dF h2) (dF h1) (dF h0) rfl))
theorem rend_call (lim bad : Int) (op sum : Int) (d : ByteArray) (begun last : Bool) (left : Int) (hS : rend_S0 lim bad op sum d begun last left) : CallOk E 17 ([.pointer (some ⟨0, 0, none⟩)]) ([some (.cells [.int .i64 lim, .int .i64 bad, .int .i64 op, .int .i64 sum, .string d, .bool begun, .bool last, .int .i64 left] 31 none)]) (rend_V lim bad op sum d begun last left (rend_t0 lim bad op sum d begun last left)) (rend_H lim bad op sum d begun last left (rend_t0 lim bad op sum d begun last left)) := callOk_of_ends (rend_ok0 lim bad op sum d begun last left hS) (by kernel_rfl) (Nat.le_of_ble_eq_true (by kernel_rfl))
def rend_ex (a : List Value) (h : Heap) : Int × Int × Int × Int × ByteArray × Bool × Bool × Int := ((toInt ((cellsOf h 0).getD 0 undef)), (toInt ((cellsOf h 0).getD 1 undef)), (toInt ((cellsOf h 0).getD 2 undef)), (toInt ((cellsOf h 0).getD 3 undef)), (toStr ((cellsOf h 0).getD 4 undef)), (toBool ((cellsOf h 0).getD 5 undef)), (toBool ((cellsOf h 0).getD 6 undef)), (toInt ((cellsOf h 0).getD 7 undef)))
noncomputable def rend_k : Ct := kP rend_ex (fun (a0, a1, a2, a3, a4, a5, a6, a7) => [.pointer (some ⟨0, 0, none⟩)]) (fun (a0, a1, a2, a3, a4, a5, a6, a7) => [some (.cells [.int .i64 a0, .int .i64 a1, .int .i64 a2, .int .i64 a3, .string a4, .bool a5, .bool a6, .int .i64 a7] 31 none)]) (fun (a0, a1, a2, a3, a4, a5, a6, a7) => rend_S0 a0 a1 a2 a3 a4 a5 a6 a7) (fun (a0, a1, a2, a3, a4, a5, a6, a7) => rend_V a0 a1 a2 a3 a4 a5 a6 a7 (rend_t0 a0 a1 a2 a3 a4 a5 a6 a7)) (fun (a0, a1, a2, a3, a4, a5, a6, a7) => rend_H a0 a1 a2 a3 a4 a5 a6 a7 (rend_t0 a0 a1 a2 a3 a4 a5 a6 a7))
theorem rend_k_ok : KFor E 17 rend_k := kP_ok (fun (a0, a1, a2, a3, a4, a5, a6, a7) hx => rend_call a0 a1 a2 a3 a4 a5 a6 a7 hx)


end Go.Proofs.Ytgaedhpeiamdfaa
