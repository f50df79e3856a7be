/-
  Heads and frames as plain functions: the program's and the document's.
-/
import Derived.Test.YtfpnjpbdaniomaaAmSlim
import Derived.Test.YtfpnjpbdaniomaaFrameB20
set_option linter.unusedVariables false
set_option linter.unusedSimpArgs false
open Go Go.Am
namespace Go.Proofs.Ytfpnjpbdaniomaa

noncomputable def KC : Ctr := ctrOf E [(78, anyA, big_k)]
theorem KC_ok : KOk E KC := ctr_cons big_k_ok ctr_nil

abbrev head_R : Type := Bool × Int × Int × Bool × Int × Int × Int × Int × Int × Bool × Int × Bool
def head_V (s : ByteArray) (r : Bool × Int × Int × Bool × Int × Int × Int × Int × Int × Bool × Int × Bool) : Value := .tuple #[.agg #[.bool r.1, .int .i64 r.2.1, .int .i64 r.2.2.1, .bool r.2.2.2.1, .int .u8 r.2.2.2.2.1, .int .u8 r.2.2.2.2.2.1, .int .u8 r.2.2.2.2.2.2.1, .int .u8 r.2.2.2.2.2.2.2.1, .int .u64 r.2.2.2.2.2.2.2.2.1, .bool r.2.2.2.2.2.2.2.2.2.1], .int .i64 r.2.2.2.2.2.2.2.2.2.2.1, .bool r.2.2.2.2.2.2.2.2.2.2.2]
def head_H (s : ByteArray) (r : Bool × Int × Int × Bool × Int × Int × Int × Int × Int × Bool × Int × Bool) : Heap := []
noncomputable def head_Q (s : ByteArray) (C : Cfg) (r : head_R) : Prop :=
 let p := r
 AEnds E 73 0 C (head_V s p) (head_H s p)
noncomputable def head_t0 (s : ByteArray) : head_R :=
 bif decide (((slen s) : Int) < 2) then (false, 0, 0, false, 0, 0, 0, 0, 0, false, 0, false)
 else bif IntKind.i64.wrap (iandn IntKind.u8 (chr s 1) 128) == 126 then bif decide (128 ≤ chr s 1) then bif decide (((slen s) : Int) < 8) then (false, 0, 0, false, 0, 0, 0, 0, 0, false, 0, false)
    else bif decide (bigN 0 (toL (sub s 2 4)) ≤ 125) then (decide (128 ≤ chr s 0), iand IntKind.i64 (IntKind.i64.wrap (ishr IntKind.u8 (chr s 0) 4)) 7, IntKind.i64.wrap (iand IntKind.u8 (chr s 0) 15), decide (128 ≤ chr s 1), bif decide (0 < min (slen (sub s 4 8)) 4) then toInt ((List.take (min (slen (sub s 4 8)) 4) (ofBytes (sub s 4 8))).getD 0 undef) else 0, bif decide (1 < min (slen (sub s 4 8)) 4) then toInt ((List.take (min (slen (sub s 4 8)) 4) (ofBytes (sub s 4 8))).getD 1 undef) else 0, bif decide (2 < min (slen (sub s 4 8)) 4) then toInt ((List.take (min (slen (sub s 4 8)) 4) (ofBytes (sub s 4 8))).getD 2 undef) else 0, bif decide (3 < min (slen (sub s 4 8)) 4) then toInt ((List.take (min (slen (sub s 4 8)) 4) (ofBytes (sub s 4 8))).getD 3 undef) else 0, bigN 0 (toL (sub s 2 4)), false, 8, true)
     else bif decide (bigN 0 (toL (sub s 2 4)) ≤ 65535) then (decide (128 ≤ chr s 0), iand IntKind.i64 (IntKind.i64.wrap (ishr IntKind.u8 (chr s 0) 4)) 7, IntKind.i64.wrap (iand IntKind.u8 (chr s 0) 15), decide (128 ≤ chr s 1), bif decide (0 < min (slen (sub s 4 8)) 4) then toInt ((List.take (min (slen (sub s 4 8)) 4) (ofBytes (sub s 4 8))).getD 0 undef) else 0, bif decide (1 < min (slen (sub s 4 8)) 4) then toInt ((List.take (min (slen (sub s 4 8)) 4) (ofBytes (sub s 4 8))).getD 1 undef) else 0, bif decide (2 < min (slen (sub s 4 8)) 4) then toInt ((List.take (min (slen (sub s 4 8)) 4) (ofBytes (sub s 4 8))).getD 2 undef) else 0, bif decide (3 < min (slen (sub s 4 8)) 4) then toInt ((List.take (min (slen (sub s 4 8)) 4) (ofBytes (sub s 4 8))).getD 3 undef) else 0, bigN 0 (toL (sub s 2 4)), true, 8, true)
      else (decide (128 ≤ chr s 0), iand IntKind.i64 (IntKind.i64.wrap (ishr IntKind.u8 (chr s 0) 4)) 7, IntKind.i64.wrap (iand IntKind.u8 (chr s 0) 15), decide (128 ≤ chr s 1), bif decide (0 < min (slen (sub s 4 8)) 4) then toInt ((List.take (min (slen (sub s 4 8)) 4) (ofBytes (sub s 4 8))).getD 0 undef) else 0, bif decide (1 < min (slen (sub s 4 8)) 4) then toInt ((List.take (min (slen (sub s 4 8)) 4) (ofBytes (sub s 4 8))).getD 1 undef) else 0, bif decide (2 < min (slen (sub s 4 8)) 4) then toInt ((List.take (min (slen (sub s 4 8)) 4) (ofBytes (sub s 4 8))).getD 2 undef) else 0, bif decide (3 < min (slen (sub s 4 8)) 4) then toInt ((List.take (min (slen (sub s 4 8)) 4) (ofBytes (sub s 4 8))).getD 3 undef) else 0, bigN 0 (toL (sub s 2 4)), false, 8, true)
   else bif decide (((slen s) : Int) < 4) then (false, 0, 0, false, 0, 0, 0, 0, 0, false, 0, false)
    else bif decide (bigN 0 (toL (sub s 2 4)) ≤ 125) then (decide (128 ≤ chr s 0), iand IntKind.i64 (IntKind.i64.wrap (ishr IntKind.u8 (chr s 0) 4)) 7, IntKind.i64.wrap (iand IntKind.u8 (chr s 0) 15), decide (128 ≤ chr s 1), bif decide (0 < min (slen (sub s 4 4)) 4) then 0 else 0, bif decide (1 < min (slen (sub s 4 4)) 4) then 0 else 0, bif decide (2 < min (slen (sub s 4 4)) 4) then 0 else 0, bif decide (3 < min (slen (sub s 4 4)) 4) then 0 else 0, bigN 0 (toL (sub s 2 4)), false, 4, true)
     else bif decide (bigN 0 (toL (sub s 2 4)) ≤ 65535) then (decide (128 ≤ chr s 0), iand IntKind.i64 (IntKind.i64.wrap (ishr IntKind.u8 (chr s 0) 4)) 7, IntKind.i64.wrap (iand IntKind.u8 (chr s 0) 15), decide (128 ≤ chr s 1), bif decide (0 < min (slen (sub s 4 4)) 4) then 0 else 0, bif decide (1 < min (slen (sub s 4 4)) 4) then 0 else 0, bif decide (2 < min (slen (sub s 4 4)) 4) then 0 else 0, bif decide (3 < min (slen (sub s 4 4)) 4) then 0 else 0, bigN 0 (toL (sub s 2 4)), true, 4, true)
      else (decide (128 ≤ chr s 0), iand IntKind.i64 (IntKind.i64.wrap (ishr IntKind.u8 (chr s 0) 4)) 7, IntKind.i64.wrap (iand IntKind.u8 (chr s 0) 15), decide (128 ≤ chr s 1), bif decide (0 < min (slen (sub s 4 4)) 4) then 0 else 0, bif decide (1 < min (slen (sub s 4 4)) 4) then 0 else 0, bif decide (2 < min (slen (sub s 4 4)) 4) then 0 else 0, bif decide (3 < min (slen (sub s 4 4)) 4) then 0 else 0, bigN 0 (toL (sub s 2 4)), false, 4, true)
  else bif IntKind.i64.wrap (iandn IntKind.u8 (chr s 1) 128) == 127 then bif decide (128 ≤ chr s 1) then bif decide (((slen s) : Int) < 14) then (false, 0, 0, false, 0, 0, 0, 0, 0, false, 0, false)
     else bif decide (bigN 0 (toL (sub s 2 10)) ≤ 125) then (decide (128 ≤ chr s 0), iand IntKind.i64 (IntKind.i64.wrap (ishr IntKind.u8 (chr s 0) 4)) 7, IntKind.i64.wrap (iand IntKind.u8 (chr s 0) 15), decide (128 ≤ chr s 1), bif decide (0 < min (slen (sub s 10 14)) 4) then toInt ((List.take (min (slen (sub s 10 14)) 4) (ofBytes (sub s 10 14))).getD 0 undef) else 0, bif decide (1 < min (slen (sub s 10 14)) 4) then toInt ((List.take (min (slen (sub s 10 14)) 4) (ofBytes (sub s 10 14))).getD 1 undef) else 0, bif decide (2 < min (slen (sub s 10 14)) 4) then toInt ((List.take (min (slen (sub s 10 14)) 4) (ofBytes (sub s 10 14))).getD 2 undef) else 0, bif decide (3 < min (slen (sub s 10 14)) 4) then toInt ((List.take (min (slen (sub s 10 14)) 4) (ofBytes (sub s 10 14))).getD 3 undef) else 0, bigN 0 (toL (sub s 2 10)), false, 14, true)
      else bif decide (bigN 0 (toL (sub s 2 10)) ≤ 65535) then (decide (128 ≤ chr s 0), iand IntKind.i64 (IntKind.i64.wrap (ishr IntKind.u8 (chr s 0) 4)) 7, IntKind.i64.wrap (iand IntKind.u8 (chr s 0) 15), decide (128 ≤ chr s 1), bif decide (0 < min (slen (sub s 10 14)) 4) then toInt ((List.take (min (slen (sub s 10 14)) 4) (ofBytes (sub s 10 14))).getD 0 undef) else 0, bif decide (1 < min (slen (sub s 10 14)) 4) then toInt ((List.take (min (slen (sub s 10 14)) 4) (ofBytes (sub s 10 14))).getD 1 undef) else 0, bif decide (2 < min (slen (sub s 10 14)) 4) then toInt ((List.take (min (slen (sub s 10 14)) 4) (ofBytes (sub s 10 14))).getD 2 undef) else 0, bif decide (3 < min (slen (sub s 10 14)) 4) then toInt ((List.take (min (slen (sub s 10 14)) 4) (ofBytes (sub s 10 14))).getD 3 undef) else 0, bigN 0 (toL (sub s 2 10)), false, 14, true)
       else (decide (128 ≤ chr s 0), iand IntKind.i64 (IntKind.i64.wrap (ishr IntKind.u8 (chr s 0) 4)) 7, IntKind.i64.wrap (iand IntKind.u8 (chr s 0) 15), decide (128 ≤ chr s 1), bif decide (0 < min (slen (sub s 10 14)) 4) then toInt ((List.take (min (slen (sub s 10 14)) 4) (ofBytes (sub s 10 14))).getD 0 undef) else 0, bif decide (1 < min (slen (sub s 10 14)) 4) then toInt ((List.take (min (slen (sub s 10 14)) 4) (ofBytes (sub s 10 14))).getD 1 undef) else 0, bif decide (2 < min (slen (sub s 10 14)) 4) then toInt ((List.take (min (slen (sub s 10 14)) 4) (ofBytes (sub s 10 14))).getD 2 undef) else 0, bif decide (3 < min (slen (sub s 10 14)) 4) then toInt ((List.take (min (slen (sub s 10 14)) 4) (ofBytes (sub s 10 14))).getD 3 undef) else 0, bigN 0 (toL (sub s 2 10)), true, 14, true)
    else bif decide (((slen s) : Int) < 10) then (false, 0, 0, false, 0, 0, 0, 0, 0, false, 0, false)
     else bif decide (bigN 0 (toL (sub s 2 10)) ≤ 125) then (decide (128 ≤ chr s 0), iand IntKind.i64 (IntKind.i64.wrap (ishr IntKind.u8 (chr s 0) 4)) 7, IntKind.i64.wrap (iand IntKind.u8 (chr s 0) 15), decide (128 ≤ chr s 1), bif decide (0 < min (slen (sub s 10 10)) 4) then 0 else 0, bif decide (1 < min (slen (sub s 10 10)) 4) then 0 else 0, bif decide (2 < min (slen (sub s 10 10)) 4) then 0 else 0, bif decide (3 < min (slen (sub s 10 10)) 4) then 0 else 0, bigN 0 (toL (sub s 2 10)), false, 10, true)
      else bif decide (bigN 0 (toL (sub s 2 10)) ≤ 65535) then (decide (128 ≤ chr s 0), iand IntKind.i64 (IntKind.i64.wrap (ishr IntKind.u8 (chr s 0) 4)) 7, IntKind.i64.wrap (iand IntKind.u8 (chr s 0) 15), decide (128 ≤ chr s 1), bif decide (0 < min (slen (sub s 10 10)) 4) then 0 else 0, bif decide (1 < min (slen (sub s 10 10)) 4) then 0 else 0, bif decide (2 < min (slen (sub s 10 10)) 4) then 0 else 0, bif decide (3 < min (slen (sub s 10 10)) 4) then 0 else 0, bigN 0 (toL (sub s 2 10)), false, 10, true)
       else (decide (128 ≤ chr s 0), iand IntKind.i64 (IntKind.i64.wrap (ishr IntKind.u8 (chr s 0) 4)) 7, IntKind.i64.wrap (iand IntKind.u8 (chr s 0) 15), decide (128 ≤ chr s 1), bif decide (0 < min (slen (sub s 10 10)) 4) then 0 else 0, bif decide (1 < min (slen (sub s 10 10)) 4) then 0 else 0, bif decide (2 < min (slen (sub s 10 10)) 4) then 0 else 0, bif decide (3 < min (slen (sub s 10 10)) 4) then 0 else 0, bigN 0 (toL (sub s 2 10)), true, 10, true)
   else bif decide (128 ≤ chr s 1) then bif decide (((slen s) : Int) < 6) then (false, 0, 0, false, 0, 0, 0, 0, 0, false, 0, false)
     else bif decide (IntKind.u64.wrap (IntKind.i64.wrap (iandn IntKind.u8 (chr s 1) 128)) ≤ 125) then (decide (128 ≤ chr s 0), iand IntKind.i64 (IntKind.i64.wrap (ishr IntKind.u8 (chr s 0) 4)) 7, IntKind.i64.wrap (iand IntKind.u8 (chr s 0) 15), decide (128 ≤ chr s 1), bif decide (0 < min (slen (sub s 2 6)) 4) then toInt ((List.take (min (slen (sub s 2 6)) 4) (ofBytes (sub s 2 6))).getD 0 undef) else 0, bif decide (1 < min (slen (sub s 2 6)) 4) then toInt ((List.take (min (slen (sub s 2 6)) 4) (ofBytes (sub s 2 6))).getD 1 undef) else 0, bif decide (2 < min (slen (sub s 2 6)) 4) then toInt ((List.take (min (slen (sub s 2 6)) 4) (ofBytes (sub s 2 6))).getD 2 undef) else 0, bif decide (3 < min (slen (sub s 2 6)) 4) then toInt ((List.take (min (slen (sub s 2 6)) 4) (ofBytes (sub s 2 6))).getD 3 undef) else 0, IntKind.u64.wrap (IntKind.i64.wrap (iandn IntKind.u8 (chr s 1) 128)), true, 6, true)
      else bif decide (IntKind.u64.wrap (IntKind.i64.wrap (iandn IntKind.u8 (chr s 1) 128)) ≤ 65535) then (decide (128 ≤ chr s 0), iand IntKind.i64 (IntKind.i64.wrap (ishr IntKind.u8 (chr s 0) 4)) 7, IntKind.i64.wrap (iand IntKind.u8 (chr s 0) 15), decide (128 ≤ chr s 1), bif decide (0 < min (slen (sub s 2 6)) 4) then toInt ((List.take (min (slen (sub s 2 6)) 4) (ofBytes (sub s 2 6))).getD 0 undef) else 0, bif decide (1 < min (slen (sub s 2 6)) 4) then toInt ((List.take (min (slen (sub s 2 6)) 4) (ofBytes (sub s 2 6))).getD 1 undef) else 0, bif decide (2 < min (slen (sub s 2 6)) 4) then toInt ((List.take (min (slen (sub s 2 6)) 4) (ofBytes (sub s 2 6))).getD 2 undef) else 0, bif decide (3 < min (slen (sub s 2 6)) 4) then toInt ((List.take (min (slen (sub s 2 6)) 4) (ofBytes (sub s 2 6))).getD 3 undef) else 0, IntKind.u64.wrap (IntKind.i64.wrap (iandn IntKind.u8 (chr s 1) 128)), false, 6, true)
       else (decide (128 ≤ chr s 0), iand IntKind.i64 (IntKind.i64.wrap (ishr IntKind.u8 (chr s 0) 4)) 7, IntKind.i64.wrap (iand IntKind.u8 (chr s 0) 15), decide (128 ≤ chr s 1), bif decide (0 < min (slen (sub s 2 6)) 4) then toInt ((List.take (min (slen (sub s 2 6)) 4) (ofBytes (sub s 2 6))).getD 0 undef) else 0, bif decide (1 < min (slen (sub s 2 6)) 4) then toInt ((List.take (min (slen (sub s 2 6)) 4) (ofBytes (sub s 2 6))).getD 1 undef) else 0, bif decide (2 < min (slen (sub s 2 6)) 4) then toInt ((List.take (min (slen (sub s 2 6)) 4) (ofBytes (sub s 2 6))).getD 2 undef) else 0, bif decide (3 < min (slen (sub s 2 6)) 4) then toInt ((List.take (min (slen (sub s 2 6)) 4) (ofBytes (sub s 2 6))).getD 3 undef) else 0, IntKind.u64.wrap (IntKind.i64.wrap (iandn IntKind.u8 (chr s 1) 128)), false, 6, true)
    else bif decide (IntKind.u64.wrap (IntKind.i64.wrap (iandn IntKind.u8 (chr s 1) 128)) ≤ 125) then (decide (128 ≤ chr s 0), iand IntKind.i64 (IntKind.i64.wrap (ishr IntKind.u8 (chr s 0) 4)) 7, IntKind.i64.wrap (iand IntKind.u8 (chr s 0) 15), decide (128 ≤ chr s 1), bif decide (0 < min (slen (sub s 2 2)) 4) then 0 else 0, bif decide (1 < min (slen (sub s 2 2)) 4) then 0 else 0, bif decide (2 < min (slen (sub s 2 2)) 4) then 0 else 0, bif decide (3 < min (slen (sub s 2 2)) 4) then 0 else 0, IntKind.u64.wrap (IntKind.i64.wrap (iandn IntKind.u8 (chr s 1) 128)), true, 2, true)
     else bif decide (IntKind.u64.wrap (IntKind.i64.wrap (iandn IntKind.u8 (chr s 1) 128)) ≤ 65535) then (decide (128 ≤ chr s 0), iand IntKind.i64 (IntKind.i64.wrap (ishr IntKind.u8 (chr s 0) 4)) 7, IntKind.i64.wrap (iand IntKind.u8 (chr s 0) 15), decide (128 ≤ chr s 1), bif decide (0 < min (slen (sub s 2 2)) 4) then 0 else 0, bif decide (1 < min (slen (sub s 2 2)) 4) then 0 else 0, bif decide (2 < min (slen (sub s 2 2)) 4) then 0 else 0, bif decide (3 < min (slen (sub s 2 2)) 4) then 0 else 0, IntKind.u64.wrap (IntKind.i64.wrap (iandn IntKind.u8 (chr s 1) 128)), false, 2, true)
      else (decide (128 ≤ chr s 0), iand IntKind.i64 (IntKind.i64.wrap (ishr IntKind.u8 (chr s 0) 4)) 7, IntKind.i64.wrap (iand IntKind.u8 (chr s 0) 15), decide (128 ≤ chr s 1), bif decide (0 < min (slen (sub s 2 2)) 4) then 0 else 0, bif decide (1 < min (slen (sub s 2 2)) 4) then 0 else 0, bif decide (2 < min (slen (sub s 2 2)) 4) then 0 else 0, bif decide (3 < min (slen (sub s 2 2)) 4) then 0 else 0, IntKind.u64.wrap (IntKind.i64.wrap (iandn IntKind.u8 (chr s 1) 128)), false, 2, true)
def head_S0 (s : ByteArray) : Prop :=
 ((decide (((slen s) : Int) < 2)) = true → True) ∧
 ((decide (((slen s) : Int) < 2)) = false → ((IntKind.i64.wrap (iandn IntKind.u8 (chr s 1) 128) == 126) = true → ((decide (128 ≤ chr s 1)) = true → ((decide (((slen s) : Int) < 8)) = true → (1 < ((slen s) : Int)) ∧ (0 < ((slen s) : Int))) ∧
    ((decide (((slen s) : Int) < 8)) = false → ((decide (bigN 0 (toL (sub s 2 4)) ≤ 125)) = true → (((List.take (min (slen (sub s 4 8)) 4) (ofBytes (sub s 4 8))).all one) = true) ∧ ((bif decide (0 < min (slen (sub s 4 8)) 4) then isInt .u8 ((List.take (min (slen (sub s 4 8)) 4) (ofBytes (sub s 4 8))).getD 0 undef) else true) = true) ∧ ((bif decide (1 < min (slen (sub s 4 8)) 4) then isInt .u8 ((List.take (min (slen (sub s 4 8)) 4) (ofBytes (sub s 4 8))).getD 1 undef) else true) = true) ∧ ((bif decide (2 < min (slen (sub s 4 8)) 4) then isInt .u8 ((List.take (min (slen (sub s 4 8)) 4) (ofBytes (sub s 4 8))).getD 2 undef) else true) = true) ∧ ((bif decide (3 < min (slen (sub s 4 8)) 4) then isInt .u8 ((List.take (min (slen (sub s 4 8)) 4) (ofBytes (sub s 4 8))).getD 3 undef) else true) = true) ∧ (min (slen (sub s 4 8)) 4 ≤ slen (sub s 4 8)) ∧ (8 ≤ ((slen s) : Int)) ∧ (big_pre (sub s 2 4)) ∧ (4 ≤ ((slen s) : Int)) ∧ (1 < ((slen s) : Int)) ∧ (0 < ((slen s) : Int))) ∧
     ((decide (bigN 0 (toL (sub s 2 4)) ≤ 125)) = false → ((decide (bigN 0 (toL (sub s 2 4)) ≤ 65535)) = true → (((List.take (min (slen (sub s 4 8)) 4) (ofBytes (sub s 4 8))).all one) = true) ∧ ((bif decide (0 < min (slen (sub s 4 8)) 4) then isInt .u8 ((List.take (min (slen (sub s 4 8)) 4) (ofBytes (sub s 4 8))).getD 0 undef) else true) = true) ∧ ((bif decide (1 < min (slen (sub s 4 8)) 4) then isInt .u8 ((List.take (min (slen (sub s 4 8)) 4) (ofBytes (sub s 4 8))).getD 1 undef) else true) = true) ∧ ((bif decide (2 < min (slen (sub s 4 8)) 4) then isInt .u8 ((List.take (min (slen (sub s 4 8)) 4) (ofBytes (sub s 4 8))).getD 2 undef) else true) = true) ∧ ((bif decide (3 < min (slen (sub s 4 8)) 4) then isInt .u8 ((List.take (min (slen (sub s 4 8)) 4) (ofBytes (sub s 4 8))).getD 3 undef) else true) = true) ∧ (min (slen (sub s 4 8)) 4 ≤ slen (sub s 4 8)) ∧ (8 ≤ ((slen s) : Int)) ∧ (big_pre (sub s 2 4)) ∧ (4 ≤ ((slen s) : Int)) ∧ (1 < ((slen s) : Int)) ∧ (0 < ((slen s) : Int))) ∧
      ((decide (bigN 0 (toL (sub s 2 4)) ≤ 65535)) = false → (((List.take (min (slen (sub s 4 8)) 4) (ofBytes (sub s 4 8))).all one) = true) ∧ ((bif decide (0 < min (slen (sub s 4 8)) 4) then isInt .u8 ((List.take (min (slen (sub s 4 8)) 4) (ofBytes (sub s 4 8))).getD 0 undef) else true) = true) ∧ ((bif decide (1 < min (slen (sub s 4 8)) 4) then isInt .u8 ((List.take (min (slen (sub s 4 8)) 4) (ofBytes (sub s 4 8))).getD 1 undef) else true) = true) ∧ ((bif decide (2 < min (slen (sub s 4 8)) 4) then isInt .u8 ((List.take (min (slen (sub s 4 8)) 4) (ofBytes (sub s 4 8))).getD 2 undef) else true) = true) ∧ ((bif decide (3 < min (slen (sub s 4 8)) 4) then isInt .u8 ((List.take (min (slen (sub s 4 8)) 4) (ofBytes (sub s 4 8))).getD 3 undef) else true) = true) ∧ (min (slen (sub s 4 8)) 4 ≤ slen (sub s 4 8)) ∧ (8 ≤ ((slen s) : Int)) ∧ (big_pre (sub s 2 4)) ∧ (4 ≤ ((slen s) : Int)) ∧ (1 < ((slen s) : Int)) ∧ (0 < ((slen s) : Int)))))) ∧
   ((decide (128 ≤ chr s 1)) = false → ((decide (((slen s) : Int) < 4)) = true → (1 < ((slen s) : Int)) ∧ (0 < ((slen s) : Int))) ∧
    ((decide (((slen s) : Int) < 4)) = false → ((decide (bigN 0 (toL (sub s 2 4)) ≤ 125)) = true → (4 ≤ ((slen s) : Int)) ∧ (big_pre (sub s 2 4)) ∧ (1 < ((slen s) : Int)) ∧ (0 < ((slen s) : Int))) ∧
     ((decide (bigN 0 (toL (sub s 2 4)) ≤ 125)) = false → ((decide (bigN 0 (toL (sub s 2 4)) ≤ 65535)) = true → (4 ≤ ((slen s) : Int)) ∧ (big_pre (sub s 2 4)) ∧ (1 < ((slen s) : Int)) ∧ (0 < ((slen s) : Int))) ∧
      ((decide (bigN 0 (toL (sub s 2 4)) ≤ 65535)) = false → (4 ≤ ((slen s) : Int)) ∧ (big_pre (sub s 2 4)) ∧ (1 < ((slen s) : Int)) ∧ (0 < ((slen s) : Int))))))) ∧
  ((IntKind.i64.wrap (iandn IntKind.u8 (chr s 1) 128) == 126) = false → ((IntKind.i64.wrap (iandn IntKind.u8 (chr s 1) 128) == 127) = true → ((decide (128 ≤ chr s 1)) = true → ((decide (((slen s) : Int) < 14)) = true → (1 < ((slen s) : Int)) ∧ (0 < ((slen s) : Int))) ∧
     ((decide (((slen s) : Int) < 14)) = false → ((decide (bigN 0 (toL (sub s 2 10)) ≤ 125)) = true → (((List.take (min (slen (sub s 10 14)) 4) (ofBytes (sub s 10 14))).all one) = true) ∧ ((bif decide (0 < min (slen (sub s 10 14)) 4) then isInt .u8 ((List.take (min (slen (sub s 10 14)) 4) (ofBytes (sub s 10 14))).getD 0 undef) else true) = true) ∧ ((bif decide (1 < min (slen (sub s 10 14)) 4) then isInt .u8 ((List.take (min (slen (sub s 10 14)) 4) (ofBytes (sub s 10 14))).getD 1 undef) else true) = true) ∧ ((bif decide (2 < min (slen (sub s 10 14)) 4) then isInt .u8 ((List.take (min (slen (sub s 10 14)) 4) (ofBytes (sub s 10 14))).getD 2 undef) else true) = true) ∧ ((bif decide (3 < min (slen (sub s 10 14)) 4) then isInt .u8 ((List.take (min (slen (sub s 10 14)) 4) (ofBytes (sub s 10 14))).getD 3 undef) else true) = true) ∧ (min (slen (sub s 10 14)) 4 ≤ slen (sub s 10 14)) ∧ (14 ≤ ((slen s) : Int)) ∧ (big_pre (sub s 2 10)) ∧ (10 ≤ ((slen s) : Int)) ∧ (1 < ((slen s) : Int)) ∧ (0 < ((slen s) : Int))) ∧
      ((decide (bigN 0 (toL (sub s 2 10)) ≤ 125)) = false → ((decide (bigN 0 (toL (sub s 2 10)) ≤ 65535)) = true → (((List.take (min (slen (sub s 10 14)) 4) (ofBytes (sub s 10 14))).all one) = true) ∧ ((bif decide (0 < min (slen (sub s 10 14)) 4) then isInt .u8 ((List.take (min (slen (sub s 10 14)) 4) (ofBytes (sub s 10 14))).getD 0 undef) else true) = true) ∧ ((bif decide (1 < min (slen (sub s 10 14)) 4) then isInt .u8 ((List.take (min (slen (sub s 10 14)) 4) (ofBytes (sub s 10 14))).getD 1 undef) else true) = true) ∧ ((bif decide (2 < min (slen (sub s 10 14)) 4) then isInt .u8 ((List.take (min (slen (sub s 10 14)) 4) (ofBytes (sub s 10 14))).getD 2 undef) else true) = true) ∧ ((bif decide (3 < min (slen (sub s 10 14)) 4) then isInt .u8 ((List.take (min (slen (sub s 10 14)) 4) (ofBytes (sub s 10 14))).getD 3 undef) else true) = true) ∧ (min (slen (sub s 10 14)) 4 ≤ slen (sub s 10 14)) ∧ (14 ≤ ((slen s) : Int)) ∧ (big_pre (sub s 2 10)) ∧ (10 ≤ ((slen s) : Int)) ∧ (1 < ((slen s) : Int)) ∧ (0 < ((slen s) : Int))) ∧
       ((decide (bigN 0 (toL (sub s 2 10)) ≤ 65535)) = false → (((List.take (min (slen (sub s 10 14)) 4) (ofBytes (sub s 10 14))).all one) = true) ∧ ((bif decide (0 < min (slen (sub s 10 14)) 4) then isInt .u8 ((List.take (min (slen (sub s 10 14)) 4) (ofBytes (sub s 10 14))).getD 0 undef) else true) = true) ∧ ((bif decide (1 < min (slen (sub s 10 14)) 4) then isInt .u8 ((List.take (min (slen (sub s 10 14)) 4) (ofBytes (sub s 10 14))).getD 1 undef) else true) = true) ∧ ((bif decide (2 < min (slen (sub s 10 14)) 4) then isInt .u8 ((List.take (min (slen (sub s 10 14)) 4) (ofBytes (sub s 10 14))).getD 2 undef) else true) = true) ∧ ((bif decide (3 < min (slen (sub s 10 14)) 4) then isInt .u8 ((List.take (min (slen (sub s 10 14)) 4) (ofBytes (sub s 10 14))).getD 3 undef) else true) = true) ∧ (min (slen (sub s 10 14)) 4 ≤ slen (sub s 10 14)) ∧ (14 ≤ ((slen s) : Int)) ∧ (big_pre (sub s 2 10)) ∧ (10 ≤ ((slen s) : Int)) ∧ (1 < ((slen s) : Int)) ∧ (0 < ((slen s) : Int)))))) ∧
    ((decide (128 ≤ chr s 1)) = false → ((decide (((slen s) : Int) < 10)) = true → (1 < ((slen s) : Int)) ∧ (0 < ((slen s) : Int))) ∧
     ((decide (((slen s) : Int) < 10)) = false → ((decide (bigN 0 (toL (sub s 2 10)) ≤ 125)) = true → (10 ≤ ((slen s) : Int)) ∧ (big_pre (sub s 2 10)) ∧ (1 < ((slen s) : Int)) ∧ (0 < ((slen s) : Int))) ∧
      ((decide (bigN 0 (toL (sub s 2 10)) ≤ 125)) = false → ((decide (bigN 0 (toL (sub s 2 10)) ≤ 65535)) = true → (10 ≤ ((slen s) : Int)) ∧ (big_pre (sub s 2 10)) ∧ (1 < ((slen s) : Int)) ∧ (0 < ((slen s) : Int))) ∧
       ((decide (bigN 0 (toL (sub s 2 10)) ≤ 65535)) = false → (10 ≤ ((slen s) : Int)) ∧ (big_pre (sub s 2 10)) ∧ (1 < ((slen s) : Int)) ∧ (0 < ((slen s) : Int))))))) ∧
   ((IntKind.i64.wrap (iandn IntKind.u8 (chr s 1) 128) == 127) = false → ((decide (128 ≤ chr s 1)) = true → ((decide (((slen s) : Int) < 6)) = true → (1 < ((slen s) : Int)) ∧ (0 < ((slen s) : Int))) ∧
     ((decide (((slen s) : Int) < 6)) = false → ((decide (IntKind.u64.wrap (IntKind.i64.wrap (iandn IntKind.u8 (chr s 1) 128)) ≤ 125)) = true → (((List.take (min (slen (sub s 2 6)) 4) (ofBytes (sub s 2 6))).all one) = true) ∧ ((bif decide (0 < min (slen (sub s 2 6)) 4) then isInt .u8 ((List.take (min (slen (sub s 2 6)) 4) (ofBytes (sub s 2 6))).getD 0 undef) else true) = true) ∧ ((bif decide (1 < min (slen (sub s 2 6)) 4) then isInt .u8 ((List.take (min (slen (sub s 2 6)) 4) (ofBytes (sub s 2 6))).getD 1 undef) else true) = true) ∧ ((bif decide (2 < min (slen (sub s 2 6)) 4) then isInt .u8 ((List.take (min (slen (sub s 2 6)) 4) (ofBytes (sub s 2 6))).getD 2 undef) else true) = true) ∧ ((bif decide (3 < min (slen (sub s 2 6)) 4) then isInt .u8 ((List.take (min (slen (sub s 2 6)) 4) (ofBytes (sub s 2 6))).getD 3 undef) else true) = true) ∧ (min (slen (sub s 2 6)) 4 ≤ slen (sub s 2 6)) ∧ (6 ≤ ((slen s) : Int)) ∧ (1 < ((slen s) : Int)) ∧ (0 < ((slen s) : Int))) ∧
      ((decide (IntKind.u64.wrap (IntKind.i64.wrap (iandn IntKind.u8 (chr s 1) 128)) ≤ 125)) = false → ((decide (IntKind.u64.wrap (IntKind.i64.wrap (iandn IntKind.u8 (chr s 1) 128)) ≤ 65535)) = true → (((List.take (min (slen (sub s 2 6)) 4) (ofBytes (sub s 2 6))).all one) = true) ∧ ((bif decide (0 < min (slen (sub s 2 6)) 4) then isInt .u8 ((List.take (min (slen (sub s 2 6)) 4) (ofBytes (sub s 2 6))).getD 0 undef) else true) = true) ∧ ((bif decide (1 < min (slen (sub s 2 6)) 4) then isInt .u8 ((List.take (min (slen (sub s 2 6)) 4) (ofBytes (sub s 2 6))).getD 1 undef) else true) = true) ∧ ((bif decide (2 < min (slen (sub s 2 6)) 4) then isInt .u8 ((List.take (min (slen (sub s 2 6)) 4) (ofBytes (sub s 2 6))).getD 2 undef) else true) = true) ∧ ((bif decide (3 < min (slen (sub s 2 6)) 4) then isInt .u8 ((List.take (min (slen (sub s 2 6)) 4) (ofBytes (sub s 2 6))).getD 3 undef) else true) = true) ∧ (min (slen (sub s 2 6)) 4 ≤ slen (sub s 2 6)) ∧ (6 ≤ ((slen s) : Int)) ∧ (1 < ((slen s) : Int)) ∧ (0 < ((slen s) : Int))) ∧
       ((decide (IntKind.u64.wrap (IntKind.i64.wrap (iandn IntKind.u8 (chr s 1) 128)) ≤ 65535)) = false → (((List.take (min (slen (sub s 2 6)) 4) (ofBytes (sub s 2 6))).all one) = true) ∧ ((bif decide (0 < min (slen (sub s 2 6)) 4) then isInt .u8 ((List.take (min (slen (sub s 2 6)) 4) (ofBytes (sub s 2 6))).getD 0 undef) else true) = true) ∧ ((bif decide (1 < min (slen (sub s 2 6)) 4) then isInt .u8 ((List.take (min (slen (sub s 2 6)) 4) (ofBytes (sub s 2 6))).getD 1 undef) else true) = true) ∧ ((bif decide (2 < min (slen (sub s 2 6)) 4) then isInt .u8 ((List.take (min (slen (sub s 2 6)) 4) (ofBytes (sub s 2 6))).getD 2 undef) else true) = true) ∧ ((bif decide (3 < min (slen (sub s 2 6)) 4) then isInt .u8 ((List.take (min (slen (sub s 2 6)) 4) (ofBytes (sub s 2 6))).getD 3 undef) else true) = true) ∧ (min (slen (sub s 2 6)) 4 ≤ slen (sub s 2 6)) ∧ (6 ≤ ((slen s) : Int)) ∧ (1 < ((slen s) : Int)) ∧ (0 < ((slen s) : Int)))))) ∧
    ((decide (128 ≤ chr s 1)) = false → ((decide (IntKind.u64.wrap (IntKind.i64.wrap (iandn IntKind.u8 (chr s 1) 128)) ≤ 125)) = true → (2 ≤ ((slen s) : Int)) ∧ (1 < ((slen s) : Int)) ∧ (0 < ((slen s) : Int))) ∧
     ((decide (IntKind.u64.wrap (IntKind.i64.wrap (iandn IntKind.u8 (chr s 1) 128)) ≤ 125)) = false → ((decide (IntKind.u64.wrap (IntKind.i64.wrap (iandn IntKind.u8 (chr s 1) 128)) ≤ 65535)) = true → (2 ≤ ((slen s) : Int)) ∧ (1 < ((slen s) : Int)) ∧ (0 < ((slen s) : Int))) ∧
      ((decide (IntKind.u64.wrap (IntKind.i64.wrap (iandn IntKind.u8 (chr s 1) 128)) ≤ 65535)) = false → (2 ≤ ((slen s) : Int)) ∧ (1 < ((slen s) : Int)) ∧ (0 < ((slen s) : Int))))))))
theorem head_ok0 (s : ByteArray) (hS : head_S0 s) : head_Q s (startC E 73 ([.string s]) ([])) (head_t0 s) := by
 unfold head_S0 at hS
 unfold head_t0
 refine cond_intro (P := head_Q s (startC E 73 ([.string s]) ([]))) _ (fun h0 => ?_) (fun h0 => ?_)
 ·skip
  exact ends_q KC_ok 2000 21 (bs 1 1) [0] [2, 3, 4] [] (andI (dT h0) rfl)
 ·skip
  refine cond_intro (P := head_Q s (startC E 73 ([.string s]) ([]))) _ (fun h1 => ?_) (fun h1 => ?_)
  ·skip
   refine cond_intro (P := head_Q s (startC E 73 ([.string s]) ([]))) _ (fun h2 => ?_) (fun h2 => ?_)
   ·skip
    refine cond_intro (P := head_Q s (startC E 73 ([.string s]) ([]))) _ (fun h3 => ?_) (fun h3 => ?_)
    ·skip
     have z0 := (((hS.2 h0).1 h1).1 h2).1 h3; exact ends_q KC_ok 2000 86 (bs 4 14) [0] [2, 3, 4] [] (and8 (dT h3) (dT h2) (dT h1) (decide_eq_true z0.1) (decide_eq_true z0.1) (decide_eq_true z0.2) (decide_eq_true z0.2) (decide_eq_true z0.2) (andI (dF h0) rfl))
    ·skip
     refine cond_intro (P := head_Q s (startC E 73 ([.string s]) ([]))) _ (fun h5 => ?_) (fun h5 => ?_)
     ·skip
      have z0 := ((((hS.2 h0).1 h1).1 h2).2 h3).1 h5; exact ends_q KC_ok 2000 141 (bs 6 54) [0] [2, 3, 4] [] (and8 (z0.1) (z0.2.1) (z0.2.2.1) (z0.2.2.2.1) (z0.2.2.2.2.1) (decide_eq_true z0.2.2.2.2.2.1) (decide_eq_true z0.2.2.2.2.2.2.1) (dT h5) (and8 (pdec_iff.2 z0.2.2.2.2.2.2.2.1) (decide_eq_true z0.2.2.2.2.2.2.2.2.1) (dF h3) (dT h2) (dT h1) (decide_eq_true z0.2.2.2.2.2.2.2.2.2.1) (decide_eq_true z0.2.2.2.2.2.2.2.2.2.1) (decide_eq_true z0.2.2.2.2.2.2.2.2.2.2) (andI (decide_eq_true z0.2.2.2.2.2.2.2.2.2.2) (andI (decide_eq_true z0.2.2.2.2.2.2.2.2.2.2) (andI (dF h0) rfl)))))
     ·skip
      refine cond_intro (P := head_Q s (startC E 73 ([.string s]) ([]))) _ (fun h6 => ?_) (fun h6 => ?_)
      ·skip
       have z0 := (((((hS.2 h0).1 h1).1 h2).2 h3).2 h5).1 h6; exact ends_q KC_ok 2000 148 (bs 7 86) [0] [2, 3, 4] [] (and8 (z0.1) (z0.2.1) (z0.2.2.1) (z0.2.2.2.1) (z0.2.2.2.2.1) (decide_eq_true z0.2.2.2.2.2.1) (decide_eq_true z0.2.2.2.2.2.2.1) (dT h6) (and8 (dF h5) (pdec_iff.2 z0.2.2.2.2.2.2.2.1) (decide_eq_true z0.2.2.2.2.2.2.2.2.1) (dF h3) (dT h2) (dT h1) (decide_eq_true z0.2.2.2.2.2.2.2.2.2.1) (decide_eq_true z0.2.2.2.2.2.2.2.2.2.1) (and4 (decide_eq_true z0.2.2.2.2.2.2.2.2.2.2) (decide_eq_true z0.2.2.2.2.2.2.2.2.2.2) (decide_eq_true z0.2.2.2.2.2.2.2.2.2.2) (dF h0) rfl)))
      ·skip
       have z0 := (((((hS.2 h0).1 h1).1 h2).2 h3).2 h5).2 h6; exact ends_q KC_ok 2000 150 (bs 7 22) [0] [2, 3, 4] [] (and8 (z0.1) (z0.2.1) (z0.2.2.1) (z0.2.2.2.1) (z0.2.2.2.2.1) (decide_eq_true z0.2.2.2.2.2.1) (decide_eq_true z0.2.2.2.2.2.2.1) (dF h6) (and8 (dF h5) (pdec_iff.2 z0.2.2.2.2.2.2.2.1) (decide_eq_true z0.2.2.2.2.2.2.2.2.1) (dF h3) (dT h2) (dT h1) (decide_eq_true z0.2.2.2.2.2.2.2.2.2.1) (decide_eq_true z0.2.2.2.2.2.2.2.2.2.1) (and4 (decide_eq_true z0.2.2.2.2.2.2.2.2.2.2) (decide_eq_true z0.2.2.2.2.2.2.2.2.2.2) (decide_eq_true z0.2.2.2.2.2.2.2.2.2.2) (dF h0) rfl)))
   ·skip
    refine cond_intro (P := head_Q s (startC E 73 ([.string s]) ([]))) _ (fun h3 => ?_) (fun h3 => ?_)
    ·skip
     have z0 := (((hS.2 h0).1 h1).2 h2).1 h3; exact ends_q KC_ok 2000 82 (bs 4 10) [0] [2, 3, 4] [] (and8 (dT h3) (dF h2) (dT h1) (decide_eq_true z0.1) (decide_eq_true z0.1) (decide_eq_true z0.2) (decide_eq_true z0.2) (decide_eq_true z0.2) (andI (dF h0) rfl))
    ·skip
     refine cond_intro (P := head_Q s (startC E 73 ([.string s]) ([]))) _ (fun h5 => ?_) (fun h5 => ?_)
     ·skip
      have z0 := ((((hS.2 h0).1 h1).2 h2).2 h3).1 h5; exact ends_q KC_ok 2000 137 (bs 6 50) [0] [2, 3, 4] [] (and8 (decide_eq_true z0.1) (dT h5) (pdec_iff.2 z0.2.1) (decide_eq_true z0.1) (dF h3) (dF h2) (dT h1) (decide_eq_true z0.2.2.1) (andI (decide_eq_true z0.2.2.1) (and4 (decide_eq_true z0.2.2.2) (decide_eq_true z0.2.2.2) (decide_eq_true z0.2.2.2) (dF h0) rfl)))
     ·skip
      refine cond_intro (P := head_Q s (startC E 73 ([.string s]) ([]))) _ (fun h6 => ?_) (fun h6 => ?_)
      ·skip
       have z0 := (((((hS.2 h0).1 h1).2 h2).2 h3).2 h5).1 h6; exact ends_q KC_ok 2000 144 (bs 7 82) [0] [2, 3, 4] [] (and8 (decide_eq_true z0.1) (dT h6) (dF h5) (pdec_iff.2 z0.2.1) (decide_eq_true z0.1) (dF h3) (dF h2) (dT h1) (andI (decide_eq_true z0.2.2.1) (andI (decide_eq_true z0.2.2.1) (and4 (decide_eq_true z0.2.2.2) (decide_eq_true z0.2.2.2) (decide_eq_true z0.2.2.2) (dF h0) rfl))))
      ·skip
       have z0 := (((((hS.2 h0).1 h1).2 h2).2 h3).2 h5).2 h6; exact ends_q KC_ok 2000 146 (bs 7 18) [0] [2, 3, 4] [] (and8 (decide_eq_true z0.1) (dF h6) (dF h5) (pdec_iff.2 z0.2.1) (decide_eq_true z0.1) (dF h3) (dF h2) (dT h1) (andI (decide_eq_true z0.2.2.1) (andI (decide_eq_true z0.2.2.1) (and4 (decide_eq_true z0.2.2.2) (decide_eq_true z0.2.2.2) (decide_eq_true z0.2.2.2) (dF h0) rfl))))
  ·skip
   refine cond_intro (P := head_Q s (startC E 73 ([.string s]) ([]))) _ (fun h2 => ?_) (fun h2 => ?_)
   ·skip
    refine cond_intro (P := head_Q s (startC E 73 ([.string s]) ([]))) _ (fun h3 => ?_) (fun h3 => ?_)
    ·skip
     refine cond_intro (P := head_Q s (startC E 73 ([.string s]) ([]))) _ (fun h4 => ?_) (fun h4 => ?_)
     ·skip
      have z0 := ((((hS.2 h0).2 h1).1 h2).1 h3).1 h4; exact ends_q KC_ok 2000 92 (bs 5 28) [0] [2, 3, 4] [] (and8 (dT h4) (dT h3) (dT h2) (dF h1) (decide_eq_true z0.1) (decide_eq_true z0.1) (decide_eq_true z0.2) (decide_eq_true z0.2) (andI (decide_eq_true z0.2) (andI (dF h0) rfl)))
     ·skip
      refine cond_intro (P := head_Q s (startC E 73 ([.string s]) ([]))) _ (fun h6 => ?_) (fun h6 => ?_)
      ·skip
       have z0 := (((((hS.2 h0).2 h1).1 h2).1 h3).2 h4).1 h6; exact ends_q KC_ok 2000 147 (bs 7 108) [0] [2, 3, 4] [] (and8 (z0.1) (z0.2.1) (z0.2.2.1) (z0.2.2.2.1) (z0.2.2.2.2.1) (decide_eq_true z0.2.2.2.2.2.1) (decide_eq_true z0.2.2.2.2.2.2.1) (dT h6) (and8 (pdec_iff.2 z0.2.2.2.2.2.2.2.1) (decide_eq_true z0.2.2.2.2.2.2.2.2.1) (dF h4) (dT h3) (dT h2) (dF h1) (decide_eq_true z0.2.2.2.2.2.2.2.2.2.1) (decide_eq_true z0.2.2.2.2.2.2.2.2.2.1) (and4 (decide_eq_true z0.2.2.2.2.2.2.2.2.2.2) (decide_eq_true z0.2.2.2.2.2.2.2.2.2.2) (decide_eq_true z0.2.2.2.2.2.2.2.2.2.2) (dF h0) rfl)))
      ·skip
       refine cond_intro (P := head_Q s (startC E 73 ([.string s]) ([]))) _ (fun h7 => ?_) (fun h7 => ?_)
       ·skip
        have z0 := ((((((hS.2 h0).2 h1).1 h2).1 h3).2 h4).2 h6).1 h7; exact ends_q KC_ok 2000 154 (bs 8 172) [0] [2, 3, 4] [] (and8 (z0.1) (z0.2.1) (z0.2.2.1) (z0.2.2.2.1) (z0.2.2.2.2.1) (decide_eq_true z0.2.2.2.2.2.1) (decide_eq_true z0.2.2.2.2.2.2.1) (dT h7) (and8 (dF h6) (pdec_iff.2 z0.2.2.2.2.2.2.2.1) (decide_eq_true z0.2.2.2.2.2.2.2.2.1) (dF h4) (dT h3) (dT h2) (dF h1) (decide_eq_true z0.2.2.2.2.2.2.2.2.2.1) (andI (decide_eq_true z0.2.2.2.2.2.2.2.2.2.1) (and4 (decide_eq_true z0.2.2.2.2.2.2.2.2.2.2) (decide_eq_true z0.2.2.2.2.2.2.2.2.2.2) (decide_eq_true z0.2.2.2.2.2.2.2.2.2.2) (dF h0) rfl))))
       ·skip
        have z0 := ((((((hS.2 h0).2 h1).1 h2).1 h3).2 h4).2 h6).2 h7; exact ends_q KC_ok 2000 156 (bs 8 44) [0] [2, 3, 4] [] (and8 (z0.1) (z0.2.1) (z0.2.2.1) (z0.2.2.2.1) (z0.2.2.2.2.1) (decide_eq_true z0.2.2.2.2.2.1) (decide_eq_true z0.2.2.2.2.2.2.1) (dF h7) (and8 (dF h6) (pdec_iff.2 z0.2.2.2.2.2.2.2.1) (decide_eq_true z0.2.2.2.2.2.2.2.2.1) (dF h4) (dT h3) (dT h2) (dF h1) (decide_eq_true z0.2.2.2.2.2.2.2.2.2.1) (andI (decide_eq_true z0.2.2.2.2.2.2.2.2.2.1) (and4 (decide_eq_true z0.2.2.2.2.2.2.2.2.2.2) (decide_eq_true z0.2.2.2.2.2.2.2.2.2.2) (decide_eq_true z0.2.2.2.2.2.2.2.2.2.2) (dF h0) rfl))))
    ·skip
     refine cond_intro (P := head_Q s (startC E 73 ([.string s]) ([]))) _ (fun h4 => ?_) (fun h4 => ?_)
     ·skip
      have z0 := ((((hS.2 h0).2 h1).1 h2).2 h3).1 h4; exact ends_q KC_ok 2000 88 (bs 5 20) [0] [2, 3, 4] [] (and8 (dT h4) (dF h3) (dT h2) (dF h1) (decide_eq_true z0.1) (decide_eq_true z0.1) (decide_eq_true z0.2) (decide_eq_true z0.2) (andI (decide_eq_true z0.2) (andI (dF h0) rfl)))
     ·skip
      refine cond_intro (P := head_Q s (startC E 73 ([.string s]) ([]))) _ (fun h6 => ?_) (fun h6 => ?_)
      ·skip
       have z0 := (((((hS.2 h0).2 h1).1 h2).2 h3).2 h4).1 h6; exact ends_q KC_ok 2000 143 (bs 7 100) [0] [2, 3, 4] [] (and8 (decide_eq_true z0.1) (dT h6) (pdec_iff.2 z0.2.1) (decide_eq_true z0.1) (dF h4) (dF h3) (dT h2) (dF h1) (andI (decide_eq_true z0.2.2.1) (andI (decide_eq_true z0.2.2.1) (and4 (decide_eq_true z0.2.2.2) (decide_eq_true z0.2.2.2) (decide_eq_true z0.2.2.2) (dF h0) rfl))))
      ·skip
       refine cond_intro (P := head_Q s (startC E 73 ([.string s]) ([]))) _ (fun h7 => ?_) (fun h7 => ?_)
       ·skip
        have z0 := ((((((hS.2 h0).2 h1).1 h2).2 h3).2 h4).2 h6).1 h7; exact ends_q KC_ok 2000 150 (bs 8 164) [0] [2, 3, 4] [] (and8 (decide_eq_true z0.1) (dT h7) (dF h6) (pdec_iff.2 z0.2.1) (decide_eq_true z0.1) (dF h4) (dF h3) (dT h2) (andI (dF h1) (andI (decide_eq_true z0.2.2.1) (andI (decide_eq_true z0.2.2.1) (and4 (decide_eq_true z0.2.2.2) (decide_eq_true z0.2.2.2) (decide_eq_true z0.2.2.2) (dF h0) rfl)))))
       ·skip
        have z0 := ((((((hS.2 h0).2 h1).1 h2).2 h3).2 h4).2 h6).2 h7; exact ends_q KC_ok 2000 152 (bs 8 36) [0] [2, 3, 4] [] (and8 (decide_eq_true z0.1) (dF h7) (dF h6) (pdec_iff.2 z0.2.1) (decide_eq_true z0.1) (dF h4) (dF h3) (dT h2) (andI (dF h1) (andI (decide_eq_true z0.2.2.1) (andI (decide_eq_true z0.2.2.1) (and4 (decide_eq_true z0.2.2.2) (decide_eq_true z0.2.2.2) (decide_eq_true z0.2.2.2) (dF h0) rfl)))))
   ·skip
    refine cond_intro (P := head_Q s (startC E 73 ([.string s]) ([]))) _ (fun h3 => ?_) (fun h3 => ?_)
    ·skip
     refine cond_intro (P := head_Q s (startC E 73 ([.string s]) ([]))) _ (fun h4 => ?_) (fun h4 => ?_)
     ·skip
      have z0 := ((((hS.2 h0).2 h1).2 h2).1 h3).1 h4; exact ends_q KC_ok 2000 94 (bs 5 24) [0] [2, 3, 4] [] (and8 (dT h4) (dT h3) (dF h2) (dF h1) (decide_eq_true z0.1) (decide_eq_true z0.1) (decide_eq_true z0.2) (decide_eq_true z0.2) (andI (decide_eq_true z0.2) (andI (dF h0) rfl)))
     ·skip
      refine cond_intro (P := head_Q s (startC E 73 ([.string s]) ([]))) _ (fun h6 => ?_) (fun h6 => ?_)
      ·skip
       have z0 := (((((hS.2 h0).2 h1).2 h2).1 h3).2 h4).1 h6; exact ends_q KC_ok 2000 142 (bs 7 72) [0] [2, 3, 4] [] (and8 (z0.1) (z0.2.1) (z0.2.2.1) (z0.2.2.2.1) (z0.2.2.2.2.1) (decide_eq_true z0.2.2.2.2.2.1) (decide_eq_true z0.2.2.2.2.2.2.1) (dT h6) (and8 (dF h4) (dT h3) (dF h2) (dF h1) (decide_eq_true z0.2.2.2.2.2.2.2.1) (decide_eq_true z0.2.2.2.2.2.2.2.1) (decide_eq_true z0.2.2.2.2.2.2.2.2) (decide_eq_true z0.2.2.2.2.2.2.2.2) (andI (decide_eq_true z0.2.2.2.2.2.2.2.2) (andI (dF h0) rfl))))
      ·skip
       refine cond_intro (P := head_Q s (startC E 73 ([.string s]) ([]))) _ (fun h7 => ?_) (fun h7 => ?_)
       ·skip
        have z0 := ((((((hS.2 h0).2 h1).2 h2).1 h3).2 h4).2 h6).1 h7; exact ends_q KC_ok 2000 149 (bs 8 136) [0] [2, 3, 4] [] (and8 (z0.1) (z0.2.1) (z0.2.2.1) (z0.2.2.2.1) (z0.2.2.2.2.1) (decide_eq_true z0.2.2.2.2.2.1) (decide_eq_true z0.2.2.2.2.2.2.1) (dT h7) (and8 (dF h6) (dF h4) (dT h3) (dF h2) (dF h1) (decide_eq_true z0.2.2.2.2.2.2.2.1) (decide_eq_true z0.2.2.2.2.2.2.2.1) (decide_eq_true z0.2.2.2.2.2.2.2.2) (andI (decide_eq_true z0.2.2.2.2.2.2.2.2) (andI (decide_eq_true z0.2.2.2.2.2.2.2.2) (andI (dF h0) rfl)))))
       ·skip
        have z0 := ((((((hS.2 h0).2 h1).2 h2).1 h3).2 h4).2 h6).2 h7; exact ends_q KC_ok 2000 151 (bs 8 8) [0] [2, 3, 4] [] (and8 (z0.1) (z0.2.1) (z0.2.2.1) (z0.2.2.2.1) (z0.2.2.2.2.1) (decide_eq_true z0.2.2.2.2.2.1) (decide_eq_true z0.2.2.2.2.2.2.1) (dF h7) (and8 (dF h6) (dF h4) (dT h3) (dF h2) (dF h1) (decide_eq_true z0.2.2.2.2.2.2.2.1) (decide_eq_true z0.2.2.2.2.2.2.2.1) (decide_eq_true z0.2.2.2.2.2.2.2.2) (andI (decide_eq_true z0.2.2.2.2.2.2.2.2) (andI (decide_eq_true z0.2.2.2.2.2.2.2.2) (andI (dF h0) rfl)))))
    ·skip
     refine cond_intro (P := head_Q s (startC E 73 ([.string s]) ([]))) _ (fun h6 => ?_) (fun h6 => ?_)
     ·skip
      have z0 := ((((hS.2 h0).2 h1).2 h2).2 h3).1 h6; exact ends_q KC_ok 2000 138 (bs 7 64) [0] [2, 3, 4] [] (and8 (decide_eq_true z0.1) (dT h6) (dF h0) (dF h3) (dF h2) (dF h1) (decide_eq_true z0.2.1) (decide_eq_true z0.2.1) (and4 (decide_eq_true z0.2.2) (decide_eq_true z0.2.2) (decide_eq_true z0.2.2) (dF h0) rfl))
     ·skip
      refine cond_intro (P := head_Q s (startC E 73 ([.string s]) ([]))) _ (fun h7 => ?_) (fun h7 => ?_)
      ·skip
       have z0 := (((((hS.2 h0).2 h1).2 h2).2 h3).2 h6).1 h7; exact ends_q KC_ok 2000 145 (bs 8 128) [0] [2, 3, 4] [] (and8 (decide_eq_true z0.1) (dT h7) (dF h6) (dF h0) (dF h3) (dF h2) (dF h1) (decide_eq_true z0.2.1) (andI (decide_eq_true z0.2.1) (and4 (decide_eq_true z0.2.2) (decide_eq_true z0.2.2) (decide_eq_true z0.2.2) (dF h0) rfl)))
      ·skip
       have z0 := (((((hS.2 h0).2 h1).2 h2).2 h3).2 h6).2 h7; exact ends_q KC_ok 2000 147 (bs 8 0) [0] [2, 3, 4] [] (and8 (decide_eq_true z0.1) (dF h7) (dF h6) (dF h0) (dF h3) (dF h2) (dF h1) (decide_eq_true z0.2.1) (andI (decide_eq_true z0.2.1) (and4 (decide_eq_true z0.2.2) (decide_eq_true z0.2.2) (decide_eq_true z0.2.2) (dF h0) rfl)))
theorem head_call (s : ByteArray) (hS : head_S0 s) : CallOk E 73 ([.string s]) ([]) (head_V s (head_t0 s)) (head_H s (head_t0 s)) := callOk_of_ends (head_ok0 s hS) (by kernel_rfl) (Nat.le_of_ble_eq_true (by kernel_rfl))
end Go.Proofs.Ytfpnjpbdaniomaa

/-
  Heads: the program's and the document's are the same; contracts.
-/
set_option linter.unusedVariables false
set_option linter.unusedSimpArgs false
open Go Go.Am
namespace Go.Proofs.Ytfpnjpbdaniomaa

theorem chr_bd (s : ByteArray) (i : Nat) : 0 ≤ chr s i ∧ chr s i < 256 := by
 unfold chr
 have := ((toL s).getD i 0).toNat_lt
 omega
theorem iandn128 (b : Int) (h0 : 0 ≤ b) (h1 : b < 256) : iandn .u8 b 128 = b % 128 := by
 have : ∀ n : Fin 256, iandn .u8 ((n.val : Nat) : Int) 128 = ((n.val : Nat) : Int) % 128 := by decide +kernel
 have := this ⟨b.toNat, by omega⟩
 simpa [Int.toNat_of_nonneg h0] using this
theorem fand15 (b : Int) (h0 : 0 ≤ b) (h1 : b < 256) : iand .u8 b 15 = b % 16 := by
 have : ∀ n : Fin 256, iand .u8 ((n.val : Nat) : Int) 15 = ((n.val : Nat) : Int) % 16 := by decide +kernel
 have := this ⟨b.toNat, by omega⟩
 simpa [Int.toNat_of_nonneg h0] using this
theorem rsvP (b : Int) (h0 : 0 ≤ b) (h1 : b < 256) : iand .i64 (IntKind.i64.wrap (ishr .u8 b 4)) 7 = b / 16 % 8 := by
 have : ∀ n : Fin 256, iand .i64 (IntKind.i64.wrap (ishr .u8 ((n.val : Nat) : Int) 4)) 7 = ((n.val : Nat) : Int) / 16 % 8 := by decide +kernel
 have := this ⟨b.toNat, by omega⟩
 simpa [Int.toNat_of_nonneg h0] using this
theorem toL_sub (s : ByteArray) (l h : Nat) : toL (sub s l h) = ((toL s).drop l).take (h - l) := by
 simp [sub, toL, ofL]
theorem slen_sub (s : ByteArray) (l h : Nat) : slen (sub s l h) = min (h - l) (slen s - l) := by
 unfold slen
 rw [toL_sub, List.length_take, List.length_drop]
theorem take_ge2 (l : List UInt8) (h : 2 ≤ l.length) : l.take 2 = [l.getD 0 0, l.getD 1 0] := by
 match l, h with
 | a :: b :: r, _ => rfl
theorem take_ge4 (l : List UInt8) (h : 4 ≤ l.length) : l.take 4 = [l.getD 0 0, l.getD 1 0, l.getD 2 0, l.getD 3 0] := by
 match l, h with
 | a :: b :: c :: d :: r, _ => rfl
theorem take_ge8 (l : List UInt8) (h : 8 ≤ l.length) : l.take 8 = [l.getD 0 0, l.getD 1 0, l.getD 2 0, l.getD 3 0, l.getD 4 0, l.getD 5 0, l.getD 6 0, l.getD 7 0] := by
 match l, h with
 | a :: b :: c :: d :: e :: f :: g :: i :: r, _ => rfl
theorem drop_getD (l : List UInt8) (a j : Nat) : (l.drop a).getD j 0 = l.getD (a + j) 0 := by
 simp [List.getD_eq_getElem?_getD, List.getElem?_drop]
noncomputable def big2 (s : ByteArray) : Int := chr s 2 * 256 + chr s 3
noncomputable def big8 (s : ByteArray) : Int := ((((((chr s 2 * 256 + chr s 3) * 256 + chr s 4) * 256 + chr s 5) * 256 + chr s 6) * 256 + chr s 7) * 256 + chr s 8) * 256 + chr s 9
theorem big2_sub (s : ByteArray) (h : 4 ≤ slen s) : bigN 0 (toL (sub s 2 4)) = big2 s := by
 rw [toL_sub, take_ge2 _ (by rw [List.length_drop]; unfold slen at h; omega)]
 simp only [drop_getD, bigN]
 unfold big2 chr
 simp
theorem big8_sub (s : ByteArray) (h : 10 ≤ slen s) : bigN 0 (toL (sub s 2 10)) = big8 s := by
 rw [toL_sub, take_ge8 _ (by rw [List.length_drop]; unfold slen at h; omega)]
 simp only [drop_getD, bigN]
 unfold big8 chr
 simp
theorem big2_bd (s : ByteArray) : 0 ≤ big2 s ∧ big2 s ≤ 65535 := by
 have h1 := chr_bd s 2; have h2 := chr_bd s 3
 unfold big2; omega
theorem big8_bd (s : ByteArray) : 0 ≤ big8 s ∧ big8 s ≤ 18446744073709551615 := by
 have h1 := chr_bd s 2; have h2 := chr_bd s 3; have h3 := chr_bd s 4; have h4 := chr_bd s 5
 have h5 := chr_bd s 6; have h6 := chr_bd s 7; have h7 := chr_bd s 8; have h8 := chr_bd s 9
 unfold big8; omega
theorem key_sub (s : ByteArray) (a : Nat) (h : a + 4 ≤ slen s) : ofBytes (sub s a (a + 4)) = [.int .u8 (chr s a), .int .u8 (chr s (a + 1)), .int .u8 (chr s (a + 2)), .int .u8 (chr s (a + 3))] := by
 unfold ofBytes
 rw [toL_sub, show a + 4 - a = 4 by omega, take_ge4 _ (by rw [List.length_drop]; unfold slen at h; omega)]
 simp only [drop_getD, chr]
 rfl
noncomputable def wd (c : Int) : Int := if c % 128 = 126 then 2 else if c % 128 = 127 then 8 else 0
noncomputable def hLen (s : ByteArray) : Int := if chr s 1 % 128 = 126 then big2 s else if chr s 1 % 128 = 127 then big8 s else chr s 1 % 128
noncomputable def hLeast (s : ByteArray) : Bool := if chr s 1 % 128 = 126 then decide (125 < big2 s) else if chr s 1 % 128 = 127 then decide (65535 < big8 s) else true
noncomputable def hMask (s : ByteArray) : Bool := decide (128 ≤ chr s 1)
noncomputable def hN (s : ByteArray) : Int := 2 + wd (chr s 1) + (if 128 ≤ chr s 1 then 4 else 0)
noncomputable def hOk (s : ByteArray) : Bool := decide (2 ≤ (slen s : Int)) && decide (hN s ≤ slen s)
noncomputable def hKey (s : ByteArray) (j : Nat) : Int := if 128 ≤ chr s 1 then chr s (2 + (wd (chr s 1)).toNat + j) else 0
noncomputable def headT (s : ByteArray) : head_R :=
 bif hOk s then (decide (128 ≤ chr s 0), chr s 0 / 16 % 8, chr s 0 % 16, hMask s, hKey s 0, hKey s 1, hKey s 2, hKey s 3, hLen s, hLeast s, hN s, true) else (false, 0, 0, false, 0, 0, 0, 0, 0, false, 0, false)
theorem head_val (s : ByteArray) : head_S0 s ∧ head_t0 s = headT s := by
 have hc0 := chr_bd s 0
 have hc1 := chr_bd s 1
 have b2 := big2_bd s
 have b8 := big8_bd s
 by_cases h2 : (slen s : Int) < 2
 ·have e : hOk s = false := by unfold hOk; rw [decide_eq_false (by omega)]; rfl
  unfold head_S0 head_t0 headT
  rw [decide_eq_true h2, e]
  simp
 have s22 : slen (sub s 2 2) = 0 := by rw [slen_sub]; omega
 have s44 : slen (sub s 4 4) = 0 := by rw [slen_sub]; omega
 have s1010 : slen (sub s 10 10) = 0 := by rw [slen_sub]; omega
 have e1 : IntKind.i64.wrap (iandn IntKind.u8 (chr s 1) 128) = chr s 1 % 128 := by rw [iandn128 _ hc1.1 hc1.2, wrap64_in (by omega) (by omega)]
 have e2 : IntKind.u64.wrap (chr s 1 % 128) = chr s 1 % 128 := wrapU64 (by omega) (by omega)
 have e3 : IntKind.i64.wrap (iand IntKind.u8 (chr s 0) 15) = chr s 0 % 16 := by rw [fand15 _ hc0.1 hc0.2, wrap64_in (by omega) (by omega)]
 unfold head_S0 head_t0 headT hOk hN hKey hLen hLeast hMask wd
 rw [e1, e2, e3, rsvP _ hc0.1 hc0.2, decide_eq_false h2, s22, s44, s1010, decide_eq_true (show 2 ≤ (slen s : Int) by omega)]
 by_cases c1 : chr s 1 % 128 = 126
 ·rw [if_pos c1, if_pos c1, if_pos c1, show ((chr s 1 % 128 == 126) : Bool) = true by simp [c1]]
  by_cases c2 : 128 ≤ chr s 1
  ·rw [if_pos c2, if_pos c2, decide_eq_true c2]
   by_cases c3 : (slen s : Int) < 8
   ·rw [decide_eq_true c3, decide_eq_false (show ¬ (2 + 2 + 4 ≤ (slen s : Int)) by omega)]
    simp; omega
   ·have k := key_sub s 4 (by omega)
    have l : slen (sub s 4 8) = 4 := by rw [slen_sub]; omega
    have p : big_pre (sub s 2 4) := by unfold big_pre; rw [slen_sub]; omega
    rw [decide_eq_false c3, decide_eq_true (show (2 + 2 + 4 ≤ (slen s : Int)) by omega), k, big2_sub s (by omega), l]
    by_cases c4 : big2 s ≤ 125 <;> simp [c4, p, one, isInt, toInt, show (big2 s ≤ 65535) by omega, show 8 ≤ (slen s : Int) by omega, show 8 ≤ slen s by omega, show 4 ≤ slen s by omega, show 1 < slen s by omega, show 0 < slen s by omega] <;> (try omega)
  ·rw [if_neg c2, if_neg c2, decide_eq_false c2]
   by_cases c3 : (slen s : Int) < 4
   ·rw [decide_eq_true c3, decide_eq_false (show ¬ (2 + 2 + 0 ≤ (slen s : Int)) by omega)]
    simp; omega
   ·have p : big_pre (sub s 2 4) := by unfold big_pre; rw [slen_sub]; omega
    rw [decide_eq_false c3, decide_eq_true (show (2 + 2 + 0 ≤ (slen s : Int)) by omega), big2_sub s (by omega)]
    by_cases c4 : big2 s ≤ 125 <;> simp [c4, p, one, isInt, toInt, show (big2 s ≤ 65535) by omega, show 4 ≤ (slen s : Int) by omega, show 4 ≤ slen s by omega, show 1 < slen s by omega, show 0 < slen s by omega] <;> (try omega)
 ·rw [if_neg c1, if_neg c1, if_neg c1, show ((chr s 1 % 128 == 126) : Bool) = false by simp [c1]]
  by_cases d1 : chr s 1 % 128 = 127
  ·rw [if_pos d1, if_pos d1, if_pos d1, show ((chr s 1 % 128 == 127) : Bool) = true by simp [d1]]
   by_cases c2 : 128 ≤ chr s 1
   ·rw [if_pos c2, if_pos c2, decide_eq_true c2]
    by_cases c3 : (slen s : Int) < 14
    ·rw [decide_eq_true c3, decide_eq_false (show ¬ (2 + 8 + 4 ≤ (slen s : Int)) by omega)]
     simp; omega
    ·have k := key_sub s 10 (by omega)
     have l : slen (sub s 10 14) = 4 := by rw [slen_sub]; omega
     have p : big_pre (sub s 2 10) := by unfold big_pre; rw [slen_sub]; omega
     rw [decide_eq_false c3, decide_eq_true (show (2 + 8 + 4 ≤ (slen s : Int)) by omega), k, big8_sub s (by omega), l]
     by_cases c4 : big8 s ≤ 125
     ·simp [c4, p, one, isInt, toInt, show (big8 s ≤ 65535) by omega, show 14 ≤ slen s by omega, show 10 ≤ slen s by omega, show 1 < slen s by omega, show 0 < slen s by omega] <;> (try omega)
     ·by_cases c5 : big8 s ≤ 65535 <;> simp [c4, c5, p, one, isInt, toInt, show 14 ≤ slen s by omega, show 10 ≤ slen s by omega, show 1 < slen s by omega, show 0 < slen s by omega] <;> (try omega)
   ·rw [if_neg c2, if_neg c2, decide_eq_false c2]
    by_cases c3 : (slen s : Int) < 10
    ·rw [decide_eq_true c3, decide_eq_false (show ¬ (2 + 8 + 0 ≤ (slen s : Int)) by omega)]
     simp; omega
    ·have p : big_pre (sub s 2 10) := by unfold big_pre; rw [slen_sub]; omega
     rw [decide_eq_false c3, decide_eq_true (show (2 + 8 + 0 ≤ (slen s : Int)) by omega), big8_sub s (by omega)]
     by_cases c4 : big8 s ≤ 125
     ·simp [c4, p, one, isInt, toInt, show (big8 s ≤ 65535) by omega, show 10 ≤ slen s by omega, show 1 < slen s by omega, show 0 < slen s by omega] <;> (try omega)
     ·by_cases c5 : big8 s ≤ 65535 <;> simp [c4, c5, p, one, isInt, toInt, show 10 ≤ slen s by omega, show 1 < slen s by omega, show 0 < slen s by omega] <;> (try omega)
  ·rw [if_neg d1, if_neg d1, if_neg d1, show ((chr s 1 % 128 == 127) : Bool) = false by simp [d1]]
   by_cases c2 : 128 ≤ chr s 1
   ·rw [if_pos c2, if_pos c2, decide_eq_true c2]
    by_cases c3 : (slen s : Int) < 6
    ·rw [decide_eq_true c3, decide_eq_false (show ¬ (2 + 0 + 4 ≤ (slen s : Int)) by omega)]
     simp; omega
    ·have k := key_sub s 2 (by omega)
     have l : slen (sub s 2 6) = 4 := by rw [slen_sub]; omega
     rw [decide_eq_false c3, decide_eq_true (show (2 + 0 + 4 ≤ (slen s : Int)) by omega), k, l, decide_eq_true (show chr s 1 % 128 ≤ 125 by omega)]
     simp [one, isInt, toInt, show 6 ≤ slen s by omega, show 1 < slen s by omega, show 0 < slen s by omega] <;> (try omega)
   ·rw [if_neg c2, if_neg c2, decide_eq_false c2, decide_eq_true (show (2 + 0 + 0 ≤ (slen s : Int)) by omega), decide_eq_true (show chr s 1 % 128 ≤ 125 by omega)]
    simp [one, isInt, toInt, show 2 ≤ slen s by omega, show 1 < slen s by omega, show 0 < slen s by omega] <;> (try omega)

theorem w2 (t b : Int) (h0 : 0 ≤ t) (h1 : t < 72057594037927936) (b0 : 0 ≤ b) (b1 : b < 256) : IntKind.u64.wrap (IntKind.u64.wrap (t * 256) + b) = t * 256 + b := by
 rw [wrapU64 (x := t * 256) (by omega) (by omega), wrapU64 (by omega) (by omega)]
def headc_pre (s : ByteArray) : Prop := True
noncomputable def headc_v (s : ByteArray) : Value := head_V s (headT s)
noncomputable def headc_h (s : ByteArray) : Heap := []
theorem headc_call (s : ByteArray) (h : headc_pre s) : CallOk E 73 [.string s] [] (headc_v s) (headc_h s) := by
 have := head_call s (head_val s).1
 unfold headc_v headc_h
 rw [← (head_val s).2]
 exact this

def headc_ex (a : List Value) (h : Heap) : ByteArray := (toStr (a.getD 0 undef))
noncomputable def headc_k : Ct := kS headc_ex [.str] [] (fun x => headc_pre x) (fun x => headc_v x) (fun x => headc_h x)
theorem headc_k_ok : KFor E 73 headc_k := kS_ok (fun x hx => headc_call x hx) (fun _ _ => rfl) (fun _ _ => rfl)


end Go.Proofs.Ytfpnjpbdaniomaa

/-
  A masked frame's bytes.
-/
set_option linter.unusedVariables false
set_option linter.unusedSimpArgs false
open Go Go.Am
namespace Go.Proofs.Ytfpnjpbdaniomaa

noncomputable def KFr : Ctr := ctrOf E [(37, anyA, rmask_k)]
theorem KFr_ok : KOk E KFr := ctr_cons rmask_k_ok ctr_nil

theorem frm_p0_2 (fin : Bool) (op : Int) (d : ByteArray) : goFinB E KFr 2000 181 (some [false, false, false, false, false, false, true, true, true, true]) [] [6] [] (startC E 13 ([Value.bool fin, Value.int IntKind.i64 op, Value.string d]) ([])) = some (and ([UInt8.ofNat (IntKind.u8.wrap (IntKind.i64.wrap (IntKind.i64.wrap (0 + op) + 128))).toNat, UInt8.ofNat (IntKind.u8.wrap (IntKind.i64.wrap (128 + (↑(slen d) : Int)))).toNat, UInt8.ofNat 1, UInt8.ofNat 2, UInt8.ofNat 3, UInt8.ofNat 4] == [UInt8.ofNat (IntKind.u8.wrap (IntKind.i64.wrap (IntKind.i64.wrap (0 + op) + 128))).toNat, UInt8.ofNat (IntKind.u8.wrap (IntKind.i64.wrap (128 + (↑(slen d) : Int)))).toNat, UInt8.ofNat 1, UInt8.ofNat 2, UInt8.ofNat 3, UInt8.ofNat 4]) (and (decide (slen (bytesOf [Value.int IntKind.u8 (IntKind.u8.wrap (IntKind.i64.wrap (IntKind.i64.wrap (0 + op) + 128))), Value.int IntKind.u8 (IntKind.u8.wrap (IntKind.i64.wrap (128 + (↑(slen d) : Int)))), Value.int IntKind.u8 1, Value.int IntKind.u8 2, Value.int IntKind.u8 3, Value.int IntKind.u8 4]) + slen (maskD [1, 2, 3, 4] 0 d) ≤ 9223372036854775807)) (and (pdec (rmask_pre 1 2 3 4 0 d)) (and ((decide ((↑(slen d) : Int) ≤ 125)) == true) (and (fin == true) (and ((decide (15 < op)) == false) (and ((decide (op < 0)) == false) (true))))))), Value.string (cat (bytesOf [Value.int IntKind.u8 (IntKind.u8.wrap (IntKind.i64.wrap (IntKind.i64.wrap (0 + op) + 128))), Value.int IntKind.u8 (IntKind.u8.wrap (IntKind.i64.wrap (128 + (↑(slen d) : Int)))), Value.int IntKind.u8 1, Value.int IntKind.u8 2, Value.int IntKind.u8 3, Value.int IntKind.u8 4]) (maskD [1, 2, 3, 4] 0 d)), []) := by kernel_rfl
theorem frm_w0_2 (fin : Bool) (op : Int) (d : ByteArray) (h0 : ([UInt8.ofNat (IntKind.u8.wrap (IntKind.i64.wrap (IntKind.i64.wrap (0 + op) + 128))).toNat, UInt8.ofNat (IntKind.u8.wrap (IntKind.i64.wrap (128 + (↑(slen d) : Int)))).toNat, UInt8.ofNat 1, UInt8.ofNat 2, UInt8.ofNat 3, UInt8.ofNat 4] == [UInt8.ofNat (IntKind.u8.wrap (IntKind.i64.wrap (IntKind.i64.wrap (0 + op) + 128))).toNat, UInt8.ofNat (IntKind.u8.wrap (IntKind.i64.wrap (128 + (↑(slen d) : Int)))).toNat, UInt8.ofNat 1, UInt8.ofNat 2, UInt8.ofNat 3, UInt8.ofNat 4]) = true) (h1 : slen (bytesOf [Value.int IntKind.u8 (IntKind.u8.wrap (IntKind.i64.wrap (IntKind.i64.wrap (0 + op) + 128))), Value.int IntKind.u8 (IntKind.u8.wrap (IntKind.i64.wrap (128 + (↑(slen d) : Int)))), Value.int IntKind.u8 1, Value.int IntKind.u8 2, Value.int IntKind.u8 3, Value.int IntKind.u8 4]) + slen (maskD [1, 2, 3, 4] 0 d) ≤ 9223372036854775807) (h2 : rmask_pre 1 2 3 4 0 d) (h3 : (decide ((↑(slen d) : Int) ≤ 125)) = true) (h4 : fin = true) (h5 : (decide (15 < op)) = false) (h6 : (decide (op < 0)) = false) : AEnds E 13 0 (startC E 13 ([Value.bool fin, Value.int IntKind.i64 op, Value.string d]) ([])) (Value.string (cat (bytesOf [Value.int IntKind.u8 (IntKind.u8.wrap (IntKind.i64.wrap (IntKind.i64.wrap (0 + op) + 128))), Value.int IntKind.u8 (IntKind.u8.wrap (IntKind.i64.wrap (128 + (↑(slen d) : Int)))), Value.int IntKind.u8 1, Value.int IntKind.u8 2, Value.int IntKind.u8 3, Value.int IntKind.u8 4]) (maskD [1, 2, 3, 4] 0 d))) ([]) := by
 exact ends_ofB KFr_ok (frm_p0_2 fin op d) (andI (h0) (andI (decide_eq_true h1) (andI (pdec_iff.2 h2) (andI (dT h3) (andI (dT h4) (andI (dF h5) (andI (dF h6) (rfl)))))))) (by kernel_rfl) (Nat.le_of_ble_eq_true (by kernel_rfl)) (fun i hi => absurd hi (Nat.not_lt_zero _)) (fun i hi => absurd hi (Nat.not_lt_zero _))
theorem frm_p0_3 (fin : Bool) (op : Int) (d : ByteArray) : goFinB E KFr 2000 192 (some [false, false, false, false, false, false, true, true, false, true, true]) [] [6] [] (startC E 13 ([Value.bool fin, Value.int IntKind.i64 op, Value.string d]) ([])) = some (and ([UInt8.ofNat (IntKind.u8.wrap (IntKind.i64.wrap (IntKind.i64.wrap (0 + op) + 128))).toNat, UInt8.ofNat 254, UInt8.ofNat (IntKind.u8.wrap (IntKind.i64.wrap ((↑(slen d) : Int).tdiv 256))).toNat, UInt8.ofNat (IntKind.u8.wrap ((↑(slen d) : Int).tmod 256)).toNat, UInt8.ofNat 1, UInt8.ofNat 2, UInt8.ofNat 3, UInt8.ofNat 4] == [UInt8.ofNat (IntKind.u8.wrap (IntKind.i64.wrap (IntKind.i64.wrap (0 + op) + 128))).toNat, UInt8.ofNat 254, UInt8.ofNat (IntKind.u8.wrap (IntKind.i64.wrap ((↑(slen d) : Int).tdiv 256))).toNat, UInt8.ofNat (IntKind.u8.wrap ((↑(slen d) : Int).tmod 256)).toNat, UInt8.ofNat 1, UInt8.ofNat 2, UInt8.ofNat 3, UInt8.ofNat 4]) (and (decide (slen (bytesOf [Value.int IntKind.u8 (IntKind.u8.wrap (IntKind.i64.wrap (IntKind.i64.wrap (0 + op) + 128))), Value.int IntKind.u8 254, Value.int IntKind.u8 (IntKind.u8.wrap (IntKind.i64.wrap ((↑(slen d) : Int).tdiv 256))), Value.int IntKind.u8 (IntKind.u8.wrap ((↑(slen d) : Int).tmod 256)), Value.int IntKind.u8 1, Value.int IntKind.u8 2, Value.int IntKind.u8 3, Value.int IntKind.u8 4]) + slen (maskD [1, 2, 3, 4] 0 d) ≤ 9223372036854775807)) (and (pdec (rmask_pre 1 2 3 4 0 d)) (and ((decide ((↑(slen d) : Int) ≤ 65535)) == true) (and ((decide ((↑(slen d) : Int) ≤ 125)) == false) (and (fin == true) (and ((decide (15 < op)) == false) (and ((decide (op < 0)) == false) (true)))))))), Value.string (cat (bytesOf [Value.int IntKind.u8 (IntKind.u8.wrap (IntKind.i64.wrap (IntKind.i64.wrap (0 + op) + 128))), Value.int IntKind.u8 254, Value.int IntKind.u8 (IntKind.u8.wrap (IntKind.i64.wrap ((↑(slen d) : Int).tdiv 256))), Value.int IntKind.u8 (IntKind.u8.wrap ((↑(slen d) : Int).tmod 256)), Value.int IntKind.u8 1, Value.int IntKind.u8 2, Value.int IntKind.u8 3, Value.int IntKind.u8 4]) (maskD [1, 2, 3, 4] 0 d)), []) := by kernel_rfl
theorem frm_w0_3 (fin : Bool) (op : Int) (d : ByteArray) (h0 : ([UInt8.ofNat (IntKind.u8.wrap (IntKind.i64.wrap (IntKind.i64.wrap (0 + op) + 128))).toNat, UInt8.ofNat 254, UInt8.ofNat (IntKind.u8.wrap (IntKind.i64.wrap ((↑(slen d) : Int).tdiv 256))).toNat, UInt8.ofNat (IntKind.u8.wrap ((↑(slen d) : Int).tmod 256)).toNat, UInt8.ofNat 1, UInt8.ofNat 2, UInt8.ofNat 3, UInt8.ofNat 4] == [UInt8.ofNat (IntKind.u8.wrap (IntKind.i64.wrap (IntKind.i64.wrap (0 + op) + 128))).toNat, UInt8.ofNat 254, UInt8.ofNat (IntKind.u8.wrap (IntKind.i64.wrap ((↑(slen d) : Int).tdiv 256))).toNat, UInt8.ofNat (IntKind.u8.wrap ((↑(slen d) : Int).tmod 256)).toNat, UInt8.ofNat 1, UInt8.ofNat 2, UInt8.ofNat 3, UInt8.ofNat 4]) = true) (h1 : slen (bytesOf [Value.int IntKind.u8 (IntKind.u8.wrap (IntKind.i64.wrap (IntKind.i64.wrap (0 + op) + 128))), Value.int IntKind.u8 254, Value.int IntKind.u8 (IntKind.u8.wrap (IntKind.i64.wrap ((↑(slen d) : Int).tdiv 256))), Value.int IntKind.u8 (IntKind.u8.wrap ((↑(slen d) : Int).tmod 256)), Value.int IntKind.u8 1, Value.int IntKind.u8 2, Value.int IntKind.u8 3, Value.int IntKind.u8 4]) + slen (maskD [1, 2, 3, 4] 0 d) ≤ 9223372036854775807) (h2 : rmask_pre 1 2 3 4 0 d) (h3 : (decide ((↑(slen d) : Int) ≤ 65535)) = true) (h4 : (decide ((↑(slen d) : Int) ≤ 125)) = false) (h5 : fin = true) (h6 : (decide (15 < op)) = false) (h7 : (decide (op < 0)) = false) : AEnds E 13 0 (startC E 13 ([Value.bool fin, Value.int IntKind.i64 op, Value.string d]) ([])) (Value.string (cat (bytesOf [Value.int IntKind.u8 (IntKind.u8.wrap (IntKind.i64.wrap (IntKind.i64.wrap (0 + op) + 128))), Value.int IntKind.u8 254, Value.int IntKind.u8 (IntKind.u8.wrap (IntKind.i64.wrap ((↑(slen d) : Int).tdiv 256))), Value.int IntKind.u8 (IntKind.u8.wrap ((↑(slen d) : Int).tmod 256)), Value.int IntKind.u8 1, Value.int IntKind.u8 2, Value.int IntKind.u8 3, Value.int IntKind.u8 4]) (maskD [1, 2, 3, 4] 0 d))) ([]) := by
 exact ends_ofB KFr_ok (frm_p0_3 fin op d) (andI (h0) (andI (decide_eq_true h1) (andI (pdec_iff.2 h2) (andI (dT h3) (andI (dF h4) (andI (dT h5) (andI (dF h6) (andI (dF h7) (rfl))))))))) (by kernel_rfl) (Nat.le_of_ble_eq_true (by kernel_rfl)) (fun i hi => absurd hi (Nat.not_lt_zero _)) (fun i hi => absurd hi (Nat.not_lt_zero _))
theorem frm_p0_5 (fin : Bool) (op : Int) (d : ByteArray) : goFinB E KFr 2000 177 (some [false, false, false, false, false, false, false, true, true, true]) [] [6] [] (startC E 13 ([Value.bool fin, Value.int IntKind.i64 op, Value.string d]) ([])) = some (and ([UInt8.ofNat (IntKind.u8.wrap (IntKind.i64.wrap (0 + op))).toNat, UInt8.ofNat (IntKind.u8.wrap (IntKind.i64.wrap (128 + (↑(slen d) : Int)))).toNat, UInt8.ofNat 1, UInt8.ofNat 2, UInt8.ofNat 3, UInt8.ofNat 4] == [UInt8.ofNat (IntKind.u8.wrap (IntKind.i64.wrap (0 + op))).toNat, UInt8.ofNat (IntKind.u8.wrap (IntKind.i64.wrap (128 + (↑(slen d) : Int)))).toNat, UInt8.ofNat 1, UInt8.ofNat 2, UInt8.ofNat 3, UInt8.ofNat 4]) (and (decide (slen (bytesOf [Value.int IntKind.u8 (IntKind.u8.wrap (IntKind.i64.wrap (0 + op))), Value.int IntKind.u8 (IntKind.u8.wrap (IntKind.i64.wrap (128 + (↑(slen d) : Int)))), Value.int IntKind.u8 1, Value.int IntKind.u8 2, Value.int IntKind.u8 3, Value.int IntKind.u8 4]) + slen (maskD [1, 2, 3, 4] 0 d) ≤ 9223372036854775807)) (and (pdec (rmask_pre 1 2 3 4 0 d)) (and ((decide ((↑(slen d) : Int) ≤ 125)) == true) (and (fin == false) (and ((decide (15 < op)) == false) (and ((decide (op < 0)) == false) (true))))))), Value.string (cat (bytesOf [Value.int IntKind.u8 (IntKind.u8.wrap (IntKind.i64.wrap (0 + op))), Value.int IntKind.u8 (IntKind.u8.wrap (IntKind.i64.wrap (128 + (↑(slen d) : Int)))), Value.int IntKind.u8 1, Value.int IntKind.u8 2, Value.int IntKind.u8 3, Value.int IntKind.u8 4]) (maskD [1, 2, 3, 4] 0 d)), []) := by kernel_rfl
theorem frm_w0_5 (fin : Bool) (op : Int) (d : ByteArray) (h0 : ([UInt8.ofNat (IntKind.u8.wrap (IntKind.i64.wrap (0 + op))).toNat, UInt8.ofNat (IntKind.u8.wrap (IntKind.i64.wrap (128 + (↑(slen d) : Int)))).toNat, UInt8.ofNat 1, UInt8.ofNat 2, UInt8.ofNat 3, UInt8.ofNat 4] == [UInt8.ofNat (IntKind.u8.wrap (IntKind.i64.wrap (0 + op))).toNat, UInt8.ofNat (IntKind.u8.wrap (IntKind.i64.wrap (128 + (↑(slen d) : Int)))).toNat, UInt8.ofNat 1, UInt8.ofNat 2, UInt8.ofNat 3, UInt8.ofNat 4]) = true) (h1 : slen (bytesOf [Value.int IntKind.u8 (IntKind.u8.wrap (IntKind.i64.wrap (0 + op))), Value.int IntKind.u8 (IntKind.u8.wrap (IntKind.i64.wrap (128 + (↑(slen d) : Int)))), Value.int IntKind.u8 1, Value.int IntKind.u8 2, Value.int IntKind.u8 3, Value.int IntKind.u8 4]) + slen (maskD [1, 2, 3, 4] 0 d) ≤ 9223372036854775807) (h2 : rmask_pre 1 2 3 4 0 d) (h3 : (decide ((↑(slen d) : Int) ≤ 125)) = true) (h4 : fin = false) (h5 : (decide (15 < op)) = false) (h6 : (decide (op < 0)) = false) : AEnds E 13 0 (startC E 13 ([Value.bool fin, Value.int IntKind.i64 op, Value.string d]) ([])) (Value.string (cat (bytesOf [Value.int IntKind.u8 (IntKind.u8.wrap (IntKind.i64.wrap (0 + op))), Value.int IntKind.u8 (IntKind.u8.wrap (IntKind.i64.wrap (128 + (↑(slen d) : Int)))), Value.int IntKind.u8 1, Value.int IntKind.u8 2, Value.int IntKind.u8 3, Value.int IntKind.u8 4]) (maskD [1, 2, 3, 4] 0 d))) ([]) := by
 exact ends_ofB KFr_ok (frm_p0_5 fin op d) (andI (h0) (andI (decide_eq_true h1) (andI (pdec_iff.2 h2) (andI (dT h3) (andI (dF h4) (andI (dF h5) (andI (dF h6) (rfl)))))))) (by kernel_rfl) (Nat.le_of_ble_eq_true (by kernel_rfl)) (fun i hi => absurd hi (Nat.not_lt_zero _)) (fun i hi => absurd hi (Nat.not_lt_zero _))
theorem frm_p0_6 (fin : Bool) (op : Int) (d : ByteArray) : goFinB E KFr 2000 188 (some [false, false, false, false, false, false, false, true, false, true, true]) [] [6] [] (startC E 13 ([Value.bool fin, Value.int IntKind.i64 op, Value.string d]) ([])) = some (and ([UInt8.ofNat (IntKind.u8.wrap (IntKind.i64.wrap (0 + op))).toNat, UInt8.ofNat 254, UInt8.ofNat (IntKind.u8.wrap (IntKind.i64.wrap ((↑(slen d) : Int).tdiv 256))).toNat, UInt8.ofNat (IntKind.u8.wrap ((↑(slen d) : Int).tmod 256)).toNat, UInt8.ofNat 1, UInt8.ofNat 2, UInt8.ofNat 3, UInt8.ofNat 4] == [UInt8.ofNat (IntKind.u8.wrap (IntKind.i64.wrap (0 + op))).toNat, UInt8.ofNat 254, UInt8.ofNat (IntKind.u8.wrap (IntKind.i64.wrap ((↑(slen d) : Int).tdiv 256))).toNat, UInt8.ofNat (IntKind.u8.wrap ((↑(slen d) : Int).tmod 256)).toNat, UInt8.ofNat 1, UInt8.ofNat 2, UInt8.ofNat 3, UInt8.ofNat 4]) (and (decide (slen (bytesOf [Value.int IntKind.u8 (IntKind.u8.wrap (IntKind.i64.wrap (0 + op))), Value.int IntKind.u8 254, Value.int IntKind.u8 (IntKind.u8.wrap (IntKind.i64.wrap ((↑(slen d) : Int).tdiv 256))), Value.int IntKind.u8 (IntKind.u8.wrap ((↑(slen d) : Int).tmod 256)), Value.int IntKind.u8 1, Value.int IntKind.u8 2, Value.int IntKind.u8 3, Value.int IntKind.u8 4]) + slen (maskD [1, 2, 3, 4] 0 d) ≤ 9223372036854775807)) (and (pdec (rmask_pre 1 2 3 4 0 d)) (and ((decide ((↑(slen d) : Int) ≤ 65535)) == true) (and ((decide ((↑(slen d) : Int) ≤ 125)) == false) (and (fin == false) (and ((decide (15 < op)) == false) (and ((decide (op < 0)) == false) (true)))))))), Value.string (cat (bytesOf [Value.int IntKind.u8 (IntKind.u8.wrap (IntKind.i64.wrap (0 + op))), Value.int IntKind.u8 254, Value.int IntKind.u8 (IntKind.u8.wrap (IntKind.i64.wrap ((↑(slen d) : Int).tdiv 256))), Value.int IntKind.u8 (IntKind.u8.wrap ((↑(slen d) : Int).tmod 256)), Value.int IntKind.u8 1, Value.int IntKind.u8 2, Value.int IntKind.u8 3, Value.int IntKind.u8 4]) (maskD [1, 2, 3, 4] 0 d)), []) := by kernel_rfl
theorem frm_w0_6 (fin : Bool) (op : Int) (d : ByteArray) (h0 : ([UInt8.ofNat (IntKind.u8.wrap (IntKind.i64.wrap (0 + op))).toNat, UInt8.ofNat 254, UInt8.ofNat (IntKind.u8.wrap (IntKind.i64.wrap ((↑(slen d) : Int).tdiv 256))).toNat, UInt8.ofNat (IntKind.u8.wrap ((↑(slen d) : Int).tmod 256)).toNat, UInt8.ofNat 1, UInt8.ofNat 2, UInt8.ofNat 3, UInt8.ofNat 4] == [UInt8.ofNat (IntKind.u8.wrap (IntKind.i64.wrap (0 + op))).toNat, UInt8.ofNat 254, UInt8.ofNat (IntKind.u8.wrap (IntKind.i64.wrap ((↑(slen d) : Int).tdiv 256))).toNat, UInt8.ofNat (IntKind.u8.wrap ((↑(slen d) : Int).tmod 256)).toNat, UInt8.ofNat 1, UInt8.ofNat 2, UInt8.ofNat 3, UInt8.ofNat 4]) = true) (h1 : slen (bytesOf [Value.int IntKind.u8 (IntKind.u8.wrap (IntKind.i64.wrap (0 + op))), Value.int IntKind.u8 254, Value.int IntKind.u8 (IntKind.u8.wrap (IntKind.i64.wrap ((↑(slen d) : Int).tdiv 256))), Value.int IntKind.u8 (IntKind.u8.wrap ((↑(slen d) : Int).tmod 256)), Value.int IntKind.u8 1, Value.int IntKind.u8 2, Value.int IntKind.u8 3, Value.int IntKind.u8 4]) + slen (maskD [1, 2, 3, 4] 0 d) ≤ 9223372036854775807) (h2 : rmask_pre 1 2 3 4 0 d) (h3 : (decide ((↑(slen d) : Int) ≤ 65535)) = true) (h4 : (decide ((↑(slen d) : Int) ≤ 125)) = false) (h5 : fin = false) (h6 : (decide (15 < op)) = false) (h7 : (decide (op < 0)) = false) : AEnds E 13 0 (startC E 13 ([Value.bool fin, Value.int IntKind.i64 op, Value.string d]) ([])) (Value.string (cat (bytesOf [Value.int IntKind.u8 (IntKind.u8.wrap (IntKind.i64.wrap (0 + op))), Value.int IntKind.u8 254, Value.int IntKind.u8 (IntKind.u8.wrap (IntKind.i64.wrap ((↑(slen d) : Int).tdiv 256))), Value.int IntKind.u8 (IntKind.u8.wrap ((↑(slen d) : Int).tmod 256)), Value.int IntKind.u8 1, Value.int IntKind.u8 2, Value.int IntKind.u8 3, Value.int IntKind.u8 4]) (maskD [1, 2, 3, 4] 0 d))) ([]) := by
 exact ends_ofB KFr_ok (frm_p0_6 fin op d) (andI (h0) (andI (decide_eq_true h1) (andI (pdec_iff.2 h2) (andI (dT h3) (andI (dF h4) (andI (dF h5) (andI (dF h6) (andI (dF h7) (rfl))))))))) (by kernel_rfl) (Nat.le_of_ble_eq_true (by kernel_rfl)) (fun i hi => absurd hi (Nat.not_lt_zero _)) (fun i hi => absurd hi (Nat.not_lt_zero _))
noncomputable def frH (fin : Bool) (op : Int) (n : Nat) : List UInt8 :=
 UInt8.ofNat (op + bif fin then 128 else 0).toNat :: (if n ≤ 125 then [UInt8.ofNat (128 + n), 1, 2, 3, 4] else [254, UInt8.ofNat (n / 256), UInt8.ofNat (n % 256), 1, 2, 3, 4])
noncomputable def frB (fin : Bool) (op : Int) (d : ByteArray) : ByteArray := cat (ofL (frH fin op (slen d))) (maskD [1, 2, 3, 4] 0 d)
theorem w8_in {x : Int} (h1 : 0 ≤ x) (h2 : x < 256) : IntKind.u8.wrap x = x := by
 have h : IntKind.u8.wrap x = x % 256 := by simp [IntKind.wrap, IntKind.bits, IntKind.signed]
 rw [h]; omega
def frm_pre (fin : Bool) (op : Int) (d : ByteArray) : Prop := (0 ≤ op ∧ op ≤ 15) ∧ slen d ≤ 65535
noncomputable def frm_v (fin : Bool) (op : Int) (d : ByteArray) : Value := .string (frB fin op d)
noncomputable def frm_h (fin : Bool) (op : Int) (d : ByteArray) : Heap := []
theorem frm_call (fin : Bool) (op : Int) (d : ByteArray) (h : frm_pre fin op d) : CallOk E 13 [.bool fin, .int .i64 op, .string d] [] (frm_v fin op d) (frm_h fin op d) := by
 obtain ⟨⟨h1, h2⟩, h3⟩ := h
 refine callOk_of_ends ?_ (by kernel_rfl) (Nat.le_of_ble_eq_true (by kernel_rfl))
 have hm : rmask_pre 1 2 3 4 0 d := ⟨by omega, by decide⟩
 have a1 : decide (op < 0) = false := decide_eq_false (by omega)
 have a2 : decide (15 < op) = false := decide_eq_false (by omega)
 have sm : slen (maskD [1, 2, 3, 4] 0 d) = slen d := by
  unfold maskD
  rw [show decide ((0 : Int) < 0) = false from rfl, cond_false]
  unfold slen ofL toL
  exact maskL_len _ _ _
 have e0 : IntKind.u8.wrap (IntKind.i64.wrap (0 + op)) = op := by rw [wrap64_in (by omega) (by omega), w8_in (by omega) (by omega)]; omega
 have e1 : IntKind.u8.wrap (IntKind.i64.wrap (IntKind.i64.wrap (0 + op) + 128)) = op + 128 := by
  rw [wrap64_in (x := 0 + op) (by omega) (by omega), wrap64_in (by omega) (by omega), w8_in (by omega) (by omega)]; omega
 have e2 : IntKind.u8.wrap (IntKind.i64.wrap ((slen d : Int).tdiv 256)) = ((slen d / 256 : Nat) : Int) := by
  rw [Int.tdiv_eq_ediv_of_nonneg (by omega), wrap64_in (by omega) (by omega), w8_in (by omega) (by omega)]; omega
 have e3 : IntKind.u8.wrap ((slen d : Int).tmod 256) = ((slen d % 256 : Nat) : Int) := by
  rw [Int.tmod_eq_emod_of_nonneg (by omega), w8_in (by omega) (by omega)]; omega
 unfold frm_v frm_h frB frH
 by_cases c : slen d ≤ 125
 ·have e4 : IntKind.u8.wrap (IntKind.i64.wrap (128 + (slen d : Int))) = ((128 + slen d : Nat) : Int) := by rw [wrap64_in (by omega) (by omega), w8_in (by omega) (by omega)]; omega
  have c1 : decide ((slen d : Int) ≤ 125) = true := decide_eq_true (by omega)
  rw [if_pos c]
  cases fin with
  | true =>
   have w := frm_w0_2 true op d (beq_self_eq_true _) (by rw [sm]; show 6 + slen d ≤ _; omega) hm c1 rfl a2 a1
   rw [e1, e4] at w
   exact w
  | false =>
   have w := frm_w0_5 false op d (beq_self_eq_true _) (by rw [sm]; show 6 + slen d ≤ _; omega) hm c1 rfl a2 a1
   rw [e0, e4] at w
   rw [cond_false, Int.add_zero]
   exact w
 ·have c1 : decide ((slen d : Int) ≤ 125) = false := decide_eq_false (by omega)
  have c2 : decide ((slen d : Int) ≤ 65535) = true := decide_eq_true (by omega)
  rw [if_neg c]
  cases fin with
  | true =>
   have w := frm_w0_3 true op d (beq_self_eq_true _) (by rw [sm]; show 8 + slen d ≤ _; omega) hm c2 c1 rfl a2 a1
   rw [e1, e2, e3] at w
   exact w
  | false =>
   have w := frm_w0_6 false op d (beq_self_eq_true _) (by rw [sm]; show 8 + slen d ≤ _; omega) hm c2 c1 rfl a2 a1
   rw [e0, e2, e3] at w
   rw [cond_false, Int.add_zero]
   exact w

def frm_ex (a : List Value) (h : Heap) : Bool × Int × ByteArray := ((toBool (a.getD 0 undef)), (toInt (a.getD 1 undef)), (toStr (a.getD 2 undef)))
noncomputable def frm_k : Ct := kS frm_ex [.bool, .int .i64, .str] [] (fun x => frm_pre (x.1) (x.2.1) (x.2.2)) (fun x => frm_v (x.1) (x.2.1) (x.2.2)) (fun x => frm_h (x.1) (x.2.1) (x.2.2))
theorem frm_k_ok : KFor E 13 frm_k := kS_ok (fun x hx => frm_call (x.1) (x.2.1) (x.2.2) hx) (fun _ _ => rfl) (fun _ _ => rfl)


abbrev turn_R : Type := Int
noncomputable def turn_V (k : Int) (m : Int) (r : Int) : Value := Value.int IntKind.i64 r
noncomputable def turn_H (k : Int) (m : Int) (r : Int) : Heap := []
noncomputable def turn_Q (k : Int) (m : Int) (C : Cfg) (r : turn_R) : Prop :=
 let p := r
 AEnds E 12 0 C (turn_V k m p) (turn_H k m p)
theorem turn_p0_0 (k : Int) (m : Int) : goFinB E noK 2000 29 (some [true]) [] [4] [] (startC E 12 ([Value.int IntKind.i64 k, Value.int IntKind.i64 m]) ([])) = some (and ((decide (k.tmod m < 0)) == true) (and (m != 0) (true)), Value.int IntKind.i64 (IntKind.i64.wrap (k.tmod m + m)), []) := by kernel_rfl
theorem turn_p0_1 (k : Int) (m : Int) : goFinB E noK 2000 24 (some [false]) [] [4] [] (startC E 12 ([Value.int IntKind.i64 k, Value.int IntKind.i64 m]) ([])) = some (and ((decide (k.tmod m < 0)) == false) (and (m != 0) (true)), Value.int IntKind.i64 (k.tmod m), []) := by kernel_rfl
noncomputable def turn_t0 (k : Int) (m : Int) : turn_R :=
 bif decide (k.tmod m < 0) then IntKind.i64.wrap (k.tmod m + m)
 else k.tmod m
def turn_S0 (k : Int) (m : Int) : Prop :=
 ((decide (k.tmod m < 0)) = true → (m != 0) = true) ∧
 ((decide (k.tmod m < 0)) = false → (m != 0) = true)
theorem turn_ok0 (k : Int) (m : Int) (hS : turn_S0 k m) : turn_Q k m (startC E 12 ([Value.int IntKind.i64 k, Value.int IntKind.i64 m]) ([])) (turn_t0 k m) := by
 unfold turn_S0 at hS
 unfold turn_t0
 refine cond_intro (P := turn_Q k m (startC E 12 ([Value.int IntKind.i64 k, Value.int IntKind.i64 m]) ([]))) _ (fun h0 => ?_) (fun h0 => ?_)
 ·skip
  exact ends_ofB noK_ok (turn_p0_0 k m) (andI (dT h0) (andI ((hS.1 h0)) (rfl))) (by kernel_rfl) (Nat.le_of_ble_eq_true (by kernel_rfl)) (fun i hi => absurd hi (Nat.not_lt_zero _)) (fun i hi => absurd hi (Nat.not_lt_zero _))
 ·skip
  exact ends_ofB noK_ok (turn_p0_1 k m) (andI (dF h0) (andI ((hS.2 h0)) (rfl))) (by kernel_rfl) (Nat.le_of_ble_eq_true (by kernel_rfl)) (fun i hi => absurd hi (Nat.not_lt_zero _)) (fun i hi => absurd hi (Nat.not_lt_zero _))
theorem turn_call (k : Int) (m : Int) (hS : turn_S0 k m) : CallOk E 12 ([Value.int IntKind.i64 k, Value.int IntKind.i64 m]) ([]) (turn_V k m (turn_t0 k m)) (turn_H k m (turn_t0 k m)) := callOk_of_ends (turn_ok0 k m hS) (by kernel_rfl) (Nat.le_of_ble_eq_true (by kernel_rfl))
def turn_ex (a : List Value) (h : Heap) : Int × Int := ((toInt (a.getD 0 undef)), (toInt (a.getD 1 undef)))
noncomputable def turn_k : Ct := kS turn_ex [.int .i64, .int .i64] [] (fun x => turn_S0 (x.1) (x.2)) (fun x => turn_V (x.1) (x.2) (turn_t0 (x.1) (x.2))) (fun x => turn_H (x.1) (x.2) (turn_t0 (x.1) (x.2)))
theorem turn_k_ok : KFor E 12 turn_k := kS_ok (fun x hx => turn_call (x.1) (x.2) hx) (fun _ _ => rfl) (fun _ _ => rfl)


end Go.Proofs.Ytfpnjpbdaniomaa
