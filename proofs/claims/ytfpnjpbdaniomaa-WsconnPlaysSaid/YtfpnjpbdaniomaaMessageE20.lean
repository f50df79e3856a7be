/-
  A joiner of frames: what its calls do, way by way, where all is well so far.
-/
import Derived.Test.YtfpnjpbdaniomaaAmSlim
import Derived.Test.YtfpnjpbdaniomaaUtfBb20
import Derived.Test.YtfpnjpbdaniomaaAmFlex
import Derived.Test.YtfpnjpbdaniomaaAmObj
set_option linter.unusedVariables false
set_option linter.unusedSimpArgs false
open Go Go.Am
namespace Go.Proofs.Ytfpnjpbdaniomaa

noncomputable abbrev jb0_st (lim op sum : Int) (va : Value) (vb : Value) (vc : Value) (last : Bool) (lacks : Int) (l : Bool) (n : Int) : Cfg := startC E 58 ([.pointer (some ⟨0, 0, none⟩), .bool l, .int .i64 0, .int .i64 n]) ([some (.cells [.int .i64 lim, .bool true, .int .i64 0, .int .i64 op, .int .i64 sum, va, vb, vc, .bool false, .bool last, .int .i64 lacks] 113 none), none, none])
theorem jb0_w0_0 (lim op sum : Int) (va : Value) (vb : Value) (vc : Value) (last : Bool) (lacks : Int) (l : Bool) (n : Int) (h0 : (decide (n < 0)) = true) : AEnds E 58 3 (jb0_st lim op sum va vb vc last lacks l n) (.int .i64 1002) ([some (.cells [.int .i64 lim, .bool true, .int .i64 1002, .int .i64 op, .int .i64 sum, va, vb, vc, .bool false, .bool last, .int .i64 lacks] 113 none), none, none]) := by
 exact ends_q noK_ok 2000 112 (bs 8 240) [0, 1, 2] [8, 1000000] [0, 1, 2] (andI (dT h0) rfl)
theorem jb0_w0_1 (lim op sum : Int) (va : Value) (vb : Value) (vc : Value) (last : Bool) (lacks : Int) (l : Bool) (n : Int) (h0 : (!true == (op != 0)) = true) (h1 : (decide (n < 0)) = false) : AEnds E 58 3 (jb0_st lim op sum va vb vc last lacks l n) (.int .i64 1002) ([some (.cells [.int .i64 lim, .bool true, .int .i64 1002, .int .i64 op, .int .i64 sum, va, vb, vc, .bool false, .bool last, .int .i64 lacks] 113 none), none, none]) := by
 exact ends_q noK_ok 2000 112 (bs 10 768) [0, 1, 2] [8, 1000000] [0, 1, 2] (andI (dT h0) (andI (dF h1) rfl))
theorem jb0_w0_2 (lim op sum : Int) (va : Value) (vb : Value) (vc : Value) (last : Bool) (lacks : Int) (l : Bool) (n : Int) (h0 : (decide (IntKind.i64.wrap (lim - sum) < n)) = true) (h1 : (!true == (op != 0)) = false) (h2 : (decide (n < 0)) = false) : AEnds E 58 3 (jb0_st lim op sum va vb vc last lacks l n) (.int .i64 1009) ([some (.cells [.int .i64 lim, .bool true, .int .i64 1009, .int .i64 op, .int .i64 sum, va, vb, vc, .bool false, .bool last, .int .i64 lacks] 113 none), none, none]) := by
 exact ends_q noK_ok 2000 115 (bs 11 1536) [0, 1, 2] [8, 1000000] [0, 1, 2] (andI (dT h0) (andI (dF h1) (andI (dF h2) rfl)))
theorem jb0_w0_3 (lim op sum : Int) (va : Value) (vb : Value) (vc : Value) (last : Bool) (lacks : Int) (l : Bool) (n : Int) (h0 : (decide (IntKind.i64.wrap (lim - sum) < n)) = false) (h1 : (!true == (op != 0)) = false) (h2 : (decide (n < 0)) = false) : AEnds E 58 3 (jb0_st lim op sum va vb vc last lacks l n) (.int .i64 0) ([some (.cells [.int .i64 lim, .bool true, .int .i64 0, .int .i64 op, .int .i64 (IntKind.i64.wrap (sum + n)), va, vb, vc, .bool true, .bool l, .int .i64 n] 113 none), none, none]) := by
 exact ends_q noK_ok 2000 122 (bs 11 0) [0, 1, 2] [8, 1000000] [0, 1, 2] (andI (dF h0) (andI (dF h1) (andI (dF h2) rfl)))


noncomputable abbrev jb1_st (lim op sum : Int) (va : Value) (vb : Value) (vc : Value) (last : Bool) (lacks : Int) (l : Bool) (n : Int) : Cfg := startC E 58 ([.pointer (some ⟨0, 0, none⟩), .bool l, .int .i64 1, .int .i64 n]) ([some (.cells [.int .i64 lim, .bool true, .int .i64 0, .int .i64 op, .int .i64 sum, va, vb, vc, .bool false, .bool last, .int .i64 lacks] 113 none), none, none])
theorem jb1_w0_0 (lim op sum : Int) (va : Value) (vb : Value) (vc : Value) (last : Bool) (lacks : Int) (l : Bool) (n : Int) (h0 : (decide (n < 0)) = true) : AEnds E 58 3 (jb1_st lim op sum va vb vc last lacks l n) (.int .i64 1002) ([some (.cells [.int .i64 lim, .bool true, .int .i64 1002, .int .i64 op, .int .i64 sum, va, vb, vc, .bool false, .bool last, .int .i64 lacks] 113 none), none, none]) := by
 exact ends_q noK_ok 2000 112 (bs 8 240) [0, 1, 2] [8, 1000000] [0, 1, 2] (andI (dT h0) rfl)
theorem jb1_w0_1 (lim op sum : Int) (va : Value) (vb : Value) (vc : Value) (last : Bool) (lacks : Int) (l : Bool) (n : Int) (h0 : (!false == (op != 0)) = true) (h1 : (decide (n < 0)) = false) : AEnds E 58 3 (jb1_st lim op sum va vb vc last lacks l n) (.int .i64 1002) ([some (.cells [.int .i64 lim, .bool true, .int .i64 1002, .int .i64 op, .int .i64 sum, va, vb, vc, .bool false, .bool last, .int .i64 lacks] 113 none), none, none]) := by
 exact ends_q noK_ok 2000 112 (bs 10 800) [0, 1, 2] [8, 1000000] [0, 1, 2] (andI (dT h0) (andI (dF h1) rfl))
theorem jb1_w0_2 (lim op sum : Int) (va : Value) (vb : Value) (vc : Value) (last : Bool) (lacks : Int) (l : Bool) (n : Int) (h0 : (decide (IntKind.i64.wrap (lim - sum) < n)) = true) (h1 : (!false == (op != 0)) = false) (h2 : (decide (n < 0)) = false) : AEnds E 58 3 (jb1_st lim op sum va vb vc last lacks l n) (.int .i64 1009) ([some (.cells [.int .i64 lim, .bool true, .int .i64 1009, .int .i64 op, .int .i64 sum, va, vb, vc, .bool false, .bool last, .int .i64 lacks] 113 none), none, none]) := by
 exact ends_q noK_ok 2000 115 (bs 11 1568) [0, 1, 2] [8, 1000000] [0, 1, 2] (andI (dT h0) (andI (dF h1) (andI (dF h2) rfl)))
theorem jb1_w0_3 (lim op sum : Int) (va : Value) (vb : Value) (vc : Value) (last : Bool) (lacks : Int) (l : Bool) (n : Int) (h0 : (decide (IntKind.i64.wrap (lim - sum) < n)) = false) (h1 : (!false == (op != 0)) = false) (h2 : (decide (n < 0)) = false) : AEnds E 58 3 (jb1_st lim op sum va vb vc last lacks l n) (.int .i64 0) ([some (.cells [.int .i64 lim, .bool true, .int .i64 0, .int .i64 1, .int .i64 (IntKind.i64.wrap (sum + n)), va, vb, .pointer (some ⟨3, 0, none⟩), .bool true, .bool l, .int .i64 n] 113 none), none, none, some (.cells [.int .i64 0, .int .u8 0, .int .u8 0, .int .i32 0, .int .i64 0, .bool false] 106 none)]) := by
 exact ends_q noK_ok 2000 147 (bs 11 1056) [0, 1, 2, 3] [8, 1000000] [0, 1, 2, 3] (andI (dF h0) (andI (dF h1) (andI (dF h2) rfl)))


noncomputable abbrev jb2_st (lim op sum : Int) (va : Value) (vb : Value) (vc : Value) (last : Bool) (lacks : Int) (l : Bool) (n : Int) : Cfg := startC E 58 ([.pointer (some ⟨0, 0, none⟩), .bool l, .int .i64 2, .int .i64 n]) ([some (.cells [.int .i64 lim, .bool true, .int .i64 0, .int .i64 op, .int .i64 sum, va, vb, vc, .bool false, .bool last, .int .i64 lacks] 113 none), none, none])
theorem jb2_w0_0 (lim op sum : Int) (va : Value) (vb : Value) (vc : Value) (last : Bool) (lacks : Int) (l : Bool) (n : Int) (h0 : (decide (n < 0)) = true) : AEnds E 58 3 (jb2_st lim op sum va vb vc last lacks l n) (.int .i64 1002) ([some (.cells [.int .i64 lim, .bool true, .int .i64 1002, .int .i64 op, .int .i64 sum, va, vb, vc, .bool false, .bool last, .int .i64 lacks] 113 none), none, none]) := by
 exact ends_q noK_ok 2000 112 (bs 8 240) [0, 1, 2] [8, 1000000] [0, 1, 2] (andI (dT h0) rfl)
theorem jb2_w0_1 (lim op sum : Int) (va : Value) (vb : Value) (vc : Value) (last : Bool) (lacks : Int) (l : Bool) (n : Int) (h0 : (!false == (op != 0)) = true) (h1 : (decide (n < 0)) = false) : AEnds E 58 3 (jb2_st lim op sum va vb vc last lacks l n) (.int .i64 1002) ([some (.cells [.int .i64 lim, .bool true, .int .i64 1002, .int .i64 op, .int .i64 sum, va, vb, vc, .bool false, .bool last, .int .i64 lacks] 113 none), none, none]) := by
 exact ends_q noK_ok 2000 112 (bs 10 864) [0, 1, 2] [8, 1000000] [0, 1, 2] (andI (dT h0) (andI (dF h1) rfl))
theorem jb2_w0_2 (lim op sum : Int) (va : Value) (vb : Value) (vc : Value) (last : Bool) (lacks : Int) (l : Bool) (n : Int) (h0 : (decide (IntKind.i64.wrap (lim - sum) < n)) = true) (h1 : (!false == (op != 0)) = false) (h2 : (decide (n < 0)) = false) : AEnds E 58 3 (jb2_st lim op sum va vb vc last lacks l n) (.int .i64 1009) ([some (.cells [.int .i64 lim, .bool true, .int .i64 1009, .int .i64 op, .int .i64 sum, va, vb, vc, .bool false, .bool last, .int .i64 lacks] 113 none), none, none]) := by
 exact ends_q noK_ok 2000 115 (bs 11 1632) [0, 1, 2] [8, 1000000] [0, 1, 2] (andI (dT h0) (andI (dF h1) (andI (dF h2) rfl)))
theorem jb2_w0_3 (lim op sum : Int) (va : Value) (vb : Value) (vc : Value) (last : Bool) (lacks : Int) (l : Bool) (n : Int) (h0 : (decide (IntKind.i64.wrap (lim - sum) < n)) = false) (h1 : (!false == (op != 0)) = false) (h2 : (decide (n < 0)) = false) : AEnds E 58 3 (jb2_st lim op sum va vb vc last lacks l n) (.int .i64 0) ([some (.cells [.int .i64 lim, .bool true, .int .i64 0, .int .i64 2, .int .i64 (IntKind.i64.wrap (sum + n)), va, vb, .pointer (some ⟨3, 0, none⟩), .bool true, .bool l, .int .i64 n] 113 none), none, none, some (.cells [.int .i64 0, .int .u8 0, .int .u8 0, .int .i32 0, .int .i64 0, .bool false] 106 none)]) := by
 exact ends_q noK_ok 2000 147 (bs 11 1120) [0, 1, 2, 3] [8, 1000000] [0, 1, 2, 3] (andI (dF h0) (andI (dF h1) (andI (dF h2) rfl)))


noncomputable abbrev je0_st (lim op sum : Int) (va : Value) (vb : Value) (vc : Value) : Cfg := startC E 60 ([.pointer (some ⟨0, 0, none⟩)]) ([some (.cells [.int .i64 lim, .bool true, .int .i64 0, .int .i64 op, .int .i64 sum, va, vb, vc, .bool true, .bool false, .int .i64 0] 113 none), none, none])
theorem je0_w0_0 (lim op sum : Int) (va : Value) (vb : Value) (vc : Value) : AEnds E 60 3 (je0_st lim op sum va vb vc) (.tuple #[.agg #[.int .i64 0, .string { data := #[] }], .bool false, .int .i64 0]) ([some (.cells [.int .i64 lim, .bool true, .int .i64 0, .int .i64 op, .int .i64 sum, va, vb, vc, .bool false, .bool false, .int .i64 0] 113 none), none, none, some (.cells [.int .i64 0, .string { data := #[] }] 129 none)]) := by
 exact ends_q noK_ok 2000 110 (bs 9 256) [0, 1, 2, 3] [2, 3, 4, 1000000] [0, 1, 2, 3] (rfl)


noncomputable abbrev je1_st (lim op sum : Int) (va : Value) (left low : Int) (high x at' : Int) (cbad : Bool) : Cfg := startC E 60 ([.pointer (some ⟨0, 0, none⟩)]) ([some (.cells [.int .i64 lim, .bool true, .int .i64 0, .int .i64 op, .int .i64 sum, va, .slice none 0 0, .pointer (some ⟨1, 0, none⟩), .bool true, .bool true, .int .i64 0] 113 none), some (.cells [.int .i64 left, .int .u8 low, .int .u8 high, .int .i32 x, .int .i64 at', .bool cbad] 106 none), none])
theorem je1_w0_0 (lim op sum : Int) (va : Value) (left low : Int) (high x at' : Int) (cbad : Bool) (h0 : (!left == 0) = true) (h1 : (!cbad) = true) (h2 : (op == 1) = true) : AEnds E 60 3 (je1_st lim op sum va left low high x at' cbad) (.tuple #[.agg #[.int .i64 0, .string { data := #[] }], .bool false, .int .i64 1007]) ([some (.cells [.int .i64 lim, .bool true, .int .i64 1007, .int .i64 op, .int .i64 sum, va, .slice none 0 0, .pointer (some ⟨1, 0, none⟩), .bool true, .bool true, .int .i64 0] 113 none), some (.cells [.int .i64 left, .int .u8 low, .int .u8 high, .int .i32 x, .int .i64 at', .bool cbad] 106 none), none, some (.cells [.int .i64 0, .string { data := #[] }] 129 none)]) := by
 exact ends_q noK_ok 2000 148 (bs 11 2016) [0, 1, 2, 3] [2, 3, 4, 1000000] [0, 1, 2, 3] (andI (dT h0) (andI (dT h1) (andI (dT h2) rfl)))
theorem je1_w0_1 (lim op sum : Int) (va : Value) (left low : Int) (high x at' : Int) (cbad : Bool) (h0 : (!left == 0) = false) (h1 : (!cbad) = true) (h2 : (op == 1) = true) : AEnds E 60 3 (je1_st lim op sum va left low high x at' cbad) (.tuple #[.agg #[.int .i64 op, .string { data := #[] }], .bool true, .int .i64 0]) ([some (.cells [.int .i64 lim, .bool true, .int .i64 0, .int .i64 0, .int .i64 0, .pointer none, .slice none 0 0, .pointer (some ⟨1, 0, none⟩), .bool false, .bool true, .int .i64 0] 113 none), some (.cells [.int .i64 left, .int .u8 low, .int .u8 high, .int .i32 x, .int .i64 at', .bool cbad] 106 none), none, some (.cells [.int .i64 op, .string { data := #[] }] 129 none)]) := by
 exact ends_q noK_ok 2000 170 (bs 11 480) [0, 1, 2, 3] [2, 3, 4, 1000000] [0, 1, 2, 3] (and4 (beq_self_eq_true (op)) (dF h0) (dT h1) (dT h2) rfl)
theorem je1_w0_2 (lim op sum : Int) (va : Value) (left low : Int) (high x at' : Int) (cbad : Bool) (h0 : (!cbad) = false) (h1 : (op == 1) = true) : AEnds E 60 3 (je1_st lim op sum va left low high x at' cbad) (.tuple #[.agg #[.int .i64 0, .string { data := #[] }], .bool false, .int .i64 1007]) ([some (.cells [.int .i64 lim, .bool true, .int .i64 1007, .int .i64 op, .int .i64 sum, va, .slice none 0 0, .pointer (some ⟨1, 0, none⟩), .bool true, .bool true, .int .i64 0] 113 none), some (.cells [.int .i64 left, .int .u8 low, .int .u8 high, .int .i32 x, .int .i64 at', .bool cbad] 106 none), none, some (.cells [.int .i64 0, .string { data := #[] }] 129 none)]) := by
 exact ends_q noK_ok 2000 148 (bs 11 1760) [0, 1, 2, 3] [2, 3, 4, 1000000] [0, 1, 2, 3] (andI (dF h0) (andI (dT h1) rfl))
theorem je1_w0_3 (lim op sum : Int) (va : Value) (left low : Int) (high x at' : Int) (cbad : Bool) (h0 : (op == 1) = false) : AEnds E 60 3 (je1_st lim op sum va left low high x at' cbad) (.tuple #[.agg #[.int .i64 op, .string { data := #[] }], .bool true, .int .i64 0]) ([some (.cells [.int .i64 lim, .bool true, .int .i64 0, .int .i64 0, .int .i64 0, .pointer none, .slice none 0 0, .pointer (some ⟨1, 0, none⟩), .bool false, .bool true, .int .i64 0] 113 none), some (.cells [.int .i64 left, .int .u8 low, .int .u8 high, .int .i32 x, .int .i64 at', .bool cbad] 106 none), none, some (.cells [.int .i64 op, .string { data := #[] }] 129 none)]) := by
 exact ends_q noK_ok 2000 145 (bs 9 32) [0, 1, 2, 3] [2, 3, 4, 1000000] [0, 1, 2, 3] (andI (beq_self_eq_true (op)) (andI (dF h0) rfl))


noncomputable abbrev je2_st (lim op sum : Int) (va : Value) (bn : Nat) (B : List Value) (left low : Int) (high x at' : Int) (cbad : Bool) : Cfg := startC E 60 ([.pointer (some ⟨0, 0, none⟩)]) ([some (.cells [.int .i64 lim, .bool true, .int .i64 0, .int .i64 op, .int .i64 sum, va, .slice (some ⟨2, 0, none⟩) bn 0, .pointer (some ⟨1, 0, none⟩), .bool true, .bool true, .int .i64 0] 113 none), some (.cells [.int .i64 left, .int .u8 low, .int .u8 high, .int .i32 x, .int .i64 at', .bool cbad] 106 none), some (.cells B 5 (some 1))])
theorem je2_w0_0 (lim op sum : Int) (va : Value) (bn : Nat) (B : List Value) (left low : Int) (high x at' : Int) (cbad : Bool) (h0 : (!left == 0) = true) (h1 : (!cbad) = true) (h2 : (op == 1) = true) : AEnds E 60 3 (je2_st lim op sum va bn B left low high x at' cbad) (.tuple #[.agg #[.int .i64 0, .string { data := #[] }], .bool false, .int .i64 1007]) ([some (.cells [.int .i64 lim, .bool true, .int .i64 1007, .int .i64 op, .int .i64 sum, va, .slice (some ⟨2, 0, none⟩) bn 0, .pointer (some ⟨1, 0, none⟩), .bool true, .bool true, .int .i64 0] 113 none), some (.cells [.int .i64 left, .int .u8 low, .int .u8 high, .int .i32 x, .int .i64 at', .bool cbad] 106 none), some (.cells B 5 (some 1)), some (.cells [.int .i64 0, .string { data := #[] }] 129 none)]) := by
 exact ends_q noK_ok 2000 148 (bs 11 2016) [0, 1, 2, 3] [2, 3, 4, 1000000] [0, 1, 2, 3] (andI (dT h0) (andI (dT h1) (andI (dT h2) rfl)))
theorem je2_w0_1 (lim op sum : Int) (va : Value) (bn : Nat) (B : List Value) (left low : Int) (high x at' : Int) (cbad : Bool) (h0 : 0 < (bn : Int)) (h1 : (bn : Int) ≤ 9223372036854775807) (h2 : 0 + (bn : Int).toNat ≤ B.length) (h3 : ((List.take (bn : Int).toNat (List.drop 0 B)).all (isInt .u8)) = true) (h4 : 0 < bn) (h5 : (!left == 0) = false) (h6 : (!cbad) = true) (h7 : (op == 1) = true) : AEnds E 60 3 (je2_st lim op sum va bn B left low high x at' cbad) (.tuple #[.agg #[.int .i64 op, .string (bytesOf (List.take (bn : Int).toNat (List.drop 0 B)))], .bool true, .int .i64 0]) ([some (.cells [.int .i64 lim, .bool true, .int .i64 0, .int .i64 0, .int .i64 0, .pointer none, .slice none 0 0, .pointer (some ⟨1, 0, none⟩), .bool false, .bool true, .int .i64 0] 113 none), some (.cells [.int .i64 left, .int .u8 low, .int .u8 high, .int .i32 x, .int .i64 at', .bool cbad] 106 none), none, some (.cells [.int .i64 op, .string (bytesOf (List.take (bn : Int).toNat (List.drop 0 B)))] 129 none)]) := by
 exact ends_q noK_ok 2000 170 (bs 11 480) [0, 1, 2, 3] [2, 3, 4, 1000000] [0, 1, 2, 3] (and8 (beq_self_eq_true (op)) (decide_eq_true h0) (decide_eq_true h1) (decide_eq_true h2) h3 (decide_eq_true h4) (dF h5) (dT h6) (andI (dT h7) rfl))
theorem je2_w0_2 (lim op sum : Int) (va : Value) (bn : Nat) (B : List Value) (left low : Int) (high x at' : Int) (cbad : Bool) (h0 : (!cbad) = false) (h1 : (op == 1) = true) : AEnds E 60 3 (je2_st lim op sum va bn B left low high x at' cbad) (.tuple #[.agg #[.int .i64 0, .string { data := #[] }], .bool false, .int .i64 1007]) ([some (.cells [.int .i64 lim, .bool true, .int .i64 1007, .int .i64 op, .int .i64 sum, va, .slice (some ⟨2, 0, none⟩) bn 0, .pointer (some ⟨1, 0, none⟩), .bool true, .bool true, .int .i64 0] 113 none), some (.cells [.int .i64 left, .int .u8 low, .int .u8 high, .int .i32 x, .int .i64 at', .bool cbad] 106 none), some (.cells B 5 (some 1)), some (.cells [.int .i64 0, .string { data := #[] }] 129 none)]) := by
 exact ends_q noK_ok 2000 148 (bs 11 1760) [0, 1, 2, 3] [2, 3, 4, 1000000] [0, 1, 2, 3] (andI (dF h0) (andI (dT h1) rfl))
theorem je2_w0_3 (lim op sum : Int) (va : Value) (bn : Nat) (B : List Value) (left low : Int) (high x at' : Int) (cbad : Bool) (h0 : 0 < (bn : Int)) (h1 : (bn : Int) ≤ 9223372036854775807) (h2 : 0 + (bn : Int).toNat ≤ B.length) (h3 : ((List.take (bn : Int).toNat (List.drop 0 B)).all (isInt .u8)) = true) (h4 : 0 < bn) (h5 : (op == 1) = false) : AEnds E 60 3 (je2_st lim op sum va bn B left low high x at' cbad) (.tuple #[.agg #[.int .i64 op, .string (bytesOf (List.take (bn : Int).toNat (List.drop 0 B)))], .bool true, .int .i64 0]) ([some (.cells [.int .i64 lim, .bool true, .int .i64 0, .int .i64 0, .int .i64 0, .pointer none, .slice none 0 0, .pointer (some ⟨1, 0, none⟩), .bool false, .bool true, .int .i64 0] 113 none), some (.cells [.int .i64 left, .int .u8 low, .int .u8 high, .int .i32 x, .int .i64 at', .bool cbad] 106 none), none, some (.cells [.int .i64 op, .string (bytesOf (List.take (bn : Int).toNat (List.drop 0 B)))] 129 none)]) := by
 exact ends_q noK_ok 2000 145 (bs 9 32) [0, 1, 2, 3] [2, 3, 4, 1000000] [0, 1, 2, 3] (andI (beq_self_eq_true (op)) (andI (decide_eq_true h0) (andI (decide_eq_true h1) (and4 (decide_eq_true h2) h3 (decide_eq_true h4) (dF h5) rfl))))


noncomputable abbrev jo_st (lim bad : Int) (op sum : Int) (va : Value) (vb : Value) (vc : Value) (begun last : Bool) (lacks : Int) : Cfg := startC E 42 ([.pointer (some ⟨0, 0, none⟩)]) ([some (.cells [.int .i64 lim, .bool true, .int .i64 bad, .int .i64 op, .int .i64 sum, va, vb, vc, .bool begun, .bool last, .int .i64 lacks] 113 none), none, none])
theorem jo_w0_0 (lim bad : Int) (op sum : Int) (va : Value) (vb : Value) (vc : Value) (begun last : Bool) (lacks : Int) (h0 : (bad == 0) = true) : AEnds E 42 3 (jo_st lim bad op sum va vb vc begun last lacks) (.bool (op != 0)) ([some (.cells [.int .i64 lim, .bool true, .int .i64 bad, .int .i64 op, .int .i64 sum, va, vb, vc, .bool begun, .bool last, .int .i64 lacks] 113 none), none, none]) := by
 exact ends_q noK_ok 2000 43 (bs 3 6) [0, 1, 2] [2, 1000000] [0, 1, 2] (andI (dT h0) rfl)
theorem jo_w0_1 (lim bad : Int) (op sum : Int) (va : Value) (vb : Value) (vc : Value) (begun last : Bool) (lacks : Int) (h0 : (bad == 0) = false) : AEnds E 42 3 (jo_st lim bad op sum va vb vc begun last lacks) (.bool false) ([some (.cells [.int .i64 lim, .bool true, .int .i64 bad, .int .i64 op, .int .i64 sum, va, vb, vc, .bool begun, .bool last, .int .i64 lacks] 113 none), none, none]) := by
 exact ends_q noK_ok 2000 43 (bs 3 2) [0, 1, 2] [2, 1000000] [0, 1, 2] (andI (dF h0) rfl)


noncomputable abbrev jn_st (lim : Int) : Cfg := startC E 28 ([.int .i64 lim]) ([])
theorem jn_w0_0 (lim : Int) (h0 : (decide (lim < 0)) = true) : AEnds E 28 0 (jn_st lim) (.tuple #[.pointer none, .int .i64 1]) ([]) := by
 exact ends_q noK_ok 2000 21 (bs 2 3) [] [2, 3, 1000000] [] (andI (dT h0) rfl)
theorem jn_w0_1 (lim : Int) (h0 : (decide (1099511627776 < lim)) = true) (h1 : (decide (lim < 0)) = false) : AEnds E 28 0 (jn_st lim) (.tuple #[.pointer none, .int .i64 1]) ([]) := by
 exact ends_q noK_ok 2000 21 (bs 2 2) [] [2, 3, 1000000] [] (andI (dT h0) (andI (dF h1) rfl))
theorem jn_w0_2 (lim : Int) (h0 : (decide (1099511627776 < lim)) = false) (h1 : (decide (lim < 0)) = false) : AEnds E 28 0 (jn_st lim) (.tuple #[.pointer (some ⟨0, 0, none⟩), .int .i64 0]) ([some (.cells [.int .i64 lim, .bool true, .int .i64 0, .int .i64 0, .int .i64 0, .pointer none, .slice none 0 0, .pointer none, .bool false, .bool false, .int .i64 0] 113 none)]) := by
 exact ends_q noK_ok 2000 25 (bs 2 0) [0] [2, 3, 1000000] [0] (andI (dF h0) (andI (dF h1) rfl))


end Go.Proofs.Ytfpnjpbdaniomaa

/-
  A joiner of frames: what Piece does, way by way, where all is well so far.
-/
set_option linter.unusedVariables false
set_option linter.unusedSimpArgs false
open Go Go.Am
namespace Go.Proofs.Ytfpnjpbdaniomaa

noncomputable def KJ : Ctr := ctrOf E [(67, ptrA, feed_k)]
theorem KJ_ok : KOk E KJ := ctr_cons feed_k_ok ctr_nil

noncomputable abbrev jp0_st (lim op sum : Int) (last : Bool) (lacks left : Int) (low high : Int) (x at' : Int) (cbad : Bool) (s : ByteArray) : Cfg := startC E 59 ([.pointer (some ⟨0, 0, none⟩), .string s]) ([some (.cells [.int .i64 lim, .bool true, .int .i64 0, .int .i64 op, .int .i64 sum, .pointer none, .slice none 0 0, .pointer (some ⟨1, 0, none⟩), .bool true, .bool last, .int .i64 lacks] 113 none), some (.cells [.int .i64 left, .int .u8 low, .int .u8 high, .int .i32 x, .int .i64 at', .bool cbad] 106 none), none])
theorem jp0_w0_0 (lim op sum : Int) (last : Bool) (lacks left : Int) (low high : Int) (x at' : Int) (cbad : Bool) (s : ByteArray) (h0 : (decide (lacks < ((slen s) : Int))) = true) : AEnds E 59 3 (jp0_st lim op sum last lacks left low high x at' cbad s) (.int .i64 1002) ([some (.cells [.int .i64 lim, .bool true, .int .i64 1002, .int .i64 op, .int .i64 sum, .pointer none, .slice none 0 0, .pointer (some ⟨1, 0, none⟩), .bool true, .bool last, .int .i64 lacks] 113 none), some (.cells [.int .i64 left, .int .u8 low, .int .u8 high, .int .i32 x, .int .i64 at', .bool cbad] 106 none), none]) := by
 exact ends_q KJ_ok 2000 96 (bs 6 48) [0, 1, 2] [4, 1000000] [0, 1, 2] (andI (dT h0) rfl)
theorem jp0_w0_1 (lim op sum : Int) (last : Bool) (lacks left : Int) (low high : Int) (x at' : Int) (cbad : Bool) (s : ByteArray) (r_1 : Q × Int × Bool) (er_1 : feedL (left, low, high, x) at' cbad (toL s) = r_1) (h0 : (!!r_1.2.2) = true) (h1 : feed_pre left low high x at' cbad s) (h2 : (op == 1) = true) (h3 : (decide (lacks < ((slen s) : Int))) = false) : AEnds E 59 3 (jp0_st lim op sum last lacks left low high x at' cbad s) (.int .i64 1007) ([some (.cells [.int .i64 lim, .bool true, .int .i64 1007, .int .i64 op, .int .i64 sum, .pointer none, .slice none 0 0, .pointer (some ⟨1, 0, none⟩), .bool true, .bool last, .int .i64 lacks] 113 none), some (.cells [.int .i64 r_1.1.1, .int .u8 r_1.1.2.1, .int .u8 r_1.1.2.2.1, .int .i32 r_1.1.2.2.2, .int .i64 r_1.2.1, .bool r_1.2.2] 106 none), none]) := by
 subst er_1; exact ends_q KJ_ok 2000 115 (bs 8 224) [0, 1, 2] [4, 1000000] [0, 1, 2] (and4 (dT h0) (pdec_iff.2 h1) (dT h2) (dF h3) rfl)
theorem jp0_w0_3 (lim op sum : Int) (last : Bool) (lacks left : Int) (low high : Int) (x at' : Int) (cbad : Bool) (s : ByteArray) (r_1 : Q × Int × Bool) (er_1 : feedL (left, low, high, x) at' cbad (toL s) = r_1) (h0 : ((List.take (slen s) (ofBytes s)).all one) = true) (h1 : slen s ≤ slen s) (h2 : 0 < slen s) (h3 : slen s * 1 ≤ 140737488355328) (h4 : slen s ≤ 9223372036854775807) (h5 : (decide (slen s = 0)) = false) (h6 : (!!r_1.2.2) = false) (h7 : feed_pre left low high x at' cbad s) (h8 : (op == 1) = true) (h9 : (decide (lacks < ((slen s) : Int))) = false) : AEnds E 59 3 (jp0_st lim op sum last lacks left low high x at' cbad s) (.int .i64 0) ([some (.cells [.int .i64 lim, .bool true, .int .i64 0, .int .i64 op, .int .i64 sum, .pointer (some ⟨0, 5, none⟩), .slice (some ⟨3, 0, none⟩) (slen s) 0, .pointer (some ⟨1, 0, none⟩), .bool true, .bool last, .int .i64 (IntKind.i64.wrap (lacks - ((slen s) : Int)))] 113 none), some (.cells [.int .i64 r_1.1.1, .int .u8 r_1.1.2.1, .int .u8 r_1.1.2.2.1, .int .i32 r_1.1.2.2.2, .int .i64 r_1.2.1, .bool r_1.2.2] 106 none), none, some (.cells (List.take (slen s) (ofBytes s)) 5 (some 1))]) := by
 subst er_1; exact ends_q KJ_ok 2000 157 (bs 9 160) [0, 1, 2, 3] [4, 1000000] [0, 1, 2, 3] (and8 h0 (decide_eq_true h1) (decide_eq_true h2) (decide_eq_true h3) (decide_eq_true h4) (dF h5) (dF h6) (pdec_iff.2 h7) (andI (dT h8) (andI (dF h9) rfl)))
theorem jp0_w0_5 (lim op sum : Int) (last : Bool) (lacks left : Int) (low high : Int) (x at' : Int) (cbad : Bool) (s : ByteArray) (h0 : ((List.take (slen s) (ofBytes s)).all one) = true) (h1 : slen s ≤ slen s) (h2 : 0 < slen s) (h3 : slen s * 1 ≤ 140737488355328) (h4 : slen s ≤ 9223372036854775807) (h5 : (decide (slen s = 0)) = false) (h6 : (op == 1) = false) (h7 : (decide (lacks < ((slen s) : Int))) = false) : AEnds E 59 3 (jp0_st lim op sum last lacks left low high x at' cbad s) (.int .i64 0) ([some (.cells [.int .i64 lim, .bool true, .int .i64 0, .int .i64 op, .int .i64 sum, .pointer (some ⟨0, 5, none⟩), .slice (some ⟨3, 0, none⟩) (slen s) 0, .pointer (some ⟨1, 0, none⟩), .bool true, .bool last, .int .i64 (IntKind.i64.wrap (lacks - ((slen s) : Int)))] 113 none), some (.cells [.int .i64 left, .int .u8 low, .int .u8 high, .int .i32 x, .int .i64 at', .bool cbad] 106 none), none, some (.cells (List.take (slen s) (ofBytes s)) 5 (some 1))]) := by
 exact ends_q KJ_ok 2000 157 (bs 9 128) [0, 1, 2, 3] [4, 1000000] [0, 1, 2, 3] (and8 h0 (decide_eq_true h1) (decide_eq_true h2) (decide_eq_true h3) (decide_eq_true h4) (dF h5) (dF h6) (dF h7) rfl)


noncomputable abbrev jp2_st (lim op sum : Int) (last : Bool) (lacks : Int) (bn : Nat) (B : List Value) (left low : Int) (high x at' : Int) (cbad : Bool) (s : ByteArray) : Cfg := startC E 59 ([.pointer (some ⟨0, 0, none⟩), .string s]) ([some (.cells [.int .i64 lim, .bool true, .int .i64 0, .int .i64 op, .int .i64 sum, .pointer (some ⟨0, 5, none⟩), .slice (some ⟨2, 0, none⟩) bn 0, .pointer (some ⟨1, 0, none⟩), .bool true, .bool last, .int .i64 lacks] 113 none), some (.cells [.int .i64 left, .int .u8 low, .int .u8 high, .int .i32 x, .int .i64 at', .bool cbad] 106 none), some (.cells B 5 (some 1))])
theorem jp2_w0_0 (lim op sum : Int) (last : Bool) (lacks : Int) (bn : Nat) (B : List Value) (left low : Int) (high x at' : Int) (cbad : Bool) (s : ByteArray) (h0 : (decide (lacks < ((slen s) : Int))) = true) : AEnds E 59 3 (jp2_st lim op sum last lacks bn B left low high x at' cbad s) (.int .i64 1002) ([some (.cells [.int .i64 lim, .bool true, .int .i64 1002, .int .i64 op, .int .i64 sum, .pointer (some ⟨0, 5, none⟩), .slice (some ⟨2, 0, none⟩) bn 0, .pointer (some ⟨1, 0, none⟩), .bool true, .bool last, .int .i64 lacks] 113 none), some (.cells [.int .i64 left, .int .u8 low, .int .u8 high, .int .i32 x, .int .i64 at', .bool cbad] 106 none), some (.cells B 5 (some 1))]) := by
 exact ends_q KJ_ok 2000 96 (bs 6 48) [0, 1, 2] [4, 1000000] [0, 1, 2] (andI (dT h0) rfl)
theorem jp2_w0_1 (lim op sum : Int) (last : Bool) (lacks : Int) (bn : Nat) (B : List Value) (left low : Int) (high x at' : Int) (cbad : Bool) (s : ByteArray) (r_1 : Q × Int × Bool) (er_1 : feedL (left, low, high, x) at' cbad (toL s) = r_1) (h0 : (!!r_1.2.2) = true) (h1 : feed_pre left low high x at' cbad s) (h2 : (op == 1) = true) (h3 : (decide (lacks < ((slen s) : Int))) = false) : AEnds E 59 3 (jp2_st lim op sum last lacks bn B left low high x at' cbad s) (.int .i64 1007) ([some (.cells [.int .i64 lim, .bool true, .int .i64 1007, .int .i64 op, .int .i64 sum, .pointer (some ⟨0, 5, none⟩), .slice (some ⟨2, 0, none⟩) bn 0, .pointer (some ⟨1, 0, none⟩), .bool true, .bool last, .int .i64 lacks] 113 none), some (.cells [.int .i64 r_1.1.1, .int .u8 r_1.1.2.1, .int .u8 r_1.1.2.2.1, .int .i32 r_1.1.2.2.2, .int .i64 r_1.2.1, .bool r_1.2.2] 106 none), some (.cells B 5 (some 1))]) := by
 subst er_1; exact ends_q KJ_ok 2000 115 (bs 8 224) [0, 1, 2] [4, 1000000] [0, 1, 2] (and4 (dT h0) (pdec_iff.2 h1) (dT h2) (dF h3) rfl)
theorem jp2_w0_2 (lim op sum : Int) (last : Bool) (lacks : Int) (bn : Nat) (B : List Value) (left low : Int) (high x at' : Int) (cbad : Bool) (s : ByteArray) (r_1 : Q × Int × Bool) (er_1 : feedL (left, low, high, x) at' cbad (toL s) = r_1) (h0 : ((List.take (slen s) (ofBytes s)).all one) = true) (h1 : slen s ≤ slen s) (h2 : 0 + bn * 1 ≤ B.length) (h3 : (bn + slen s) * 1 ≤ 140737488355328) (h4 : bn + slen s ≤ 9223372036854775807) (h5 : (!!r_1.2.2) = false) (h6 : feed_pre left low high x at' cbad s) (h7 : (op == 1) = true) (h8 : (decide (lacks < ((slen s) : Int))) = false) : AEnds E 59 3 (jp2_st lim op sum last lacks bn B left low high x at' cbad s) (.int .i64 0) ([some (.cells [.int .i64 lim, .bool true, .int .i64 0, .int .i64 op, .int .i64 sum, .pointer (some ⟨0, 5, none⟩), .slice (some ⟨3, 0, none⟩) (bn + slen s) 0, .pointer (some ⟨1, 0, none⟩), .bool true, .bool last, .int .i64 (IntKind.i64.wrap (lacks - ((slen s) : Int)))] 113 none), some (.cells [.int .i64 r_1.1.1, .int .u8 r_1.1.2.1, .int .u8 r_1.1.2.2.1, .int .i32 r_1.1.2.2.2, .int .i64 r_1.2.1, .bool r_1.2.2] 106 none), none, some (.cells (List.take (bn * 1) (List.drop 0 B) ++ List.take (slen s) (ofBytes s)) 5 (some 1))]) := by
 subst er_1; exact ends_q KJ_ok 2000 158 (bs 9 32) [0, 1, 2, 3] [4, 1000000] [0, 1, 2, 3] (and8 h0 (decide_eq_true h1) (decide_eq_true h2) (decide_eq_true h3) (decide_eq_true h4) (dF h5) (pdec_iff.2 h6) (dT h7) (andI (dF h8) rfl))
theorem jp2_w0_3 (lim op sum : Int) (last : Bool) (lacks : Int) (bn : Nat) (B : List Value) (left low : Int) (high x at' : Int) (cbad : Bool) (s : ByteArray) (h0 : ((List.take (slen s) (ofBytes s)).all one) = true) (h1 : slen s ≤ slen s) (h2 : 0 + bn * 1 ≤ B.length) (h3 : (bn + slen s) * 1 ≤ 140737488355328) (h4 : bn + slen s ≤ 9223372036854775807) (h5 : (op == 1) = false) (h6 : (decide (lacks < ((slen s) : Int))) = false) : AEnds E 59 3 (jp2_st lim op sum last lacks bn B left low high x at' cbad s) (.int .i64 0) ([some (.cells [.int .i64 lim, .bool true, .int .i64 0, .int .i64 op, .int .i64 sum, .pointer (some ⟨0, 5, none⟩), .slice (some ⟨3, 0, none⟩) (bn + slen s) 0, .pointer (some ⟨1, 0, none⟩), .bool true, .bool last, .int .i64 (IntKind.i64.wrap (lacks - ((slen s) : Int)))] 113 none), some (.cells [.int .i64 left, .int .u8 low, .int .u8 high, .int .i32 x, .int .i64 at', .bool cbad] 106 none), none, some (.cells (List.take (bn * 1) (List.drop 0 B) ++ List.take (slen s) (ofBytes s)) 5 (some 1))]) := by
 exact ends_q KJ_ok 2000 158 (bs 9 0) [0, 1, 2, 3] [4, 1000000] [0, 1, 2, 3] (andI h0 (andI (decide_eq_true h1) (andI (decide_eq_true h2) (and4 (decide_eq_true h3) (decide_eq_true h4) (dF h5) (dF h6) rfl))))


end Go.Proofs.Ytfpnjpbdaniomaa

/-
  A joiner of frames as one packed block: how it stands, as plain data; what its calls do to it.
-/
set_option linter.unusedVariables false
set_option linter.unusedSimpArgs false
set_option maxRecDepth 10000
open Go Go.Am
namespace Go.Proofs.Ytfpnjpbdaniomaa

abbrev JC : Type := Q × Int × Bool
structure JS where
 lim : Int
 op : Int
 sum : Int
 bad : Int
 lacks : Int
 begun : Bool
 last : Bool
 chk : Option JC
 txt : Option ByteArray
noncomputable def vaJ : Option ByteArray → Value
 | none => .pointer none
 | some _ => .pointer (some ⟨0, 5, none⟩)
noncomputable def vbJ : Option ByteArray → Value
 | none => .slice none 0 0
 | some t => .slice (some ⟨2, 0, none⟩) (slen t) 0
noncomputable def vcJ : Option JC → Value
 | none => .pointer none
 | some _ => .pointer (some ⟨1, 0, none⟩)
noncomputable def chO : Option JC → Option Ob
 | none => none
 | some c => some (.cells [.int .i64 c.1.1, .int .u8 c.1.2.1, .int .u8 c.1.2.2.1, .int .i32 c.1.2.2.2, .int .i64 c.2.1, .bool c.2.2] 106 none)
noncomputable def rwO : Option ByteArray → Option Ob
 | none => none
 | some t => some (.cells (ofBytes t) 5 (some 1))
noncomputable def jO (s : JS) (va vb vc : Value) : Ob := .cells [.int .i64 s.lim, .bool true, .int .i64 s.bad, .int .i64 s.op, .int .i64 s.sum, va, vb, vc, .bool s.begun, .bool s.last, .int .i64 s.lacks] 113 none
noncomputable def enc (s : JS) : Heap := [some (jO s (vaJ s.txt) (vbJ s.txt) (vcJ s.chk)), chO s.chk, rwO s.txt]
noncomputable def decC (o : Option Ob) : Option JC :=
 match o with
 | some (.cells c _ _) => some ((toInt (c.getD 0 undef), toInt (c.getD 1 undef), toInt (c.getD 2 undef), toInt (c.getD 3 undef)), toInt (c.getD 4 undef), toBool (c.getD 5 undef))
 | _ => none
noncomputable def decT (o : Option Ob) : Option ByteArray :=
 match o with
 | some (.cells c _ _) => some (bytesOf c)
 | _ => none
noncomputable def dec (J : Heap) : JS :=
 let c := cellsOf J 0
 { lim := toInt (c.getD 0 undef), op := toInt (c.getD 3 undef), sum := toInt (c.getD 4 undef), bad := toInt (c.getD 2 undef), lacks := toInt (c.getD 10 undef), begun := toBool (c.getD 8 undef), last := toBool (c.getD 9 undef), chk := decC (J.getD 1 none), txt := decT (J.getD 2 none) }
theorem ob_back (b : ByteArray) : bytesOf (ofBytes b) = b := by
 unfold bytesOf ofBytes
 rw [List.map_map]
 cases b with
 | mk d =>
  unfold ofL toL
  congr 1
  apply Array.ext'
  simp only [List.map_toArray] 
  conv => rhs; rw [← List.map_id d.toList]
  refine List.map_congr_left fun b _ => ?_
  simp [toInt]
theorem dec_enc (s : JS) : dec (enc s) = s := by
 obtain ⟨lim, op, sum, bad, lacks, begun, last, chk, txt⟩ := s
 have h1 : decC (chO chk) = chk := by cases chk <;> rfl
 have h2 : decT (rwO txt) = txt := by
  cases txt with
  | none => rfl
  | some t => show some (bytesOf (ofBytes t)) = some t; rw [ob_back]
 show JS.mk lim op sum bad lacks begun last (decC (chO chk)) (decT (rwO txt)) = _
 rw [h1, h2]
theorem ob_flat (s : ByteArray) : (ofBytes s).all flat = true := by simp [ofBytes, flat]
theorem ob_len (s : ByteArray) : (ofBytes s).length = slen s := by simp [ofBytes, slen]
theorem take_ob (s : ByteArray) : List.take (slen s) (ofBytes s) = ofBytes s := List.take_of_length_le (by rw [ob_len]; exact Nat.le_refl _)
theorem ob_cat (b s : ByteArray) : ofBytes b ++ ofBytes s = ofBytes (cat b s) := by
 unfold cat
 simp [ofBytes, toL, ofL]
theorem slen_cat (b s : ByteArray) : slen (cat b s) = slen b + slen s := by simp [slen, cat, toL, ofL]
noncomputable def fresh : JC := ((0, 0, 0, 0), 0, false)
noncomputable def beginF (s : JS) (l : Bool) (o n : Int) : Int × JS :=
 bif decide (n < 0) then (1002, { s with bad := 1002 })
 else bif !((o == 0) == (s.op != 0)) then (1002, { s with bad := 1002 })
 else bif decide (IntKind.i64.wrap (s.lim - s.sum) < n) then (1009, { s with bad := 1009 })
 else bif o == 0 then (0, { s with sum := IntKind.i64.wrap (s.sum + n), begun := true, last := l, lacks := n })
 else (0, { s with op := o, sum := IntKind.i64.wrap (s.sum + n), begun := true, last := l, lacks := n, chk := some fresh })
theorem ok1 {a : Bool} (h : a = true) : AllT [a] := AllT.cons.2 ⟨h, AllT.nil⟩
theorem ok2 {a b : Bool} (h : a = true) (h2 : b = true) : AllT [a, b] := AllT.cons.2 ⟨h, ok1 h2⟩
theorem enc_ok (s : JS) : rootO (enc s) = true ∧ noObj (enc s) = true := by
 refine ⟨rfl, ?_⟩
 unfold enc chO rwO jO
 cases s.chk <;> cases s.txt <;> rfl
theorem ren_id (s : JS) (r : Heap) : ∃ ok, AllT ok ∧ renH E (toNew [0, 1, 2]) (enc s ++ r) [0, 1, 2] = some (ok, enc s) := by
 obtain ⟨lim, op, sum, bad, lacks, begun, last, chk, txt⟩ := s
 cases chk <;> cases txt
 ·exact ⟨_, AllT.nil, rfl⟩
 ·exact ⟨_, ok1 (ob_flat _), rfl⟩
 ·exact ⟨_, ok1 rfl, rfl⟩
 ·exact ⟨_, ok2 rfl (ob_flat _), rfl⟩
theorem ren_chk (s : JS) (c : JC) (o : Option Ob) : ∃ ok, AllT ok ∧ renH E (toNew [0, 3, 2]) [some (jO s (vaJ s.txt) (vbJ s.txt) (.pointer (some ⟨3, 0, none⟩))), o, rwO s.txt, chO (some c)] [0, 3, 2] = some (ok, enc { s with chk := some c }) := by
 obtain ⟨lim, op, sum, bad, lacks, begun, last, chk, txt⟩ := s
 cases txt
 ·exact ⟨_, ok1 rfl, rfl⟩
 ·exact ⟨_, ok2 rfl (ob_flat _), rfl⟩
theorem ren_row (s : JS) (t : ByteArray) (o : Option Ob) : ∃ ok, AllT ok ∧ renH E (toNew [0, 1, 3]) [some (jO s (.pointer (some ⟨0, 5, none⟩)) (.slice (some ⟨3, 0, none⟩) (slen t) 0) (vcJ s.chk)), chO s.chk, o, rwO (some t)] [0, 1, 3] = some (ok, enc { s with txt := some t }) := by
 obtain ⟨lim, op, sum, bad, lacks, begun, last, chk, txt⟩ := s
 cases chk
 ·exact ⟨_, ok1 (ob_flat _), rfl⟩
 ·exact ⟨_, ok2 rfl (ob_flat _), rfl⟩
theorem jobj {g : FuncId} {args : List Value} {s s' : JS} {v : Value} {H' : Heap} (l : List Nat) (h : AEnds E g 3 (startC E g args [some (jO s (vaJ s.txt) (vbJ s.txt) (vcJ s.chk)), none, none]) v H') (ha : args.all argO = true) (hv : plainV 3 v = true)
  (hr : ∃ ok, AllT ok ∧ renH E (toNew l) (fillH H' [none, chO s.chk, rwO s.txt]) l = some (ok, enc s'))
  (hx : (apart H' [none, chO s.chk, rwO s.txt] && (nodup l && Nat.beq (l.getD 0 0) 0)) = true) (hc : (canStart E g args && Nat.ble 3 H'.length) = true := by kernel_rfl) : CallOk E g args [some (.obj (enc s))] v [some (.obj (enc s'))] := by
 simp only [Bool.and_eq_true] at hx hc
 refine callOk_objW l (H := [some (jO s (vaJ s.txt) (vbJ s.txt) (vcJ s.chk)), none, none]) (H' := H') (callOk_of_ends h hc.1 (Nat.le_of_ble_eq_true hc.2)) [none, chO s.chk, rwO s.txt] rfl ha hv hr ?_
 rw [(enc_ok s').1, (enc_ok s').2, hx.1, hx.2.1, hx.2.2]
 rfl
theorem jobjA {g : FuncId} {args : List Value} {s s' : JS} {v : Value} {H' : Heap} (l : List Nat) (h : AEnds E g 3 (startC E g args (enc s)) v H') (ha : args.all argO = true) (hv : plainV 3 v = true)
  (hr : ∃ ok, AllT ok ∧ renH E (toNew l) H' l = some (ok, enc s'))
  (hx : (nodup l && Nat.beq (l.getD 0 0) 0) = true) (hc : (canStart E g args && Nat.ble 3 H'.length) = true := by kernel_rfl) : CallOk E g args [some (.obj (enc s))] v [some (.obj (enc s'))] := by
 simp only [Bool.and_eq_true] at hx hc
 obtain ⟨ok, hok, hr⟩ := hr
 exact callOk_obj (callOk_of_ends h hc.1 (Nat.le_of_ble_eq_true hc.2)) ha hv hx.1 hr hok (Nat.eq_of_beq_eq_true hx.2) (enc_ok s').1 (enc_ok s').2
theorem apart1 (x : Option Ob) (a b : Option Ob) : apart [x, none, none] [none, a, b] = true := by cases x <;> rfl
theorem apart2 (x y : Option Ob) (a b : Option Ob) : apart [x, none, none, y] [none, a, b] = true := by cases x <;> rfl
theorem begin_call (s : JS) (l : Bool) (o n : Int) (h0 : s.bad = 0) (h1 : s.begun = false) (ho : o = 0 ∨ o = 1 ∨ o = 2) :
  CallOk E 58 [.pointer (some ⟨0, 0, none⟩), .bool l, .int .i64 o, .int .i64 n] [some (.obj (enc s))] (.int .i64 (beginF s l o n).1) [some (.obj (enc (beginF s l o n).2))] := by
 obtain ⟨lim, op, sum, bad, lacks, begun, last, chk, txt⟩ := s
 dsimp only at h0 h1
 subst h0 h1
 unfold beginF
 dsimp only
 rcases ho with rfl | rfl | rfl
 ·rw [show ((0 : Int) == 0) = true from rfl]
  cases c1 : decide (n < 0) with
  | true => exact jobj [0, 1, 2] (jb0_w0_0 lim op sum (vaJ txt) (vbJ txt) (vcJ chk) last lacks l n c1) rfl rfl (ren_id ⟨lim, op, sum, 1002, lacks, false, last, chk, txt⟩ []) (by rw [apart1]; rfl)
  | false => cases c2 : !(true == (op != 0)) with
   | true => exact jobj [0, 1, 2] (jb0_w0_1 lim op sum (vaJ txt) (vbJ txt) (vcJ chk) last lacks l n c2 c1) rfl rfl (ren_id ⟨lim, op, sum, 1002, lacks, false, last, chk, txt⟩ []) (by rw [apart1]; rfl)
   | false => cases c3 : decide (IntKind.i64.wrap (lim - sum) < n) with
    | true => exact jobj [0, 1, 2] (jb0_w0_2 lim op sum (vaJ txt) (vbJ txt) (vcJ chk) last lacks l n c3 c2 c1) rfl rfl (ren_id ⟨lim, op, sum, 1009, lacks, false, last, chk, txt⟩ []) (by rw [apart1]; rfl)
    | false => exact jobj [0, 1, 2] (jb0_w0_3 lim op sum (vaJ txt) (vbJ txt) (vcJ chk) last lacks l n c3 c2 c1) rfl rfl (ren_id ⟨lim, op, IntKind.i64.wrap (sum + n), 0, n, true, l, chk, txt⟩ []) (by rw [apart1]; rfl)
 ·rw [show ((1 : Int) == 0) = false from rfl]
  cases c1 : decide (n < 0) with
  | true => exact jobj [0, 1, 2] (jb1_w0_0 lim op sum (vaJ txt) (vbJ txt) (vcJ chk) last lacks l n c1) rfl rfl (ren_id ⟨lim, op, sum, 1002, lacks, false, last, chk, txt⟩ []) (by rw [apart1]; rfl)
  | false => cases c2 : !(false == (op != 0)) with
   | true => exact jobj [0, 1, 2] (jb1_w0_1 lim op sum (vaJ txt) (vbJ txt) (vcJ chk) last lacks l n c2 c1) rfl rfl (ren_id ⟨lim, op, sum, 1002, lacks, false, last, chk, txt⟩ []) (by rw [apart1]; rfl)
   | false => cases c3 : decide (IntKind.i64.wrap (lim - sum) < n) with
    | true => exact jobj [0, 1, 2] (jb1_w0_2 lim op sum (vaJ txt) (vbJ txt) (vcJ chk) last lacks l n c3 c2 c1) rfl rfl (ren_id ⟨lim, op, sum, 1009, lacks, false, last, chk, txt⟩ []) (by rw [apart1]; rfl)
    | false => exact jobj [0, 3, 2] (jb1_w0_3 lim op sum (vaJ txt) (vbJ txt) (vcJ chk) last lacks l n c3 c2 c1) rfl rfl (ren_chk ⟨lim, 1, IntKind.i64.wrap (sum + n), 0, n, true, l, chk, txt⟩ fresh (chO chk)) (by rw [apart2]; rfl)
 ·rw [show ((2 : Int) == 0) = false from rfl]
  cases c1 : decide (n < 0) with
  | true => exact jobj [0, 1, 2] (jb2_w0_0 lim op sum (vaJ txt) (vbJ txt) (vcJ chk) last lacks l n c1) rfl rfl (ren_id ⟨lim, op, sum, 1002, lacks, false, last, chk, txt⟩ []) (by rw [apart1]; rfl)
  | false => cases c2 : !(false == (op != 0)) with
   | true => exact jobj [0, 1, 2] (jb2_w0_1 lim op sum (vaJ txt) (vbJ txt) (vcJ chk) last lacks l n c2 c1) rfl rfl (ren_id ⟨lim, op, sum, 1002, lacks, false, last, chk, txt⟩ []) (by rw [apart1]; rfl)
   | false => cases c3 : decide (IntKind.i64.wrap (lim - sum) < n) with
    | true => exact jobj [0, 1, 2] (jb2_w0_2 lim op sum (vaJ txt) (vbJ txt) (vcJ chk) last lacks l n c3 c2 c1) rfl rfl (ren_id ⟨lim, op, sum, 1009, lacks, false, last, chk, txt⟩ []) (by rw [apart1]; rfl)
    | false => exact jobj [0, 3, 2] (jb2_w0_3 lim op sum (vaJ txt) (vbJ txt) (vcJ chk) last lacks l n c3 c2 c1) rfl rfl (ren_chk ⟨lim, 2, IntKind.i64.wrap (sum + n), 0, n, true, l, chk, txt⟩ fresh (chO chk)) (by rw [apart2]; rfl)
end Go.Proofs.Ytfpnjpbdaniomaa

/-
  A joiner of frames as one packed block: Piece, End, Open, New; the contracts.
-/
set_option linter.unusedVariables false
set_option linter.unusedSimpArgs false
set_option maxRecDepth 10000
open Go Go.Am
namespace Go.Proofs.Ytfpnjpbdaniomaa

noncomputable def catO : Option ByteArray → ByteArray → ByteArray
 | none, t => t
 | some b, t => cat b t
noncomputable def txtL : Option ByteArray → Nat
 | none => 0
 | some b => slen b
noncomputable def txtB : Option ByteArray → ByteArray
 | none => ⟨#[]⟩
 | some b => b
noncomputable def chkG : Option JC → JC
 | none => fresh
 | some c => c
noncomputable def fedC (c : JC) (t : ByteArray) : JC := feedL (c.1.1, c.1.2.1, c.1.2.2.1, c.1.2.2.2) c.2.1 c.2.2 (toL t)
noncomputable def pieceF (s : JS) (t : ByteArray) : Int × JS :=
 bif decide (s.lacks < (slen t : Int)) then (1002, { s with bad := 1002 })
 else bif s.op == 1 then
  bif !!(fedC (chkG s.chk) t).2.2 then (1007, { s with bad := 1007, chk := some (fedC (chkG s.chk) t) })
  else (0, { s with chk := some (fedC (chkG s.chk) t), txt := some (catO s.txt t), lacks := IntKind.i64.wrap (s.lacks - (slen t : Int)) })
 else (0, { s with txt := some (catO s.txt t), lacks := IntKind.i64.wrap (s.lacks - (slen t : Int)) })
theorem ob_one (s : ByteArray) : (List.take (slen s) (ofBytes s)).all one = true := by rw [take_ob]; simp [ofBytes, one]
theorem piece_call (s : JS) (t : ByteArray) (c : JC) (hc : s.chk = some c) (h0 : s.bad = 0) (h1 : s.begun = true) (h2 : 0 < slen t) (h3 : txtL s.txt + slen t ≤ 1000000) (hf : feed_pre c.1.1 c.1.2.1 c.1.2.2.1 c.1.2.2.2 c.2.1 c.2.2 t) :
  CallOk E 59 [.pointer (some ⟨0, 0, none⟩), .string t] [some (.obj (enc s))] (.int .i64 (pieceF s t).1) [some (.obj (enc (pieceF s t).2))] := by
 obtain ⟨lim, op, sum, bad, lacks, begun, last, chk, txt⟩ := s
 dsimp only at h0 h1 hc h3
 subst h0 h1 hc
 obtain ⟨⟨left, low, high, x⟩, at', cbad⟩ := c
 unfold pieceF
 dsimp only [chkG]
 have hne : decide (slen t = 0) = false := by simp; omega
 cases txt with
 | none =>
  have h3 : 0 + slen t ≤ 1000000 := h3
  cases c1 : decide (lacks < (slen t : Int)) with
  | true => exact jobjA [0, 1, 2] (jp0_w0_0 lim op sum last lacks left low high x at' cbad t c1) rfl rfl (ren_id ⟨lim, op, sum, 1002, lacks, true, last, some ((left, low, high, x), at', cbad), none⟩ []) rfl
  | false => cases c2 : op == 1 with
   | true =>
    generalize hr : fedC ((left, low, high, x), at', cbad) t = r
    cases c3 : !!r.2.2 with
    | true => exact jobjA [0, 1, 2] (jp0_w0_1 lim op sum last lacks left low high x at' cbad t r hr c3 hf c2 c1) rfl rfl (ren_id ⟨lim, op, sum, 1007, lacks, true, last, some r, none⟩ []) rfl
    | false =>
     have w := jp0_w0_3 lim op sum last lacks left low high x at' cbad t r hr (ob_one t) (Nat.le_refl _) h2 (by omega) (by omega) hne c3 hf c2 c1
     rw [take_ob] at w
     exact jobjA [0, 1, 3] w rfl rfl (ren_row ⟨lim, op, sum, 0, IntKind.i64.wrap (lacks - (slen t : Int)), true, last, some r, none⟩ t none) rfl
   | false =>
    have w := jp0_w0_5 lim op sum last lacks left low high x at' cbad t (ob_one t) (Nat.le_refl _) h2 (by omega) (by omega) hne c2 c1
    rw [take_ob] at w
    exact jobjA [0, 1, 3] w rfl rfl (ren_row ⟨lim, op, sum, 0, IntKind.i64.wrap (lacks - (slen t : Int)), true, last, some ((left, low, high, x), at', cbad), none⟩ t none) rfl
 | some b =>
  have h3 : slen b + slen t ≤ 1000000 := h3
  have hb : List.take (slen b * 1) (List.drop 0 (ofBytes b)) = ofBytes b := by rw [Nat.mul_one, List.drop_zero, take_ob]
  cases c1 : decide (lacks < (slen t : Int)) with
  | true => exact jobjA [0, 1, 2] (jp2_w0_0 lim op sum last lacks (slen b) (ofBytes b) left low high x at' cbad t c1) rfl rfl (ren_id ⟨lim, op, sum, 1002, lacks, true, last, some ((left, low, high, x), at', cbad), some b⟩ []) rfl
  | false => cases c2 : op == 1 with
   | true =>
    generalize hr : fedC ((left, low, high, x), at', cbad) t = r
    cases c3 : !!r.2.2 with
    | true => exact jobjA [0, 1, 2] (jp2_w0_1 lim op sum last lacks (slen b) (ofBytes b) left low high x at' cbad t r hr c3 hf c2 c1) rfl rfl (ren_id ⟨lim, op, sum, 1007, lacks, true, last, some r, some b⟩ []) rfl
    | false =>
     have w := jp2_w0_2 lim op sum last lacks (slen b) (ofBytes b) left low high x at' cbad t r hr (ob_one t) (Nat.le_refl _) (by rw [ob_len]; omega) (by omega) (by omega) c3 hf c2 c1
     rw [take_ob, hb, ob_cat, ← slen_cat] at w
     exact jobjA [0, 1, 3] w rfl rfl (ren_row ⟨lim, op, sum, 0, IntKind.i64.wrap (lacks - (slen t : Int)), true, last, some r, some b⟩ (cat b t) none) rfl
   | false =>
    have w := jp2_w0_3 lim op sum last lacks (slen b) (ofBytes b) left low high x at' cbad t (ob_one t) (Nat.le_refl _) (by rw [ob_len]; omega) (by omega) (by omega) c2 c1
    rw [take_ob, hb, ob_cat, ← slen_cat] at w
    exact jobjA [0, 1, 3] w rfl rfl (ren_row ⟨lim, op, sum, 0, IntKind.i64.wrap (lacks - (slen t : Int)), true, last, some ((left, low, high, x), at', cbad), some b⟩ (cat b t) none) rfl
noncomputable def endF (s : JS) : Int × ByteArray × Bool × Int × JS :=
 bif !s.last then (0, ⟨#[]⟩, false, 0, { s with begun := false })
 else bif (s.op == 1) && (!(chkG s.chk).1.1 == 0 || (chkG s.chk).2.2) then (0, ⟨#[]⟩, false, 1007, { s with bad := 1007 })
 else (s.op, txtB s.txt, true, 0, { s with op := 0, sum := 0, begun := false, txt := none })
theorem end_call (s : JS) (hc : s.last = true → s.chk.isSome = true) (h0 : s.bad = 0) (h1 : s.begun = true) (h2 : s.lacks = 0) (h3 : txtL s.txt ≤ 2000000) (h4 : ∀ b, s.txt = some b → 0 < slen b) :
  CallOk E 60 [.pointer (some ⟨0, 0, none⟩)] [some (.obj (enc s))] (.tuple #[.agg #[.int .i64 (endF s).1, .string (endF s).2.1], .bool (endF s).2.2.1, .int .i64 (endF s).2.2.2.1]) [some (.obj (enc (endF s).2.2.2.2))] := by
 obtain ⟨lim, op, sum, bad, lacks, begun, last, chk, txt⟩ := s
 dsimp only at h0 h1 h2 hc h3 h4
 subst h0 h1 h2
 unfold endF
 dsimp only
 cases last with
 | false => exact jobj [0, 1, 2] (je0_w0_0 lim op sum (vaJ txt) (vbJ txt) (vcJ chk)) rfl rfl (ren_id ⟨lim, op, sum, 0, 0, false, false, chk, txt⟩ [_]) (by rw [apart2]; rfl)
 | true =>
  cases chk with
  | none => exact absurd (hc rfl) (by simp)
  | some c =>
   obtain ⟨⟨left, low, high, x⟩, at', cbad⟩ := c
   dsimp only [chkG]
   cases txt with
   | none =>
    cases c1 : op == 1 with
    | true => cases c2 : cbad with
     | true => 
      have w := je1_w0_2 lim op sum (vaJ none) left low high x at' true rfl c1
      rw [Bool.or_true, Bool.and_true]
      exact jobjA [0, 1, 2] w rfl rfl (ren_id ⟨lim, op, sum, 1007, 0, true, true, some ((left, low, high, x), at', true), none⟩ [_]) rfl
     | false => cases c3 : (!left == 0) with
      | true => exact jobjA [0, 1, 2] (je1_w0_0 lim op sum (vaJ none) left low high x at' false c3 rfl c1) rfl rfl (ren_id ⟨lim, op, sum, 1007, 0, true, true, some ((left, low, high, x), at', false), none⟩ [_]) rfl
      | false => exact jobjA [0, 1, 2] (je1_w0_1 lim op sum (vaJ none) left low high x at' false c3 rfl c1) rfl rfl (ren_id ⟨lim, 0, 0, 0, 0, false, true, some ((left, low, high, x), at', false), none⟩ [_]) rfl
    | false => exact jobjA [0, 1, 2] (je1_w0_3 lim op sum (vaJ none) left low high x at' cbad c1) rfl rfl (ren_id ⟨lim, 0, 0, 0, 0, false, true, some ((left, low, high, x), at', cbad), none⟩ [_]) rfl
   | some b =>
    have hb := h4 b rfl
    have h3 : slen b ≤ 2000000 := h3
    have hn : ((slen b : Int)).toNat = slen b := Int.toNat_natCast _
    have ht : List.take (slen b : Int).toNat (List.drop 0 (ofBytes b)) = ofBytes b := by rw [hn, List.drop_zero, take_ob]
    have hi : (List.take (slen b : Int).toNat (List.drop 0 (ofBytes b))).all (isInt .u8) = true := by rw [ht]; simp [ofBytes, isInt]
    cases c1 : op == 1 with
    | true => cases c2 : cbad with
     | true =>
      have w := je2_w0_2 lim op sum (vaJ (some b)) (slen b) (ofBytes b) left low high x at' true rfl c1
      rw [Bool.or_true, Bool.and_true]
      exact jobjA [0, 1, 2] w rfl rfl (ren_id ⟨lim, op, sum, 1007, 0, true, true, some ((left, low, high, x), at', true), some b⟩ [_]) rfl
     | false => cases c3 : (!left == 0) with
      | true => exact jobjA [0, 1, 2] (je2_w0_0 lim op sum (vaJ (some b)) (slen b) (ofBytes b) left low high x at' false c3 rfl c1) rfl rfl (ren_id ⟨lim, op, sum, 1007, 0, true, true, some ((left, low, high, x), at', false), some b⟩ [_]) rfl
      | false =>
       have w := je2_w0_1 lim op sum (vaJ (some b)) (slen b) (ofBytes b) left low high x at' false (by omega) (by omega) (by rw [ob_len]; omega) hi hb c3 rfl c1
       rw [ht, ob_back] at w
       exact jobjA [0, 1, 2] w rfl rfl (ren_id ⟨lim, 0, 0, 0, 0, false, true, some ((left, low, high, x), at', false), none⟩ [_]) rfl
    | false =>
     have w := je2_w0_3 lim op sum (vaJ (some b)) (slen b) (ofBytes b) left low high x at' cbad (by omega) (by omega) (by rw [ob_len]; omega) hi hb c1
     rw [ht, ob_back] at w
     exact jobjA [0, 1, 2] w rfl rfl (ren_id ⟨lim, 0, 0, 0, 0, false, true, some ((left, low, high, x), at', cbad), none⟩ [_]) rfl
theorem open_call (s : JS) : CallOk E 42 [.pointer (some ⟨0, 0, none⟩)] [some (.obj (enc s))] (.bool ((s.bad == 0) && (s.op != 0))) [some (.obj (enc s))] := by
 obtain ⟨lim, op, sum, bad, lacks, begun, last, chk, txt⟩ := s
 dsimp only
 cases c1 : bad == 0 with
 | true => exact jobj [0, 1, 2] (jo_w0_0 lim bad op sum (vaJ txt) (vbJ txt) (vcJ chk) begun last lacks c1) rfl rfl (ren_id ⟨lim, op, sum, bad, lacks, begun, last, chk, txt⟩ []) (by rw [apart1]; rfl)
 | false => exact jobj [0, 1, 2] (jo_w0_1 lim bad op sum (vaJ txt) (vbJ txt) (vcJ chk) begun last lacks c1) rfl rfl (ren_id ⟨lim, op, sum, bad, lacks, begun, last, chk, txt⟩ []) (by rw [apart1]; rfl)
noncomputable def js0 (lim : Int) : JS := ⟨lim, 0, 0, 0, 0, false, false, none, none⟩
theorem new_call (lim : Int) (h0 : 0 ≤ lim) (h1 : lim ≤ 1099511627776) : CallOk E 28 [.int .i64 lim] [] (.tuple #[.pointer (some ⟨0, 0, none⟩), .int .i64 0]) [some (.obj (enc (js0 lim)))] := by
 have w := callOk_pad (callOk_way (jn_w0_2 lim (decide_eq_false (by omega)) (decide_eq_false (by omega)))) 2
 exact callOk_newObj w rfl rfl rfl
end Go.Proofs.Ytfpnjpbdaniomaa

/-
  A joiner of frames as one packed block: the contracts.
-/
set_option linter.unusedVariables false
set_option linter.unusedSimpArgs false
open Go Go.Am
namespace Go.Proofs.Ytfpnjpbdaniomaa

def JI (J : Heap) : Prop := J = enc (dec J)
theorem JI_enc (s : JS) : JI (enc s) := by unfold JI; rw [dec_enc]

def jbg_pre (J : Heap) (l : Bool) (o n : Int) : Prop := JI J ∧ (dec J).bad = 0 ∧ (dec J).begun = false ∧ (o = 0 ∨ o = 1 ∨ o = 2)
noncomputable def jbgV (J : Heap) (l : Bool) (o n : Int) : Int := (beginF (dec J) l o n).1
noncomputable def jbgJ (J : Heap) (l : Bool) (o n : Int) : Heap := enc (beginF (dec J) l o n).2
noncomputable def jbg_v (J : Heap) (l : Bool) (o n : Int) : Value := .int .i64 (jbgV J l o n)
noncomputable def jbg_h (J : Heap) (l : Bool) (o n : Int) : Heap := [some (.obj (jbgJ J l o n))]
theorem jbg_call (J : Heap) (l : Bool) (o n : Int) (h : jbg_pre J l o n) : CallOk E 58 [.pointer (some ⟨0, 0, none⟩), .bool l, .int .i64 o, .int .i64 n] [some (.obj J)] (jbg_v J l o n) (jbg_h J l o n) := by
 have w := begin_call (dec J) l o n h.2.1 h.2.2.1 h.2.2.2
 rw [← h.1] at w
 exact w

def jbg_ex (a : List Value) (h : Heap) : Heap × Bool × Int × Int := ((objOf h 0), (toBool (a.getD 1 undef)), (toInt (a.getD 2 undef)), (toInt (a.getD 3 undef)))
noncomputable def jbg_k : Ct := kS jbg_ex [.ptr 0 0, .bool, .int .i64, .int .i64] [.obj] (fun (a0, a1, a2, a3) => jbg_pre a0 a1 a2 a3) (fun (a0, a1, a2, a3) => jbg_v a0 a1 a2 a3) (fun (a0, a1, a2, a3) => jbg_h a0 a1 a2 a3)
theorem jbg_k_ok : KFor E 58 jbg_k := kS_ok (fun x hx => jbg_call (x.1) (x.2.1) (x.2.2.1) (x.2.2.2) hx) (fun _ _ => rfl) (fun _ _ => rfl)


def jpc_pre (J : Heap) (t : ByteArray) : Prop := JI J ∧ (dec J).chk.isSome = true ∧ (dec J).bad = 0 ∧ (dec J).begun = true ∧ 0 < slen t ∧ txtL (dec J).txt + slen t ≤ 1000000 ∧ 0 ≤ (chkG (dec J).chk).2.1 ∧ (chkG (dec J).chk).2.1 ≤ 1000000 * 1000000
noncomputable def jpcV (J : Heap) (t : ByteArray) : Int := (pieceF (dec J) t).1
noncomputable def jpcJ (J : Heap) (t : ByteArray) : Heap := enc (pieceF (dec J) t).2
noncomputable def jpc_v (J : Heap) (t : ByteArray) : Value := .int .i64 (jpcV J t)
noncomputable def jpc_h (J : Heap) (t : ByteArray) : Heap := [some (.obj (jpcJ J t))]
theorem jpc_call (J : Heap) (t : ByteArray) (h : jpc_pre J t) : CallOk E 59 [.pointer (some ⟨0, 0, none⟩), .string t] [some (.obj J)] (jpc_v J t) (jpc_h J t) := by
 obtain ⟨h1, h2, h3, h4, h5, h6, h7, h8⟩ := h
 obtain ⟨c, hc⟩ := Option.isSome_iff_exists.1 h2
 rw [hc] at h7 h8
 have w := piece_call (dec J) t c hc h3 h4 h5 h6 ⟨by omega, h7, h8⟩
 rw [← h1] at w
 exact w

def jpc_ex (a : List Value) (h : Heap) : Heap × ByteArray := ((objOf h 0), (toStr (a.getD 1 undef)))
noncomputable def jpc_k : Ct := kS jpc_ex [.ptr 0 0, .str] [.obj] (fun (a0, a1) => jpc_pre a0 a1) (fun (a0, a1) => jpc_v a0 a1) (fun (a0, a1) => jpc_h a0 a1)
theorem jpc_k_ok : KFor E 59 jpc_k := kS_ok (fun x hx => jpc_call (x.1) (x.2) hx) (fun _ _ => rfl) (fun _ _ => rfl)


def jen_pre (J : Heap) : Prop := JI J ∧ ((dec J).last = true → (dec J).chk.isSome = true) ∧ (dec J).bad = 0 ∧ (dec J).begun = true ∧ (dec J).lacks = 0 ∧ txtL (dec J).txt ≤ 2000000 ∧ ∀ b, (dec J).txt = some b → 0 < slen b
noncomputable def jenE (J : Heap) : Int × ByteArray × Bool × Int := seal1 ((endF (dec J)).1, (endF (dec J)).2.1, (endF (dec J)).2.2.1, (endF (dec J)).2.2.2.1)
theorem jenE_eq (J : Heap) : jenE J = ((endF (dec J)).1, (endF (dec J)).2.1, (endF (dec J)).2.2.1, (endF (dec J)).2.2.2.1) := seal1_eq _
noncomputable def jenJ (J : Heap) : Heap := enc (endF (dec J)).2.2.2.2
noncomputable def jen_v (J : Heap) : Value := .tuple #[.agg #[.int .i64 (jenE J).1, .string (jenE J).2.1], .bool (jenE J).2.2.1, .int .i64 (jenE J).2.2.2]
noncomputable def jen_h (J : Heap) : Heap := [some (.obj (jenJ J))]
theorem jen_call (J : Heap) (h : jen_pre J) : CallOk E 60 [.pointer (some ⟨0, 0, none⟩)] [some (.obj J)] (jen_v J) (jen_h J) := by
 unfold jen_v
 rw [jenE_eq]
 have w := end_call (dec J) h.2.1 h.2.2.1 h.2.2.2.1 h.2.2.2.2.1 h.2.2.2.2.2.1 h.2.2.2.2.2.2
 rw [← h.1] at w
 exact w

def jen_ex (a : List Value) (h : Heap) : Heap := (objOf h 0)
noncomputable def jen_k : Ct := kS jen_ex [.ptr 0 0] [.obj] (fun x => jen_pre x) (fun x => jen_v x) (fun x => jen_h x)
theorem jen_k_ok : KFor E 60 jen_k := kS_ok (fun x hx => jen_call x hx) (fun _ _ => rfl) (fun _ _ => rfl)


def jop_pre (J : Heap) : Prop := JI J
noncomputable def jopV (J : Heap) : Bool := ((dec J).bad == 0) && ((dec J).op != 0)
noncomputable def jop_v (J : Heap) : Value := .bool (jopV J)
noncomputable def jop_h (J : Heap) : Heap := [some (.obj J)]
theorem jop_call (J : Heap) (h : jop_pre J) : CallOk E 42 [.pointer (some ⟨0, 0, none⟩)] [some (.obj J)] (jop_v J) (jop_h J) := by
 have w := open_call (dec J)
 rw [← show J = enc (dec J) from h] at w
 exact w

def jop_ex (a : List Value) (h : Heap) : Heap := (objOf h 0)
noncomputable def jop_k : Ct := kS jop_ex [.ptr 0 0] [.obj] (fun x => jop_pre x) (fun x => jop_v x) (fun x => jop_h x)
theorem jop_k_ok : KFor E 42 jop_k := kS_ok (fun x hx => jop_call x hx) (fun _ _ => rfl) (fun _ _ => rfl)


def jnw_pre (lim : Int) : Prop := 0 ≤ lim ∧ lim ≤ 1099511627776
noncomputable def jnwJ (lim : Int) : Heap := seal1 (enc (js0 lim))
theorem jnwJ_eq (lim : Int) : jnwJ lim = enc (js0 lim) := seal1_eq _
noncomputable def jnw_v (lim : Int) : Value := .tuple #[.pointer (some ⟨0, 0, none⟩), .int .i64 0]
noncomputable def jnw_h (lim : Int) : Heap := [some (.obj (jnwJ lim))]
theorem jnw_call (lim : Int) (h : jnw_pre lim) : CallOk E 28 [.int .i64 lim] [] (jnw_v lim) (jnw_h lim) := by
 have w := new_call lim h.1 h.2
 rw [← jnwJ_eq] at w
 exact w

def jnw_ex (a : List Value) (h : Heap) : Int := (toInt (a.getD 0 undef))
noncomputable def jnw_k : Ct := kS jnw_ex [.int .i64] [] (fun x => jnw_pre x) (fun x => jnw_v x) (fun x => jnw_h x)
theorem jnw_k_ok : KFor E 28 jnw_k := kS_ok (fun x hx => jnw_call x hx) (fun _ _ => rfl) (fun _ _ => rfl)


end Go.Proofs.Ytfpnjpbdaniomaa
