/-
  The document's own connection: what it calls.
-/
import Derived.Test.YtfpnjpbdaniomaaAmSlim
import Derived.Test.YtfpnjpbdaniomaaUtfI20
import Derived.Test.YtfpnjpbdaniomaaFramesF20
import Derived.Test.YtfpnjpbdaniomaaClosingB20
set_option linter.unusedVariables false
set_option linter.unusedSimpArgs false
open Go Go.Am
namespace Go.Proofs.Ytfpnjpbdaniomaa

def dreads_pre (s : ByteArray) : Prop := reads_pre s
noncomputable def dreads_v (s : ByteArray) : Value := .tuple #[.int .i64 (feedL (0, 0, 0, 0) 0 false (toL s)).2.1, .bool (feedL (0, 0, 0, 0) 0 false (toL s)).2.2, .bool (!(feedL (0, 0, 0, 0) 0 false (toL s)).2.2 && (feedL (0, 0, 0, 0) 0 false (toL s)).1.1 == 0)]
noncomputable def dreads_h (s : ByteArray) : Heap := []
theorem dreads_call (s : ByteArray) (h : dreads_pre s) : CallOk E 50 [.string s] [] (dreads_v s) (dreads_h s) := reads_call s h

def dreads_ex (a : List Value) (h : Heap) : ByteArray := (toStr (a.getD 0 undef))
noncomputable def dreads_k : Ct := kS dreads_ex [.str] [] (fun x => dreads_pre x) (fun x => dreads_v x) (fun x => dreads_h x)
theorem dreads_k_ok : KFor E 50 dreads_k := kS_ok (fun x hx => dreads_call x hx) (fun _ _ => rfl) (fun _ _ => rfl)


noncomputable def KRa : Ctr := ctrOf E [(50, anyA, dreads_k)]
theorem KRa_ok : KOk E KRa := ctr_cons dreads_k_ok ctr_nil

noncomputable abbrev dbegin_st (lim bad : Int) (op sum : Int) (d : ByteArray) (begun last : Bool) (left : Int) (l : Bool) (o n : Int) : Cfg := startC E 36 ([.pointer (some ⟨0, 0, none⟩), .bool l, .int .i64 o, .int .i64 n]) ([some (.cells [.int .i64 lim, .int .i64 bad, .int .i64 op, .int .i64 sum, .string d, .bool begun, .bool last, .int .i64 left] 66 none)])
theorem dbegin_w0_3 (lim bad : Int) (op sum : Int) (d : ByteArray) (begun last : Bool) (left : Int) (l : Bool) (o n : Int) (h0 : (op == 0) = true) (h1 : (o == 0) = true) (h2 : (decide (n < 0)) = false) (h3 : begun = false) (h4 : (bad != 0) = false) : AEnds E 36 1 (dbegin_st lim bad op sum d begun last left l o n) (.int .i64 1002) ([some (.cells [.int .i64 lim, .int .i64 1002, .int .i64 op, .int .i64 sum, .string d, .bool begun, .bool last, .int .i64 left] 66 none)]) := by
 exact ends_q noK_ok 2000 74 (bs 5 24) [0] [8] [0] (andI (dT h0) (and4 (dT h1) (dF h2) (dF h3) (dF h4) rfl))
theorem dbegin_w0_4 (lim bad : Int) (op sum : Int) (d : ByteArray) (begun last : Bool) (left : Int) (l : Bool) (o n : Int) (h0 : (decide (lim < n)) = true) (h1 : (op == 0) = false) (h2 : (o == 0) = true) (h3 : (decide (n < 0)) = false) (h4 : begun = false) (h5 : (bad != 0) = false) : AEnds E 36 1 (dbegin_st lim bad op sum d begun last left l o n) (.int .i64 1009) ([some (.cells [.int .i64 lim, .int .i64 1009, .int .i64 op, .int .i64 sum, .string d, .bool begun, .bool last, .int .i64 left] 66 none)]) := by
 exact ends_q noK_ok 2000 80 (bs 7 104) [0] [8] [0] (andI (dT h0) (andI (dF h1) (and4 (dT h2) (dF h3) (dF h4) (dF h5) rfl)))
theorem dbegin_w0_5 (lim bad : Int) (op sum : Int) (d : ByteArray) (begun last : Bool) (left : Int) (l : Bool) (o n : Int) (h0 : (decide (IntKind.i64.wrap (lim - n) < sum)) = true) (h1 : (decide (lim < n)) = false) (h2 : (op == 0) = false) (h3 : (o == 0) = true) (h4 : (decide (n < 0)) = false) (h5 : begun = false) (h6 : (bad != 0) = false) : AEnds E 36 1 (dbegin_st lim bad op sum d begun last left l o n) (.int .i64 1009) ([some (.cells [.int .i64 lim, .int .i64 1009, .int .i64 op, .int .i64 sum, .string d, .bool begun, .bool last, .int .i64 left] 66 none)]) := by
 exact ends_q noK_ok 2000 80 (bs 7 72) [0] [8] [0] (andI (dT h0) (andI (dF h1) (andI (dF h2) (and4 (dT h3) (dF h4) (dF h5) (dF h6) rfl))))
theorem dbegin_w0_6 (lim bad : Int) (op sum : Int) (d : ByteArray) (begun last : Bool) (left : Int) (l : Bool) (o n : Int) (h0 : (o != 0) = false) (h1 : (decide (IntKind.i64.wrap (lim - n) < sum)) = false) (h2 : (decide (lim < n)) = false) (h3 : (op == 0) = false) (h4 : (o == 0) = true) (h5 : (decide (n < 0)) = false) (h6 : begun = false) (h7 : (bad != 0) = false) : AEnds E 36 1 (dbegin_st lim bad op sum d begun last left l o n) (.int .i64 0) ([some (.cells [.int .i64 lim, .int .i64 bad, .int .i64 op, .int .i64 (IntKind.i64.wrap (sum + n)), .string d, .bool true, .bool l, .int .i64 n] 66 none)]) := by
 exact ends_q noK_ok 2000 105 (bs 8 8) [0] [8] [0] (and8 (dF h0) (dF h1) (dF h2) (dF h3) (dT h4) (dF h5) (dF h6) (dF h7) rfl)
theorem dbegin_w0_7 (lim bad : Int) (op sum : Int) (d : ByteArray) (begun last : Bool) (left : Int) (l : Bool) (o n : Int) (h0 : (op != 0) = true) (h1 : (o == 1) = true) (h2 : (o == 0) = false) (h3 : (decide (n < 0)) = false) (h4 : begun = false) (h5 : (bad != 0) = false) : AEnds E 36 1 (dbegin_st lim bad op sum d begun last left l o n) (.int .i64 1002) ([some (.cells [.int .i64 lim, .int .i64 1002, .int .i64 op, .int .i64 sum, .string d, .bool begun, .bool last, .int .i64 left] 66 none)]) := by
 exact ends_q noK_ok 2000 83 (bs 7 112) [0] [8] [0] (andI (dT h0) (andI (dT h1) (andI (dT h1) (and4 (dF h2) (dF h3) (dF h4) (dF h5) rfl))))
theorem dbegin_w0_8 (lim bad : Int) (op sum : Int) (d : ByteArray) (begun last : Bool) (left : Int) (l : Bool) (o n : Int) (h0 : (decide (lim < n)) = true) (h1 : (op != 0) = false) (h2 : (o == 1) = true) (h3 : (o == 0) = false) (h4 : (decide (n < 0)) = false) (h5 : begun = false) (h6 : (bad != 0) = false) : AEnds E 36 1 (dbegin_st lim bad op sum d begun last left l o n) (.int .i64 1009) ([some (.cells [.int .i64 lim, .int .i64 1009, .int .i64 op, .int .i64 sum, .string d, .bool begun, .bool last, .int .i64 left] 66 none)]) := by
 exact ends_q noK_ok 2000 89 (bs 9 432) [0] [8] [0] (and8 (dT h0) (dF h1) (dT h2) (dT h2) (dF h3) (dF h4) (dF h5) (dF h6) rfl)
theorem dbegin_w0_9 (lim bad : Int) (op sum : Int) (d : ByteArray) (begun last : Bool) (left : Int) (l : Bool) (o n : Int) (h0 : (decide (IntKind.i64.wrap (lim - n) < sum)) = true) (h1 : (decide (lim < n)) = false) (h2 : (op != 0) = false) (h3 : (o == 1) = true) (h4 : (o == 0) = false) (h5 : (decide (n < 0)) = false) (h6 : begun = false) (h7 : (bad != 0) = false) : AEnds E 36 1 (dbegin_st lim bad op sum d begun last left l o n) (.int .i64 1009) ([some (.cells [.int .i64 lim, .int .i64 1009, .int .i64 op, .int .i64 sum, .string d, .bool begun, .bool last, .int .i64 left] 66 none)]) := by
 exact ends_q noK_ok 2000 89 (bs 9 304) [0] [8] [0] (and8 (dT h0) (dF h1) (dF h2) (dT h3) (dT h3) (dF h4) (dF h5) (dF h6) (andI (dF h7) rfl))
theorem dbegin_w0_10 (lim bad : Int) (op sum : Int) (d : ByteArray) (begun last : Bool) (left : Int) (l : Bool) (o n : Int) (h0 : (o != 0) = true) (h1 : (decide (IntKind.i64.wrap (lim - n) < sum)) = false) (h2 : (decide (lim < n)) = false) (h3 : (op != 0) = false) (h4 : (o == 1) = true) (h5 : (o == 0) = false) (h6 : (decide (n < 0)) = false) (h7 : begun = false) (h8 : (bad != 0) = false) : AEnds E 36 1 (dbegin_st lim bad op sum d begun last left l o n) (.int .i64 0) ([some (.cells [.int .i64 lim, .int .i64 bad, .int .i64 o, .int .i64 (IntKind.i64.wrap (sum + n)), .string { data := #[] }, .bool true, .bool l, .int .i64 n] 66 none)]) := by
 exact ends_q noK_ok 2000 127 (bs 10 560) [0] [8] [0] (and8 (dT h0) (dF h1) (dF h2) (dF h3) (dT h4) (dT h4) (dF h5) (dF h6) (andI (dF h7) (andI (dF h8) rfl)))
theorem dbegin_w0_11 (lim bad : Int) (op sum : Int) (d : ByteArray) (begun last : Bool) (left : Int) (l : Bool) (o n : Int) (h0 : (op != 0) = true) (h1 : (o == 2) = true) (h2 : (o == 1) = false) (h3 : (o == 0) = false) (h4 : (decide (n < 0)) = false) (h5 : begun = false) (h6 : (bad != 0) = false) : AEnds E 36 1 (dbegin_st lim bad op sum d begun last left l o n) (.int .i64 1002) ([some (.cells [.int .i64 lim, .int .i64 1002, .int .i64 op, .int .i64 sum, .string d, .bool begun, .bool last, .int .i64 left] 66 none)]) := by
 exact ends_q noK_ok 2000 86 (bs 7 96) [0] [8] [0] (andI (dT h0) (andI (dT h1) (andI (dF h2) (and4 (dF h3) (dF h4) (dF h5) (dF h6) rfl))))
theorem dbegin_w0_12 (lim bad : Int) (op sum : Int) (d : ByteArray) (begun last : Bool) (left : Int) (l : Bool) (o n : Int) (h0 : (decide (lim < n)) = true) (h1 : (op != 0) = false) (h2 : (o == 2) = true) (h3 : (o == 1) = false) (h4 : (o == 0) = false) (h5 : (decide (n < 0)) = false) (h6 : begun = false) (h7 : (bad != 0) = false) : AEnds E 36 1 (dbegin_st lim bad op sum d begun last left l o n) (.int .i64 1009) ([some (.cells [.int .i64 lim, .int .i64 1009, .int .i64 op, .int .i64 sum, .string d, .bool begun, .bool last, .int .i64 left] 66 none)]) := by
 exact ends_q noK_ok 2000 92 (bs 9 416) [0] [8] [0] (and8 (dT h0) (dF h1) (dT h2) (dF h3) (dF h4) (dF h5) (dF h6) (dF h7) rfl)
theorem dbegin_w0_13 (lim bad : Int) (op sum : Int) (d : ByteArray) (begun last : Bool) (left : Int) (l : Bool) (o n : Int) (h0 : (decide (IntKind.i64.wrap (lim - n) < sum)) = true) (h1 : (decide (lim < n)) = false) (h2 : (op != 0) = false) (h3 : (o == 2) = true) (h4 : (o == 1) = false) (h5 : (o == 0) = false) (h6 : (decide (n < 0)) = false) (h7 : begun = false) (h8 : (bad != 0) = false) : AEnds E 36 1 (dbegin_st lim bad op sum d begun last left l o n) (.int .i64 1009) ([some (.cells [.int .i64 lim, .int .i64 1009, .int .i64 op, .int .i64 sum, .string d, .bool begun, .bool last, .int .i64 left] 66 none)]) := by
 exact ends_q noK_ok 2000 92 (bs 9 288) [0] [8] [0] (and8 (dT h0) (dF h1) (dF h2) (dT h3) (dF h4) (dF h5) (dF h6) (dF h7) (andI (dF h8) rfl))
theorem dbegin_w0_14 (lim bad : Int) (op sum : Int) (d : ByteArray) (begun last : Bool) (left : Int) (l : Bool) (o n : Int) (h0 : (o != 0) = true) (h1 : (decide (IntKind.i64.wrap (lim - n) < sum)) = false) (h2 : (decide (lim < n)) = false) (h3 : (op != 0) = false) (h4 : (o == 2) = true) (h5 : (o == 1) = false) (h6 : (o == 0) = false) (h7 : (decide (n < 0)) = false) (h8 : begun = false) (h9 : (bad != 0) = false) : AEnds E 36 1 (dbegin_st lim bad op sum d begun last left l o n) (.int .i64 0) ([some (.cells [.int .i64 lim, .int .i64 bad, .int .i64 o, .int .i64 (IntKind.i64.wrap (sum + n)), .string { data := #[] }, .bool true, .bool l, .int .i64 n] 66 none)]) := by
 exact ends_q noK_ok 2000 130 (bs 10 544) [0] [8] [0] (and8 (dT h0) (dF h1) (dF h2) (dF h3) (dT h4) (dF h5) (dF h6) (dF h7) (andI (dF h8) (andI (dF h9) rfl)))
noncomputable abbrev dpiece_st (lim bad : Int) (op sum : Int) (d : ByteArray) (begun last : Bool) (left : Int) (s : ByteArray) : Cfg := startC E 38 ([.pointer (some ⟨0, 0, none⟩), .string s]) ([some (.cells [.int .i64 lim, .int .i64 bad, .int .i64 op, .int .i64 sum, .string d, .bool begun, .bool last, .int .i64 left] 66 none)])
theorem dpiece_w0_3 (lim bad : Int) (op sum : Int) (d : ByteArray) (begun last : Bool) (left : Int) (s : ByteArray) (r_1 : Q × Int × Bool) (er_1 : feedL (0, 0, 0, 0) 0 false (toL (cat d s)) = r_1) (h0 : r_1.2.2 = true) (h1 : (op == 1) = true) (h2 : dreads_pre (cat d s)) (h3 : slen d + slen s ≤ 9223372036854775807) (h4 : (decide (left < ((slen s) : Int))) = false) (h5 : (!begun) = false) (h6 : (bad != 0) = false) : AEnds E 38 1 (dpiece_st lim bad op sum d begun last left s) (.int .i64 1007) ([some (.cells [.int .i64 lim, .int .i64 1007, .int .i64 op, .int .i64 sum, .string d, .bool begun, .bool last, .int .i64 left] 66 none)]) := by
 subst er_1; exact ends_q KRa_ok 2000 89 (bs 5 24) [0] [4] [0] (andI (dT h0) (andI (dT h1) (andI (pdec_iff.2 h2) (and4 (decide_eq_true h3) (dF h4) (dF h5) (dF h6) rfl))))
theorem dpiece_w0_4 (lim bad : Int) (op sum : Int) (d : ByteArray) (begun last : Bool) (left : Int) (s : ByteArray) (r_1 : Q × Int × Bool) (er_1 : feedL (0, 0, 0, 0) 0 false (toL (cat d s)) = r_1) (h0 : slen d + slen s ≤ 9223372036854775807) (h1 : r_1.2.2 = false) (h2 : (op == 1) = true) (h3 : dreads_pre (cat d s)) (h4 : (decide (left < ((slen s) : Int))) = false) (h5 : (!begun) = false) (h6 : (bad != 0) = false) : AEnds E 38 1 (dpiece_st lim bad op sum d begun last left s) (.int .i64 0) ([some (.cells [.int .i64 lim, .int .i64 bad, .int .i64 op, .int .i64 sum, .string (cat d s), .bool begun, .bool last, .int .i64 (IntKind.i64.wrap (left - ((slen s) : Int)))] 66 none)]) := by
 subst er_1; exact ends_q KRa_ok 2000 97 (bs 5 8) [0] [4] [0] (and8 (decide_eq_true h0) (dF h1) (dT h2) (pdec_iff.2 h3) (decide_eq_true h0) (dF h4) (dF h5) (dF h6) rfl)
theorem dpiece_w0_5 (lim bad : Int) (op sum : Int) (d : ByteArray) (begun last : Bool) (left : Int) (s : ByteArray) (h0 : slen d + slen s ≤ 9223372036854775807) (h1 : (op == 1) = false) (h2 : dreads_pre (cat d s)) (h3 : (decide (left < ((slen s) : Int))) = false) (h4 : (!begun) = false) (h5 : (bad != 0) = false) : AEnds E 38 1 (dpiece_st lim bad op sum d begun last left s) (.int .i64 0) ([some (.cells [.int .i64 lim, .int .i64 bad, .int .i64 op, .int .i64 sum, .string (cat d s), .bool begun, .bool last, .int .i64 (IntKind.i64.wrap (left - ((slen s) : Int)))] 66 none)]) := by
 exact ends_q KRa_ok 2000 97 (bs 5 0) [0] [4] [0] (andI (decide_eq_true h0) (andI (dF h1) (andI (pdec_iff.2 h2) (and4 (decide_eq_true h0) (dF h3) (dF h4) (dF h5) rfl))))


noncomputable abbrev dend_st (lim bad : Int) (op sum : Int) (d : ByteArray) (begun last : Bool) (left : Int) : Cfg := startC E 40 ([.pointer (some ⟨0, 0, none⟩)]) ([some (.cells [.int .i64 lim, .int .i64 bad, .int .i64 op, .int .i64 sum, .string d, .bool begun, .bool last, .int .i64 left] 66 none)])
theorem dend_w0_3 (lim bad : Int) (op sum : Int) (d : ByteArray) (begun last : Bool) (left : Int) (h0 : (!last) = true) (h1 : (decide (0 < left)) = false) (h2 : (!begun) = false) (h3 : (bad != 0) = false) : AEnds E 40 1 (dend_st lim bad op sum d begun last left) (.tuple #[.agg #[.int .i64 0, .string { data := #[] }], .bool false, .int .i64 0]) ([some (.cells [.int .i64 lim, .int .i64 bad, .int .i64 op, .int .i64 sum, .string d, .bool false, .bool last, .int .i64 left] 66 none)]) := by
 exact ends_q KRa_ok 2000 59 (bs 4 8) [0, 1] [2, 3, 4] [0] (and4 (dT h0) (dF h1) (dF h2) (dF h3) rfl)
theorem dend_w0_4 (lim bad : Int) (op sum : Int) (d : ByteArray) (begun last : Bool) (left : Int) (r_1 : Q × Int × Bool) (er_1 : feedL (0, 0, 0, 0) 0 false (toL d) = r_1) (h0 : (!(!r_1.2.2 && r_1.1.1 == 0)) = true) (h1 : (op == 1) = true) (h2 : dreads_pre d) (h3 : (!last) = false) (h4 : (decide (0 < left)) = false) (h5 : (!begun) = false) (h6 : (bad != 0) = false) : AEnds E 40 1 (dend_st lim bad op sum d begun last left) (.tuple #[.agg #[.int .i64 0, .string { data := #[] }], .bool false, .int .i64 1007]) ([some (.cells [.int .i64 lim, .int .i64 1007, .int .i64 op, .int .i64 sum, .string d, .bool begun, .bool last, .int .i64 left] 66 none)]) := by
 subst er_1; exact ends_q KRa_ok 2000 102 (bs 6 48) [0, 1] [2, 3, 4] [0] (andI (dT h0) (andI (dT h1) (andI (pdec_iff.2 h2) (and4 (dF h3) (dF h4) (dF h5) (dF h6) rfl))))
theorem dend_w0_5 (lim bad : Int) (op sum : Int) (d : ByteArray) (begun last : Bool) (left : Int) (r_1 : Q × Int × Bool) (er_1 : feedL (0, 0, 0, 0) 0 false (toL d) = r_1) (h0 : (toL d == toL d) = true) (h1 : (!(!r_1.2.2 && r_1.1.1 == 0)) = false) (h2 : (op == 1) = true) (h3 : dreads_pre d) (h4 : (!last) = false) (h5 : (decide (0 < left)) = false) (h6 : (!begun) = false) (h7 : (bad != 0) = false) : AEnds E 40 1 (dend_st lim bad op sum d begun last left) (.tuple #[.agg #[.int .i64 op, .string d], .bool true, .int .i64 0]) ([some (.cells [.int .i64 lim, .int .i64 bad, .int .i64 0, .int .i64 0, .string { data := #[] }, .bool false, .bool last, .int .i64 left] 66 none)]) := by
 subst er_1; exact ends_q KRa_ok 2000 113 (bs 6 16) [0, 1] [2, 3, 4] [0] (and8 (beq_self_eq_true (op)) h0 (beq_self_eq_true (op)) h0 (dF h1) (dT h2) (pdec_iff.2 h3) (dF h4) (andI (dF h5) (andI (dF h6) (andI (dF h7) rfl))))
theorem dend_w0_6 (lim bad : Int) (op sum : Int) (d : ByteArray) (begun last : Bool) (left : Int) (h0 : (toL d == toL d) = true) (h1 : (op == 1) = false) (h2 : dreads_pre d) (h3 : (!last) = false) (h4 : (decide (0 < left)) = false) (h5 : (!begun) = false) (h6 : (bad != 0) = false) : AEnds E 40 1 (dend_st lim bad op sum d begun last left) (.tuple #[.agg #[.int .i64 op, .string d], .bool true, .int .i64 0]) ([some (.cells [.int .i64 lim, .int .i64 bad, .int .i64 0, .int .i64 0, .string { data := #[] }, .bool false, .bool last, .int .i64 left] 66 none)]) := by
 exact ends_q KRa_ok 2000 113 (bs 6 0) [0, 1] [2, 3, 4] [0] (and8 (beq_self_eq_true (op)) h0 (beq_self_eq_true (op)) h0 (dF h1) (pdec_iff.2 h2) (dF h3) (dF h4) (andI (dF h5) (andI (dF h6) rfl)))


noncomputable def dmay_b1 (fin masked least : Bool) (rsv op : Int) (k0 k1 : Int) (k2 k3 len : Int) (m : Bool) : Cfg := reCfg (cfgOf (goNil E noK 2000 21 (some []) [] [] [0, 1] [1, 2, 5, 6, 7] [] [] [] (startC E 34 ([.agg #[.bool fin, .bool masked, .bool least, .int .i64 rsv, .int .i64 op, .int .u8 k0, .int .u8 k1, .int .u8 k2, .int .u8 k3, .int .u64 len], .bool m]) ([])))) (tmL 6 [(1, .bool m), (7, .int .i64 0), (5, .slice (some ⟨1, 0, none⟩) 6 6), (2, .pointer (some ⟨0, 0, none⟩)), (6, .bool false)]) [some (.cells [.bool fin, .bool masked, .bool least, .int .i64 rsv, .int .i64 op, .int .u8 k0, .int .u8 k1, .int .u8 k2, .int .u8 k3, .int .u64 len] 55 none), some (.cells [.int .i64 0, .int .i64 1, .int .i64 2, .int .i64 8, .int .i64 9, .int .i64 10] 3 none)]
noncomputable def dmay_h1 (fin masked least : Bool) (rsv op : Int) (k0 k1 : Int) (k2 k3 len : Int) (m : Bool) (ua ub : Int) (uc ud : Int) (ue uf : Int) (ug : Bool) (uh : Int) : Cfg := wTmp 7 (.int .i64 uh) (wTmp 6 (.bool ug) (wCell 1 5 (.int .i64 uf) (wCell 1 4 (.int .i64 ue) (wCell 1 3 (.int .i64 ud) (wCell 1 2 (.int .i64 uc) (wCell 1 1 (.int .i64 ub) (wCell 1 0 (.int .i64 ua) (dmay_b1 fin masked least rsv op k0 k1 k2 k3 len m))))))))
noncomputable abbrev dmay_st (fin masked least : Bool) (rsv op : Int) (k0 k1 : Int) (k2 k3 len : Int) (m : Bool) : Cfg := startC E 34 ([.agg #[.bool fin, .bool masked, .bool least, .int .i64 rsv, .int .i64 op, .int .u8 k0, .int .u8 k1, .int .u8 k2, .int .u8 k3, .int .u64 len], .bool m]) ([])
theorem dmay_w0_0 (fin masked least : Bool) (rsv op : Int) (k0 k1 : Int) (k2 k3 len : Int) (m : Bool) : Gets E 0 (dmay_st fin masked least rsv op k0 k1 k2 k3 len m) (dmay_h1 fin masked least rsv op k0 k1 k2 k3 len m (0) (1) (2) (8) (9) (10) false (0)) := by
 exact reach_q noK_ok 2000 21 (some []) [] [] [0, 1] [1, 2, 5, 6, 7] [] [] [] (rfl)
theorem dmay_w1_0 (fin masked least : Bool) (rsv op : Int) (k0 k1 : Int) (k2 k3 len : Int) (m : Bool) (ua ub : Int) (uc ud : Int) (ue uf : Int) (ug : Bool) (uh : Int) (h0 : ug = true) (h1 : (decide (uh < 6)) = true) : Gets E 0 (dmay_h1 fin masked least rsv op k0 k1 k2 k3 len m ua ub uc ud ue uf ug uh) (dmay_h1 fin masked least rsv op k0 k1 k2 k3 len m ua ub uc ud ue uf true (IntKind.i64.wrap (uh + 1))) := by
 exact reach_q noK_ok 2000 20 (bs 2 3) [] [] [0, 1] [1, 2, 5, 6, 7] [] [] [] (andI (dT h0) (andI (dT h1) rfl))
theorem dmay_w1_1 (fin masked least : Bool) (rsv op : Int) (k0 k1 : Int) (k2 k3 len : Int) (m : Bool) (ua ub : Int) (uc ud : Int) (ue uf : Int) (ug : Bool) (uh : Int) (h0 : 0 + uh.toNat * 1 < 6) (h1 : (isInt .i64 ([.int .i64 ua, .int .i64 ub, .int .i64 uc, .int .i64 ud, .int .i64 ue, .int .i64 uf].getD (0 + uh.toNat * 1) undef)) = true) (h2 : 0 ≤ uh) (h3 : uh < 6) (h4 : ug = false) (h5 : (decide (uh < 6)) = true) : Gets E 0 (dmay_h1 fin masked least rsv op k0 k1 k2 k3 len m ua ub uc ud ue uf ug uh) (dmay_h1 fin masked least rsv op k0 k1 k2 k3 len m ua ub uc ud ue uf (toInt ([.int .i64 ua, .int .i64 ub, .int .i64 uc, .int .i64 ud, .int .i64 ue, .int .i64 uf].getD (0 + uh.toNat * 1) undef) == op) (IntKind.i64.wrap (uh + 1))) := by
 exact reach_q noK_ok 2000 20 (bs 2 1) [] [] [0, 1] [1, 2, 5, 6, 7] [] [] [] (andI (decide_eq_true h0) (andI h1 (and4 (decide_eq_true h2) (decide_eq_true h3) (dF h4) (dT h5) rfl)))
theorem dmay_w1_2 (fin masked least : Bool) (rsv op : Int) (k0 k1 : Int) (k2 k3 len : Int) (m : Bool) (ua ub : Int) (uc ud : Int) (ue uf : Int) (ug : Bool) (uh : Int) (h0 : (rsv != 0) = true) (h1 : (decide (uh < 6)) = false) : AEnds E 34 0 (dmay_h1 fin masked least rsv op k0 k1 k2 k3 len m ua ub uc ud ue uf ug uh) (.bool false) ([]) := by
 exact ends_q noK_ok 2000 32 (bs 4 14) [] [4] [] (andI (dT h0) (andI (dF h1) rfl))
theorem dmay_w1_3 (fin masked least : Bool) (rsv op : Int) (k0 k1 : Int) (k2 k3 len : Int) (m : Bool) (ua ub : Int) (uc ud : Int) (ue uf : Int) (ug : Bool) (uh : Int) (h0 : (!ug) = true) (h1 : (rsv != 0) = false) (h2 : (decide (uh < 6)) = false) : AEnds E 34 0 (dmay_h1 fin masked least rsv op k0 k1 k2 k3 len m ua ub uc ud ue uf ug uh) (.bool false) ([]) := by
 exact ends_q noK_ok 2000 32 (bs 4 12) [] [4] [] (andI (dT h0) (andI (dF h1) (andI (dF h2) rfl)))
theorem dmay_w1_4 (fin masked least : Bool) (rsv op : Int) (k0 k1 : Int) (k2 k3 len : Int) (m : Bool) (ua ub : Int) (uc ud : Int) (ue uf : Int) (ug : Bool) (uh : Int) (h0 : (!masked == m) = true) (h1 : (!ug) = false) (h2 : (rsv != 0) = false) (h3 : (decide (uh < 6)) = false) : AEnds E 34 0 (dmay_h1 fin masked least rsv op k0 k1 k2 k3 len m ua ub uc ud ue uf ug uh) (.bool false) ([]) := by
 exact ends_q noK_ok 2000 32 (bs 4 8) [] [4] [] (and4 (dT h0) (dF h1) (dF h2) (dF h3) rfl)
theorem dmay_w1_5 (fin masked least : Bool) (rsv op : Int) (k0 k1 : Int) (k2 k3 len : Int) (m : Bool) (ua ub : Int) (uc ud : Int) (ue uf : Int) (ug : Bool) (uh : Int) (h0 : (decide (125 < len)) = true) (h1 : (decide (8 ≤ op)) = true) (h2 : (!masked == m) = false) (h3 : (!ug) = false) (h4 : (rsv != 0) = false) (h5 : (decide (uh < 6)) = false) : AEnds E 34 0 (dmay_h1 fin masked least rsv op k0 k1 k2 k3 len m ua ub uc ud ue uf ug uh) (.bool false) ([]) := by
 exact ends_q noK_ok 2000 51 (bs 7 112) [] [4] [] (andI (dT h0) (andI (dT h1) (and4 (dF h2) (dF h3) (dF h4) (dF h5) rfl)))
theorem dmay_w1_6 (fin masked least : Bool) (rsv op : Int) (k0 k1 : Int) (k2 k3 len : Int) (m : Bool) (ua ub : Int) (uc ud : Int) (ue uf : Int) (ug : Bool) (uh : Int) (h0 : (!fin) = true) (h1 : (decide (125 < len)) = false) (h2 : (decide (8 ≤ op)) = true) (h3 : (!masked == m) = false) (h4 : (!ug) = false) (h5 : (rsv != 0) = false) (h6 : (decide (uh < 6)) = false) : AEnds E 34 0 (dmay_h1 fin masked least rsv op k0 k1 k2 k3 len m ua ub uc ud ue uf ug uh) (.bool false) ([]) := by
 exact ends_q noK_ok 2000 51 (bs 7 80) [] [4] [] (andI (dT h0) (andI (dF h1) (andI (dT h2) (and4 (dF h3) (dF h4) (dF h5) (dF h6) rfl))))
theorem dmay_w1_7 (fin masked least : Bool) (rsv op : Int) (k0 k1 : Int) (k2 k3 len : Int) (m : Bool) (ua ub : Int) (uc ud : Int) (ue uf : Int) (ug : Bool) (uh : Int) (h0 : least = true) (h1 : (!fin) = false) (h2 : (decide (125 < len)) = false) (h3 : (decide (8 ≤ op)) = true) (h4 : (!masked == m) = false) (h5 : (!ug) = false) (h6 : (rsv != 0) = false) (h7 : (decide (uh < 6)) = false) : AEnds E 34 0 (dmay_h1 fin masked least rsv op k0 k1 k2 k3 len m ua ub uc ud ue uf ug uh) (.bool (decide (len < 9223372036854775808))) ([]) := by
 exact ends_q noK_ok 2000 59 (bs 8 144) [] [4] [] (and8 (dT h0) (dF h1) (dF h2) (dT h3) (dF h4) (dF h5) (dF h6) (dF h7) rfl)
theorem dmay_w1_8 (fin masked least : Bool) (rsv op : Int) (k0 k1 : Int) (k2 k3 len : Int) (m : Bool) (ua ub : Int) (uc ud : Int) (ue uf : Int) (ug : Bool) (uh : Int) (h0 : least = false) (h1 : (!fin) = false) (h2 : (decide (125 < len)) = false) (h3 : (decide (8 ≤ op)) = true) (h4 : (!masked == m) = false) (h5 : (!ug) = false) (h6 : (rsv != 0) = false) (h7 : (decide (uh < 6)) = false) : AEnds E 34 0 (dmay_h1 fin masked least rsv op k0 k1 k2 k3 len m ua ub uc ud ue uf ug uh) (.bool false) ([]) := by
 exact ends_q noK_ok 2000 59 (bs 8 16) [] [4] [] (and8 (dF h0) (dF h1) (dF h2) (dT h3) (dF h4) (dF h5) (dF h6) (dF h7) rfl)
theorem dmay_w1_9 (fin masked least : Bool) (rsv op : Int) (k0 k1 : Int) (k2 k3 len : Int) (m : Bool) (ua ub : Int) (uc ud : Int) (ue uf : Int) (ug : Bool) (uh : Int) (h0 : least = true) (h1 : (decide (8 ≤ op)) = false) (h2 : (!masked == m) = false) (h3 : (!ug) = false) (h4 : (rsv != 0) = false) (h5 : (decide (uh < 6)) = false) : AEnds E 34 0 (dmay_h1 fin masked least rsv op k0 k1 k2 k3 len m ua ub uc ud ue uf ug uh) (.bool (decide (len < 9223372036854775808))) ([]) := by
 exact ends_q noK_ok 2000 59 (bs 7 64) [] [4] [] (andI (dT h0) (andI (dF h1) (and4 (dF h2) (dF h3) (dF h4) (dF h5) rfl)))
theorem dmay_w1_10 (fin masked least : Bool) (rsv op : Int) (k0 k1 : Int) (k2 k3 len : Int) (m : Bool) (ua ub : Int) (uc ud : Int) (ue uf : Int) (ug : Bool) (uh : Int) (h0 : least = false) (h1 : (decide (8 ≤ op)) = false) (h2 : (!masked == m) = false) (h3 : (!ug) = false) (h4 : (rsv != 0) = false) (h5 : (decide (uh < 6)) = false) : AEnds E 34 0 (dmay_h1 fin masked least rsv op k0 k1 k2 k3 len m ua ub uc ud ue uf ug uh) (.bool false) ([]) := by
 exact ends_q noK_ok 2000 59 (bs 7 0) [] [4] [] (andI (dF h0) (andI (dF h1) (and4 (dF h2) (dF h3) (dF h4) (dF h5) rfl)))


theorem dmay_end (fin masked least : Bool) (rsv op k0 k1 k2 k3 len : Int) (m : Bool) (a b c d e f : Int) (t : Bool) (i : Int) (hi : ¬ i < 6) (ht : t = opD op) : AEnds E 34 0 (dmay_h1 fin masked least rsv op k0 k1 k2 k3 len m a b c d e f t i) (.bool (mayD m fin rsv op masked len least)) [] := by
 have h6 : decide (i < 6) = false := decide_eq_false hi
 have hv : ∀ v : Bool, mayD m fin rsv op masked len least = v → ∀ {C : Cfg}, AEnds E 34 0 C (.bool v) [] → AEnds E 34 0 C (.bool (mayD m fin rsv op masked len least)) [] := fun v h _ g => by rw [h]; exact g
 by_cases c1 : rsv = 0
 ·have d1 : (rsv != 0) = false := by rw [c1]; rfl
  cases c2 : t with
  | false => exact hv false (by unfold mayD; rw [← ht, c2, decide_eq_true c1]; rfl) (dmay_w1_3 fin masked least rsv op k0 k1 k2 k3 len m a b c d e f false i rfl d1 h6)
  | true =>
   cases c3 : (masked == m) with
   | false => exact hv false (by unfold mayD; rw [← ht, c2, c3, decide_eq_true c1]; rfl) (dmay_w1_4 fin masked least rsv op k0 k1 k2 k3 len m a b c d e f true i (by rw [c3]; rfl) rfl d1 h6)
   | true =>
    have d3 : (!masked == m) = false := by rw [c3]; rfl
    have hl : decide (len ≤ 9223372036854775807) = decide (len < 9223372036854775808) := decide_eq_decide.2 (by omega)
    by_cases c4 : 8 ≤ op
    ·have d4 : decide (8 ≤ op) = true := decide_eq_true c4
     have e4 : decide (op < 8) = false := decide_eq_false (by omega)
     by_cases c5 : 125 < len
     ·exact hv false (by unfold mayD; rw [← ht, c2, c3, decide_eq_true c1, e4, decide_eq_false (show ¬ len ≤ 125 by omega)]; cases fin <;> rfl) (dmay_w1_5 fin masked least rsv op k0 k1 k2 k3 len m a b c d e f true i (decide_eq_true c5) d4 d3 rfl d1 h6)
     ·have d5 : decide (125 < len) = false := decide_eq_false c5
      have e5 : decide (len ≤ 125) = true := decide_eq_true (by omega)
      cases fin with
      | false => exact hv false (by unfold mayD; rw [← ht, c2, c3, decide_eq_true c1, e4]; rfl) (dmay_w1_6 false masked least rsv op k0 k1 k2 k3 len m a b c d e f true i rfl d5 d4 d3 rfl d1 h6)
      | true =>
       cases least with
       | true => exact hv (decide (len < 9223372036854775808)) (by unfold mayD; rw [← ht, c2, c3, decide_eq_true c1, e4, e5, hl]; rfl) (dmay_w1_7 true masked true rsv op k0 k1 k2 k3 len m a b c d e f true i rfl rfl d5 d4 d3 rfl d1 h6)
       | false => exact hv false (by unfold mayD; rw [← ht, c2, c3, decide_eq_true c1, e4, e5]; rfl) (dmay_w1_8 true masked false rsv op k0 k1 k2 k3 len m a b c d e f true i rfl rfl d5 d4 d3 rfl d1 h6)
    ·have d4 : decide (8 ≤ op) = false := decide_eq_false c4
     have e4 : decide (op < 8) = true := decide_eq_true (by omega)
     cases least with
     | true => exact hv (decide (len < 9223372036854775808)) (by unfold mayD; rw [← ht, c2, c3, decide_eq_true c1, e4, hl]; rfl) (dmay_w1_9 fin masked true rsv op k0 k1 k2 k3 len m a b c d e f true i rfl d4 d3 rfl d1 h6)
     | false => exact hv false (by unfold mayD; rw [← ht, c2, c3, decide_eq_true c1, e4]; rfl) (dmay_w1_10 fin masked false rsv op k0 k1 k2 k3 len m a b c d e f true i rfl d4 d3 rfl d1 h6)
 ·exact hv false (by unfold mayD; rw [decide_eq_false c1]; rfl) (dmay_w1_2 fin masked least rsv op k0 k1 k2 k3 len m a b c d e f t i (by simpa using c1) h6)
noncomputable def opsD : Nat → Int
 | 0 => 0
 | 1 => 1
 | 2 => 2
 | 3 => 8
 | 4 => 9
 | _ => 10
noncomputable def knD (op : Int) : Nat → Bool
 | 0 => false
 | i + 1 => knD op i || (opsD i == op)
theorem knD_6 (op : Int) : knD op 6 = opD op := by
 unfold opD
 show (((((((false || ((0 : Int) == op)) || ((1 : Int) == op)) || ((2 : Int) == op)) || ((8 : Int) == op)) || ((9 : Int) == op)) || ((10 : Int) == op))) = _
 rw [Bool.eq_iff_iff]
 simp only [Bool.or_eq_true, Bool.false_or, beq_iff_eq, decide_eq_true_eq]
 omega
theorem dmay_run (fin masked least : Bool) (rsv op k0 k1 k2 k3 len : Int) (m : Bool) : ∀ (n i : Nat), i + n = 6 → AEnds E 34 0 (dmay_h1 fin masked least rsv op k0 k1 k2 k3 len m 0 1 2 8 9 10 (knD op i) i) (.bool (mayD m fin rsv op masked len least)) []
 | 0, i, hi => by
  obtain rfl : i = 6 := by omega
  exact dmay_end fin masked least rsv op k0 k1 k2 k3 len m 0 1 2 8 9 10 _ 6 (by omega) (knD_6 op)
 | n + 1, i, hi => by
  have ih := dmay_run fin masked least rsv op k0 k1 k2 k3 len m n (i + 1) (by omega)
  have e : IntKind.i64.wrap ((i : Int) + 1) = ((i + 1 : Nat) : Int) := by rw [wrap64_in (by omega) (by omega)]; omega
  have hd : decide ((i : Int) < 6) = true := decide_eq_true (by omega)
  have hg : ([.int .i64 0, .int .i64 1, .int .i64 2, .int .i64 8, .int .i64 9, .int .i64 10] : List Value).getD (0 + (i : Int).toNat * 1) undef = .int .i64 (opsD i) := by
   rw [Int.toNat_natCast]
   rcases (show i = 0 ∨ i = 1 ∨ i = 2 ∨ i = 3 ∨ i = 4 ∨ i = 5 by omega) with rfl | rfl | rfl | rfl | rfl | rfl <;> rfl
  cases hk : knD op i with
  | true =>
   have w := dmay_w1_0 fin masked least rsv op k0 k1 k2 k3 len m 0 1 2 8 9 10 true i rfl hd
   rw [e] at w
   have e2 : knD op (i + 1) = true := by rw [knD, hk]; rfl
   rw [e2] at ih
   exact w.ends ih
  | false =>
   have w := dmay_w1_1 fin masked least rsv op k0 k1 k2 k3 len m 0 1 2 8 9 10 false i
   rw [e, hg] at w
   have e2 : knD op (i + 1) = (opsD i == op) := by rw [knD, hk, Bool.false_or]
   rw [e2] at ih
   exact (w (by rw [Int.toNat_natCast]; omega) rfl (by omega) (by omega) rfl hd).ends ih
def dmayc_pre (fin masked least : Bool) (rsv op k0 k1 k2 k3 len : Int) (m : Bool) : Prop := True
noncomputable def dmayc_v (fin masked least : Bool) (rsv op k0 k1 k2 k3 len : Int) (m : Bool) : Value := .bool (mayD m fin rsv op masked len least)
noncomputable def dmayc_h (fin masked least : Bool) (rsv op k0 k1 k2 k3 len : Int) (m : Bool) : Heap := []
theorem dmayc_call (fin masked least : Bool) (rsv op k0 k1 k2 k3 len : Int) (m : Bool) (h : dmayc_pre fin masked least rsv op k0 k1 k2 k3 len m) : CallOk E 34 [.agg #[.bool fin, .bool masked, .bool least, .int .i64 rsv, .int .i64 op, .int .u8 k0, .int .u8 k1, .int .u8 k2, .int .u8 k3, .int .u64 len], .bool m] [] (dmayc_v fin masked least rsv op k0 k1 k2 k3 len m) (dmayc_h fin masked least rsv op k0 k1 k2 k3 len m) :=
 callOk_of_ends ((dmay_w0_0 fin masked least rsv op k0 k1 k2 k3 len m).ends (dmay_run fin masked least rsv op k0 k1 k2 k3 len m 6 0 rfl)) (by kernel_rfl) (Nat.le_of_ble_eq_true (by kernel_rfl))

def dmayc_ex (a : List Value) (h : Heap) : Bool × Bool × Bool × Int × Int × Int × Int × Int × Int × Int × Bool := ((toBool ((aggOf (a.getD 0 undef)).getD 0 undef)), (toBool ((aggOf (a.getD 0 undef)).getD 1 undef)), (toBool ((aggOf (a.getD 0 undef)).getD 2 undef)), (toInt ((aggOf (a.getD 0 undef)).getD 3 undef)), (toInt ((aggOf (a.getD 0 undef)).getD 4 undef)), (toInt ((aggOf (a.getD 0 undef)).getD 5 undef)), (toInt ((aggOf (a.getD 0 undef)).getD 6 undef)), (toInt ((aggOf (a.getD 0 undef)).getD 7 undef)), (toInt ((aggOf (a.getD 0 undef)).getD 8 undef)), (toInt ((aggOf (a.getD 0 undef)).getD 9 undef)), (toBool (a.getD 1 undef)))
noncomputable def dmayc_k : Ct := kS dmayc_ex [.agg [.bool, .bool, .bool, .int .i64, .int .i64, .int .u8, .int .u8, .int .u8, .int .u8, .int .u64], .bool] [] (fun (a0, a1, a2, a3, a4, a5, a6, a7, a8, a9, a10) => dmayc_pre a0 a1 a2 a3 a4 a5 a6 a7 a8 a9 a10) (fun (a0, a1, a2, a3, a4, a5, a6, a7, a8, a9, a10) => dmayc_v a0 a1 a2 a3 a4 a5 a6 a7 a8 a9 a10) (fun (a0, a1, a2, a3, a4, a5, a6, a7, a8, a9, a10) => dmayc_h a0 a1 a2 a3 a4 a5 a6 a7 a8 a9 a10)
theorem dmayc_k_ok : KFor E 34 dmayc_k := kS_ok (fun x hx => dmayc_call (x.1) (x.2.1) (x.2.2.1) (x.2.2.2.1) (x.2.2.2.2.1) (x.2.2.2.2.2.1) (x.2.2.2.2.2.2.1) (x.2.2.2.2.2.2.2.1) (x.2.2.2.2.2.2.2.2.1) (x.2.2.2.2.2.2.2.2.2.1) (x.2.2.2.2.2.2.2.2.2.2) hx) (fun _ _ => rfl) (fun _ _ => rfl)


noncomputable abbrev dcmay_st (c : Int) : Cfg := startC E 51 ([.int .i64 c]) ([])
theorem dcmay_w0_0 (c : Int) (h0 : (decide (c < 1000)) = true) : AEnds E 51 0 (dcmay_st c) (.bool false) ([]) := by
 exact ends_q noK_ok 2000 27 (bs 3 7) [] [2] [] (andI (dT h0) rfl)
theorem dcmay_w0_1 (c : Int) (h0 : (decide (4999 < c)) = true) (h1 : (decide (c < 1000)) = false) : AEnds E 51 0 (dcmay_st c) (.bool false) ([]) := by
 exact ends_q noK_ok 2000 27 (bs 3 6) [] [2] [] (andI (dT h0) (andI (dF h1) rfl))
theorem dcmay_w0_2 (c : Int) (h0 : (decide (c < 3000)) = true) (h1 : (decide (1014 < c)) = true) (h2 : (decide (4999 < c)) = false) (h3 : (decide (c < 1000)) = false) : AEnds E 51 0 (dcmay_st c) (.bool false) ([]) := by
 exact ends_q noK_ok 2000 27 (bs 4 12) [] [2] [] (and4 (dT h0) (dT h1) (dF h2) (dF h3) rfl)
theorem dcmay_w0_3 (c : Int) (h0 : (c != 1005) = true) (h1 : (c != 1004) = true) (h2 : (decide (c < 3000)) = false) (h3 : (decide (1014 < c)) = true) (h4 : (decide (4999 < c)) = false) (h5 : (decide (c < 1000)) = false) : AEnds E 51 0 (dcmay_st c) (.bool (c != 1006)) ([]) := by
 exact ends_q noK_ok 2000 38 (bs 6 52) [] [2] [] (andI (dT h0) (andI (dT h1) (and4 (dF h2) (dT h3) (dF h4) (dF h5) rfl)))
theorem dcmay_w0_6 (c : Int) (h0 : (c != 1005) = true) (h1 : (c != 1004) = true) (h2 : (decide (1014 < c)) = false) (h3 : (decide (4999 < c)) = false) (h4 : (decide (c < 1000)) = false) : AEnds E 51 0 (dcmay_st c) (.bool (c != 1006)) ([]) := by
 exact ends_q noK_ok 2000 38 (bs 6 48) [] [2] [] (andI (dT h0) (and4 (dT h1) (dF h2) (dF h3) (dF h4) rfl))
theorem dcmay_w0_7 (c : Int) (h0 : (c != 1005) = false) (h1 : (c != 1004) = true) (h2 : (decide (1014 < c)) = false) (h3 : (decide (4999 < c)) = false) (h4 : (decide (c < 1000)) = false) : AEnds E 51 0 (dcmay_st c) (.bool false) ([]) := by
 exact ends_q noK_ok 2000 38 (bs 6 16) [] [2] [] (andI (dF h0) (and4 (dT h1) (dF h2) (dF h3) (dF h4) rfl))
theorem dcmay_w0_8 (c : Int) (h0 : (c != 1004) = false) (h1 : (decide (1014 < c)) = false) (h2 : (decide (4999 < c)) = false) (h3 : (decide (c < 1000)) = false) : AEnds E 51 0 (dcmay_st c) (.bool false) ([]) := by
 exact ends_q noK_ok 2000 38 (bs 6 0) [] [2] [] (and4 (dF h0) (dF h1) (dF h2) (dF h3) rfl)


def dcmayc_pre (c : Int) : Prop := True
noncomputable def dcmayc_v (c : Int) : Value := .bool (mayP c)
noncomputable def dcmayc_h (c : Int) : Heap := []
theorem dcmayc_call (c : Int) (h : dcmayc_pre c) : CallOk E 51 [.int .i64 c] [] (dcmayc_v c) (dcmayc_h c) := by
 refine callOk_of_ends ?_ (by kernel_rfl) (Nat.le_of_ble_eq_true (by kernel_rfl))
 have hv : ∀ v : Bool, mayP c = v → ∀ {C : Cfg}, AEnds E 51 0 C (.bool v) [] → AEnds E 51 0 C (dcmayc_v c) (dcmayc_h c) := fun v h _ g => by unfold dcmayc_v dcmayc_h; rw [h]; exact g
 by_cases c1 : c < 1000
 ·exact hv false (by unfold mayP; exact decide_eq_false (by omega)) (dcmay_w0_0 c (decide_eq_true c1))
 have d1 : decide (c < 1000) = false := decide_eq_false c1
 by_cases c2 : 4999 < c
 ·exact hv false (by unfold mayP; exact decide_eq_false (by omega)) (dcmay_w0_1 c (decide_eq_true c2) d1)
 have d2 : decide (4999 < c) = false := decide_eq_false c2
 by_cases c3 : 1014 < c
 ·have d3 : decide (1014 < c) = true := decide_eq_true c3
  by_cases c4 : c < 3000
  ·exact hv false (by unfold mayP; exact decide_eq_false (by omega)) (dcmay_w0_2 c (decide_eq_true c4) d3 d2 d1)
  ·exact hv (c != 1006) (by unfold mayP; rw [Bool.eq_iff_iff]; simp only [decide_eq_true_eq, bne_iff_ne, ne_eq]; omega) (dcmay_w0_3 c (by simp only [bne_iff_ne, ne_eq]; omega) (by simp only [bne_iff_ne, ne_eq]; omega) (decide_eq_false c4) d3 d2 d1)
 ·have d3 : decide (1014 < c) = false := decide_eq_false c3
  by_cases c4 : c = 1004
  ·exact hv false (by unfold mayP; exact decide_eq_false (by omega)) (dcmay_w0_8 c (by rw [c4]; rfl) d3 d2 d1)
  have d4 : (c != 1004) = true := by simp only [bne_iff_ne, ne_eq]; omega
  by_cases c5 : c = 1005
  ·exact hv false (by unfold mayP; exact decide_eq_false (by omega)) (dcmay_w0_7 c (by rw [c5]; rfl) d4 d3 d2 d1)
  ·exact hv (c != 1006) (by unfold mayP; rw [Bool.eq_iff_iff]; simp only [decide_eq_true_eq, bne_iff_ne, ne_eq]; omega) (dcmay_w0_6 c (by simp only [bne_iff_ne, ne_eq]; omega) d4 d3 d2 d1)

def dcmayc_ex (a : List Value) (h : Heap) : Int := (toInt (a.getD 0 undef))
noncomputable def dcmayc_k : Ct := kS dcmayc_ex [.int .i64] [] (fun x => dcmayc_pre x) (fun x => dcmayc_v x) (fun x => dcmayc_h x)
theorem dcmayc_k_ok : KFor E 51 dcmayc_k := kS_ok (fun x hx => dcmayc_call x hx) (fun _ _ => rfl) (fun _ _ => rfl)


noncomputable def KRb : Ctr := ctrOf E [(50, anyA, dreads_k), (51, anyA, dcmayc_k)]
theorem KRb_ok : KOk E KRb := ctr_cons dreads_k_ok (ctr_cons dcmayc_k_ok ctr_nil)

noncomputable abbrev dcread_st (s : ByteArray) : Cfg := startC E 39 ([.string s]) ([])
theorem dcread_w0_0 (s : ByteArray) (h0 : (toL s == []) = true) : AEnds E 39 0 (dcread_st s) (.tuple #[.int .i64 1005, .string { data := #[] }, .int .i64 0]) ([]) := by
 exact ends_q KRb_ok 2000 19 (bs 1 1) [] [2, 3, 4] [] (andI (dT h0) rfl)
theorem dcread_w0_1 (s : ByteArray) (h0 : (((slen s) : Int) == 1) = true) (h1 : (toL s == []) = false) : AEnds E 39 0 (dcread_st s) (.tuple #[.int .i64 0, .string { data := #[] }, .int .i64 1002]) ([]) := by
 exact ends_q KRb_ok 2000 28 (bs 2 2) [] [2, 3, 4] [] (andI (dT h0) (andI (dF h1) rfl))
theorem dcread_w0_2 (s : ByteArray) (h0 : (!mayP (IntKind.i64.wrap (IntKind.i64.wrap (256 * IntKind.i64.wrap (chr s 0)) + IntKind.i64.wrap (chr s 1)))) = true) (h1 : dcmayc_pre (IntKind.i64.wrap (IntKind.i64.wrap (256 * IntKind.i64.wrap (chr s 0)) + IntKind.i64.wrap (chr s 1)))) (h2 : 1 < ((slen s) : Int)) (h3 : 0 < ((slen s) : Int)) (h4 : (((slen s) : Int) == 1) = false) (h5 : (toL s == []) = false) : AEnds E 39 0 (dcread_st s) (.tuple #[.int .i64 0, .string { data := #[] }, .int .i64 1002]) ([]) := by
 exact ends_q KRb_ok 2000 39 (bs 3 4) [] [2, 3, 4] [] (andI (dT h0) (andI (pdec_iff.2 h1) (and4 (decide_eq_true h2) (decide_eq_true h3) (dF h4) (dF h5) rfl)))
theorem dcread_w0_3 (s : ByteArray) (r_1 : Q × Int × Bool) (er_1 : feedL (0, 0, 0, 0) 0 false (toL (sub s 2 (slen s))) = r_1) (h0 : (!(!r_1.2.2 && r_1.1.1 == 0)) = true) (h1 : dreads_pre (sub s 2 (slen s))) (h2 : 2 ≤ slen s) (h3 : (!mayP (IntKind.i64.wrap (IntKind.i64.wrap (256 * IntKind.i64.wrap (chr s 0)) + IntKind.i64.wrap (chr s 1)))) = false) (h4 : dcmayc_pre (IntKind.i64.wrap (IntKind.i64.wrap (256 * IntKind.i64.wrap (chr s 0)) + IntKind.i64.wrap (chr s 1)))) (h5 : 1 < ((slen s) : Int)) (h6 : 0 < ((slen s) : Int)) (h7 : (((slen s) : Int) == 1) = false) (h8 : (toL s == []) = false) : AEnds E 39 0 (dcread_st s) (.tuple #[.int .i64 0, .string { data := #[] }, .int .i64 1007]) ([]) := by
 subst er_1; exact ends_q KRb_ok 2000 71 (bs 4 8) [] [2, 3, 4] [] (and8 (dT h0) (pdec_iff.2 h1) (decide_eq_true h2) (dF h3) (pdec_iff.2 h4) (decide_eq_true h5) (decide_eq_true h6) (dF h7) (andI (dF h8) rfl))
theorem dcread_w0_4 (s : ByteArray) (r_1 : Q × Int × Bool) (er_1 : feedL (0, 0, 0, 0) 0 false (toL (sub s 2 (slen s))) = r_1) (h0 : 2 ≤ slen s) (h1 : (!(!r_1.2.2 && r_1.1.1 == 0)) = false) (h2 : dreads_pre (sub s 2 (slen s))) (h3 : (!mayP (IntKind.i64.wrap (IntKind.i64.wrap (256 * IntKind.i64.wrap (chr s 0)) + IntKind.i64.wrap (chr s 1)))) = false) (h4 : dcmayc_pre (IntKind.i64.wrap (IntKind.i64.wrap (256 * IntKind.i64.wrap (chr s 0)) + IntKind.i64.wrap (chr s 1)))) (h5 : 1 < ((slen s) : Int)) (h6 : 0 < ((slen s) : Int)) (h7 : (((slen s) : Int) == 1) = false) (h8 : (toL s == []) = false) : AEnds E 39 0 (dcread_st s) (.tuple #[.int .i64 (IntKind.i64.wrap (IntKind.i64.wrap (256 * IntKind.i64.wrap (chr s 0)) + IntKind.i64.wrap (chr s 1))), .string (sub s 2 (slen s)), .int .i64 0]) ([]) := by
 subst er_1; exact ends_q KRb_ok 2000 68 (bs 4 0) [] [2, 3, 4] [] (and8 (decide_eq_true h0) (dF h1) (pdec_iff.2 h2) (decide_eq_true h0) (dF h3) (pdec_iff.2 h4) (decide_eq_true h5) (decide_eq_true h6) (andI (dF h7) (andI (dF h8) rfl)))


def dcreadc_pre (s : ByteArray) : Prop := slen s ≤ 1000000
noncomputable def dcreadc_v (s : ByteArray) : Value := .tuple #[.int .i64 (cdT s).1, .string (cdT s).2.1, .int .i64 (cdT s).2.2]
noncomputable def dcreadc_h (s : ByteArray) : Heap := []
theorem dcreadc_call (s : ByteArray) (h : dcreadc_pre s) : CallOk E 39 [.string s] [] (dcreadc_v s) (dcreadc_h s) := by
 refine callOk_of_ends ?_ (by kernel_rfl) (Nat.le_of_ble_eq_true (by kernel_rfl))
 unfold dcreadc_v dcreadc_h
 have hs : slen s ≤ 1000000 := h
 have h0 := chr_bd s 0
 have h1 := chr_bd s 1
 have e0 : IntKind.i64.wrap (IntKind.i64.wrap (256 * IntKind.i64.wrap (chr s 0)) + IntKind.i64.wrap (chr s 1)) = codeOf s := by
  unfold codeOf
  rw [wrap64_in (x := chr s 0) (by omega) (by omega), wrap64_in (x := chr s 1) (by omega) (by omega), wrap64_in (x := 256 * chr s 0) (by omega) (by omega), wrap64_in (by omega) (by omega)]
 by_cases c0 : slen s = 0
 ·have e : cdT s = (1005, ⟨#[]⟩, 0) := by unfold cdT; rw [if_pos c0]
  rw [e]
  exact dcread_w0_0 s (by
   have : toL s = [] := List.length_eq_zero_iff.1 c0
   rw [this]; rfl)
 have d0 : (toL s == []) = false := by
  cases hl : toL s with
  | nil => exact absurd (show slen s = 0 by unfold slen; rw [hl]; rfl) c0
  | cons a r => rfl
 by_cases c1 : slen s = 1
 ·have e : cdT s = (0, ⟨#[]⟩, 1002) := by unfold cdT; rw [if_neg c0, if_pos c1]
  rw [e]
  exact dcread_w0_1 s (by simp [c1]) d0
 have d1 : ((slen s : Int) == 1) = false := by simp; omega
 have rp : dreads_pre (sub s 2 (slen s)) := by show slen (sub s 2 (slen s)) ≤ 1000000; rw [slen_sub]; omega
 cases c2 : mayP (codeOf s) with
 | false =>
  have e : cdT s = (0, ⟨#[]⟩, 1002) := by unfold cdT; rw [if_neg c0, if_neg c1, c2]; rfl
  rw [e]
  exact dcread_w0_2 s (by rw [e0, c2]; rfl) trivial (by omega) (by omega) d1 d0
 | true =>
  have d2 : (!mayP (IntKind.i64.wrap (IntKind.i64.wrap (256 * IntKind.i64.wrap (chr s 0)) + IntKind.i64.wrap (chr s 1)))) = false := by rw [e0, c2]; rfl
  have hw : textD (sub s 2 (slen s)) = (!(feedL (0, 0, 0, 0) 0 false (toL (sub s 2 (slen s)))).2.2 && (feedL (0, 0, 0, 0) 0 false (toL (sub s 2 (slen s)))).1.1 == 0) := by unfold textD; rw [wholeD_feed (at' := 0)]
  cases c3 : textD (sub s 2 (slen s)) with
  | false =>
   have e : cdT s = (0, ⟨#[]⟩, 1007) := by unfold cdT; rw [if_neg c0, if_neg c1, c2, c3]; rfl
   rw [e]
   exact dcread_w0_3 s _ rfl (by rw [← hw, c3]; rfl) rp (by omega) d2 trivial (by omega) (by omega) d1 d0
  | true =>
   have e : cdT s = (codeOf s, sub s 2 (slen s), 0) := by unfold cdT; rw [if_neg c0, if_neg c1, c2, c3]; rfl
   have w := dcread_w0_4 s _ rfl (by omega) (by rw [← hw, c3]; rfl) rp d2 trivial (by omega) (by omega) d1 d0
   rw [e0] at w
   rw [e]
   exact w

def dcreadc_ex (a : List Value) (h : Heap) : ByteArray := (toStr (a.getD 0 undef))
noncomputable def dcreadc_k : Ct := kS dcreadc_ex [.str] [] (fun x => dcreadc_pre x) (fun x => dcreadc_v x) (fun x => dcreadc_h x)
theorem dcreadc_k_ok : KFor E 39 dcreadc_k := kS_ok (fun x hx => dcreadc_call x hx) (fun _ _ => rfl) (fun _ _ => rfl)


abbrev DJt : Type := Int × Int × Int × ByteArray × Bool × Bool × Int
noncomputable def djO (lim : Int) (q : DJt) : Ob := .cells [.int .i64 lim, .int .i64 q.1, .int .i64 q.2.1, .int .i64 q.2.2.1, .string q.2.2.2.1, .bool q.2.2.2.2.1, .bool q.2.2.2.2.2.1, .int .i64 q.2.2.2.2.2.2] 66 none
noncomputable def dB (lim op sum : Int) (d : ByteArray) (last : Bool) (left : Int) (l : Bool) (o n : Int) : Int × DJt :=
 bif !((o == 0) == (op != 0)) then (1002, 1002, op, sum, d, false, last, left)
 else bif decide (IntKind.i64.wrap (lim - sum) < n) then (1009, 1009, op, sum, d, false, last, left)
 else bif o == 0 then (0, 0, op, IntKind.i64.wrap (sum + n), d, true, l, n) else (0, 0, o, IntKind.i64.wrap (sum + n), ⟨#[]⟩, true, l, n)
def dbeginc_pre (lim bad op sum : Int) (d : ByteArray) (begun last : Bool) (left : Int) (l : Bool) (o n : Int) : Prop := bad = 0 ∧ begun = false ∧ (0 ≤ n ∧ n ≤ 9223372036854775807) ∧ (o = 0 ∨ o = 1 ∨ o = 2) ∧ (0 ≤ sum ∧ sum ≤ lim ∧ lim ≤ 1099511627776)
noncomputable def dbeginc_v (lim bad op sum : Int) (d : ByteArray) (begun last : Bool) (left : Int) (l : Bool) (o n : Int) : Value := .int .i64 (dB lim op sum d last left l o n).1
noncomputable def dbeginc_h (lim bad op sum : Int) (d : ByteArray) (begun last : Bool) (left : Int) (l : Bool) (o n : Int) : Heap := [some (.cells [.int .i64 lim, .int .i64 (dB lim op sum d last left l o n).2.1, .int .i64 (dB lim op sum d last left l o n).2.2.1, .int .i64 (dB lim op sum d last left l o n).2.2.2.1, .string (dB lim op sum d last left l o n).2.2.2.2.1, .bool (dB lim op sum d last left l o n).2.2.2.2.2.1, .bool (dB lim op sum d last left l o n).2.2.2.2.2.2.1, .int .i64 (dB lim op sum d last left l o n).2.2.2.2.2.2.2] 66 none)]
theorem dbeginc_call (lim bad op sum : Int) (d : ByteArray) (begun last : Bool) (left : Int) (l : Bool) (o n : Int) (h : dbeginc_pre lim bad op sum d begun last left l o n) : CallOk E 36 [.pointer (some ⟨0, 0, none⟩), .bool l, .int .i64 o, .int .i64 n] [some (.cells [.int .i64 lim, .int .i64 bad, .int .i64 op, .int .i64 sum, .string d, .bool begun, .bool last, .int .i64 left] 66 none)] (dbeginc_v lim bad op sum d begun last left l o n) (dbeginc_h lim bad op sum d begun last left l o n) := by
 obtain ⟨rfl, rfl, ⟨n0, n1⟩, ho, s0, s1, l1⟩ := h
 refine callOk_of_ends ?_ (by kernel_rfl) (Nat.le_of_ble_eq_true (by kernel_rfl))
 have hv : ∀ q : Int × DJt, dB lim op sum d last left l o n = q → ∀ {C : Cfg}, AEnds E 36 1 C (.int .i64 q.1) [some (djO lim q.2)] → AEnds E 36 1 C (dbeginc_v lim 0 op sum d false last left l o n) (dbeginc_h lim 0 op sum d false last left l o n) := fun q h _ g => by unfold dbeginc_v dbeginc_h; rw [h]; exact g
 have b0 : ((0 : Int) != 0) = false := rfl
 have c0 : decide (n < 0) = false := decide_eq_false (by omega)
 have w0 : IntKind.i64.wrap (lim - sum) = lim - sum := wrap64_in (by omega) (by omega)
 have w1 : IntKind.i64.wrap (lim - n) = lim - n := wrap64_in (by omega) (by omega)
 by_cases ho0 : o = 0
 ·subst ho0
  by_cases hp : op = 0
  ·subst hp
   exact hv (1002, 1002, 0, sum, d, false, last, left) rfl (dbegin_w0_3 lim 0 0 sum d false last left l 0 n rfl rfl c0 rfl b0)
  ·have p1 : (op == 0) = false := by simpa using hp
   have p2 : (op != 0) = true := by simpa using hp
   by_cases c1 : lim - sum < n
   ·have e : dB lim op sum d last left l 0 n = (1009, 1009, op, sum, d, false, last, left) := by unfold dB; rw [p2, w0, decide_eq_true c1]; rfl
    by_cases c2 : lim < n
    ·exact hv _ e (dbegin_w0_4 lim 0 op sum d false last left l 0 n (decide_eq_true c2) p1 rfl c0 rfl b0)
    ·exact hv _ e (dbegin_w0_5 lim 0 op sum d false last left l 0 n (by rw [w1]; exact decide_eq_true (by omega)) (decide_eq_false c2) p1 rfl c0 rfl b0)
   ·have e : dB lim op sum d last left l 0 n = (0, 0, op, IntKind.i64.wrap (sum + n), d, true, l, n) := by unfold dB; rw [p2, w0, decide_eq_false c1]; rfl
    exact hv _ e (dbegin_w0_6 lim 0 op sum d false last left l 0 n rfl (by rw [w1]; exact decide_eq_false (by omega)) (decide_eq_false (by omega)) p1 rfl c0 rfl b0)
 ·have q0 : (o == 0) = false := by simpa using ho0
  have q1 : (o != 0) = true := by simpa using ho0
  by_cases hp : op = 0
  ·have p2 : (op != 0) = false := by rw [hp]; rfl
   by_cases c1 : lim - sum < n
   ·have e : dB lim op sum d last left l o n = (1009, 1009, op, sum, d, false, last, left) := by unfold dB; rw [p2, q0, w0, decide_eq_true c1]; rfl
    rcases ho with ho | rfl | rfl
    ·exact absurd ho ho0
    ·by_cases c2 : lim < n
     ·exact hv _ e (dbegin_w0_8 lim 0 op sum d false last left l 1 n (decide_eq_true c2) p2 rfl rfl c0 rfl b0)
     ·exact hv _ e (dbegin_w0_9 lim 0 op sum d false last left l 1 n (by rw [w1]; exact decide_eq_true (by omega)) (decide_eq_false c2) p2 rfl rfl c0 rfl b0)
    ·by_cases c2 : lim < n
     ·exact hv _ e (dbegin_w0_12 lim 0 op sum d false last left l 2 n (decide_eq_true c2) p2 rfl rfl rfl c0 rfl b0)
     ·exact hv _ e (dbegin_w0_13 lim 0 op sum d false last left l 2 n (by rw [w1]; exact decide_eq_true (by omega)) (decide_eq_false c2) p2 rfl rfl rfl c0 rfl b0)
   ·have e : dB lim op sum d last left l o n = (0, 0, o, IntKind.i64.wrap (sum + n), ⟨#[]⟩, true, l, n) := by unfold dB; rw [p2, q0, w0, decide_eq_false c1]; rfl
    rcases ho with ho | rfl | rfl
    ·exact absurd ho ho0
    ·exact hv _ e (dbegin_w0_10 lim 0 op sum d false last left l 1 n rfl (by rw [w1]; exact decide_eq_false (by omega)) (decide_eq_false (by omega)) p2 rfl rfl c0 rfl b0)
    ·exact hv _ e (dbegin_w0_14 lim 0 op sum d false last left l 2 n rfl (by rw [w1]; exact decide_eq_false (by omega)) (decide_eq_false (by omega)) p2 rfl rfl rfl c0 rfl b0)
  ·have p2 : (op != 0) = true := by simpa using hp
   have e : dB lim op sum d last left l o n = (1002, 1002, op, sum, d, false, last, left) := by unfold dB; rw [p2, q0]; rfl
   rcases ho with ho | rfl | rfl
   ·exact absurd ho ho0
   ·exact hv _ e (dbegin_w0_7 lim 0 op sum d false last left l 1 n p2 rfl rfl c0 rfl b0)
   ·exact hv _ e (dbegin_w0_11 lim 0 op sum d false last left l 2 n p2 rfl rfl rfl c0 rfl b0)

def dbeginc_ex (a : List Value) (h : Heap) : Int × Int × Int × Int × ByteArray × Bool × Bool × Int × Bool × Int × Int := ((toInt ((cellsOf h 0).getD 0 undef)), (toInt ((cellsOf h 0).getD 1 undef)), (toInt ((cellsOf h 0).getD 2 undef)), (toInt ((cellsOf h 0).getD 3 undef)), (toStr ((cellsOf h 0).getD 4 undef)), (toBool ((cellsOf h 0).getD 5 undef)), (toBool ((cellsOf h 0).getD 6 undef)), (toInt ((cellsOf h 0).getD 7 undef)), (toBool (a.getD 1 undef)), (toInt (a.getD 2 undef)), (toInt (a.getD 3 undef)))
noncomputable def dbeginc_k : Ct := kS dbeginc_ex [.ptr 0 0, .bool, .int .i64, .int .i64] [.cells [.int .i64, .int .i64, .int .i64, .int .i64, .str, .bool, .bool, .int .i64] 66 none] (fun (a0, a1, a2, a3, a4, a5, a6, a7, a8, a9, a10) => dbeginc_pre a0 a1 a2 a3 a4 a5 a6 a7 a8 a9 a10) (fun (a0, a1, a2, a3, a4, a5, a6, a7, a8, a9, a10) => dbeginc_v a0 a1 a2 a3 a4 a5 a6 a7 a8 a9 a10) (fun (a0, a1, a2, a3, a4, a5, a6, a7, a8, a9, a10) => dbeginc_h a0 a1 a2 a3 a4 a5 a6 a7 a8 a9 a10)
theorem dbeginc_k_ok : KFor E 36 dbeginc_k := kS_ok (fun x hx => dbeginc_call (x.1) (x.2.1) (x.2.2.1) (x.2.2.2.1) (x.2.2.2.2.1) (x.2.2.2.2.2.1) (x.2.2.2.2.2.2.1) (x.2.2.2.2.2.2.2.1) (x.2.2.2.2.2.2.2.2.1) (x.2.2.2.2.2.2.2.2.2.1) (x.2.2.2.2.2.2.2.2.2.2) hx) (fun _ _ => rfl) (fun _ _ => rfl)


noncomputable def badD (s : ByteArray) : Bool := (feedL (0, 0, 0, 0) 0 false (toL s)).2.2
noncomputable def dP (op sum : Int) (d : ByteArray) (last : Bool) (left : Int) (s : ByteArray) : Int × DJt :=
 bif (op == 1) && badD (cat d s) then (1007, 1007, op, sum, d, true, last, left) else (0, 0, op, sum, cat d s, true, last, IntKind.i64.wrap (left - (slen s : Int)))
def dpiecec_pre (lim bad op sum : Int) (d : ByteArray) (begun last : Bool) (left : Int) (s : ByteArray) : Prop := bad = 0 ∧ begun = true ∧ (slen s : Int) ≤ left ∧ slen d + slen s ≤ 1000000
noncomputable def dpiecec_v (lim bad op sum : Int) (d : ByteArray) (begun last : Bool) (left : Int) (s : ByteArray) : Value := .int .i64 (dP op sum d last left s).1
noncomputable def dpiecec_h (lim bad op sum : Int) (d : ByteArray) (begun last : Bool) (left : Int) (s : ByteArray) : Heap := [some (.cells [.int .i64 lim, .int .i64 (dP op sum d last left s).2.1, .int .i64 (dP op sum d last left s).2.2.1, .int .i64 (dP op sum d last left s).2.2.2.1, .string (dP op sum d last left s).2.2.2.2.1, .bool (dP op sum d last left s).2.2.2.2.2.1, .bool (dP op sum d last left s).2.2.2.2.2.2.1, .int .i64 (dP op sum d last left s).2.2.2.2.2.2.2] 66 none)]
theorem dpiecec_call (lim bad op sum : Int) (d : ByteArray) (begun last : Bool) (left : Int) (s : ByteArray) (h : dpiecec_pre lim bad op sum d begun last left s) : CallOk E 38 [.pointer (some ⟨0, 0, none⟩), .string s] [some (.cells [.int .i64 lim, .int .i64 bad, .int .i64 op, .int .i64 sum, .string d, .bool begun, .bool last, .int .i64 left] 66 none)] (dpiecec_v lim bad op sum d begun last left s) (dpiecec_h lim bad op sum d begun last left s) := by
 obtain ⟨rfl, rfl, hl, hs⟩ := h
 refine callOk_of_ends ?_ (by kernel_rfl) (Nat.le_of_ble_eq_true (by kernel_rfl))
 have hv : ∀ q : Int × DJt, dP op sum d last left s = q → ∀ {C : Cfg}, AEnds E 38 1 C (.int .i64 q.1) [some (djO lim q.2)] → AEnds E 38 1 C (dpiecec_v lim 0 op sum d true last left s) (dpiecec_h lim 0 op sum d true last left s) := fun q h _ g => by unfold dpiecec_v dpiecec_h; rw [h]; exact g
 have b0 : ((0 : Int) != 0) = false := rfl
 have c1 : decide (left < (slen s : Int)) = false := decide_eq_false (by omega)
 have rp : dreads_pre (cat d s) := by show slen (cat d s) ≤ 1000000; rw [show slen (cat d s) = slen d + slen s by simp [slen, cat, toL, ofL]]; exact hs
 have hn : slen d + slen s ≤ 9223372036854775807 := by omega
 cases ho : (op == 1) with
 | false => exact hv (0, 0, op, sum, cat d s, true, last, IntKind.i64.wrap (left - (slen s : Int))) (by unfold dP; rw [ho]; rfl) (dpiece_w0_5 lim 0 op sum d true last left s hn ho rp c1 rfl b0)
 | true => cases hb : badD (cat d s) with
  | true => exact hv (1007, 1007, op, sum, d, true, last, left) (by unfold dP; rw [ho, hb]; rfl) (dpiece_w0_3 lim 0 op sum d true last left s _ rfl hb ho rp hn c1 rfl b0)
  | false => exact hv (0, 0, op, sum, cat d s, true, last, IntKind.i64.wrap (left - (slen s : Int))) (by unfold dP; rw [ho, hb]; rfl) (dpiece_w0_4 lim 0 op sum d true last left s _ rfl hn hb ho rp c1 rfl b0)

def dpiecec_ex (a : List Value) (h : Heap) : Int × Int × Int × Int × ByteArray × Bool × Bool × Int × ByteArray := ((toInt ((cellsOf h 0).getD 0 undef)), (toInt ((cellsOf h 0).getD 1 undef)), (toInt ((cellsOf h 0).getD 2 undef)), (toInt ((cellsOf h 0).getD 3 undef)), (toStr ((cellsOf h 0).getD 4 undef)), (toBool ((cellsOf h 0).getD 5 undef)), (toBool ((cellsOf h 0).getD 6 undef)), (toInt ((cellsOf h 0).getD 7 undef)), (toStr (a.getD 1 undef)))
noncomputable def dpiecec_k : Ct := kS dpiecec_ex [.ptr 0 0, .str] [.cells [.int .i64, .int .i64, .int .i64, .int .i64, .str, .bool, .bool, .int .i64] 66 none] (fun (a0, a1, a2, a3, a4, a5, a6, a7, a8) => dpiecec_pre a0 a1 a2 a3 a4 a5 a6 a7 a8) (fun (a0, a1, a2, a3, a4, a5, a6, a7, a8) => dpiecec_v a0 a1 a2 a3 a4 a5 a6 a7 a8) (fun (a0, a1, a2, a3, a4, a5, a6, a7, a8) => dpiecec_h a0 a1 a2 a3 a4 a5 a6 a7 a8)
theorem dpiecec_k_ok : KFor E 38 dpiecec_k := kS_ok (fun x hx => dpiecec_call (x.1) (x.2.1) (x.2.2.1) (x.2.2.2.1) (x.2.2.2.2.1) (x.2.2.2.2.2.1) (x.2.2.2.2.2.2.1) (x.2.2.2.2.2.2.2.1) (x.2.2.2.2.2.2.2.2) hx) (fun _ _ => rfl) (fun _ _ => rfl)


noncomputable def dE (op sum : Int) (d : ByteArray) (last : Bool) (left : Int) : (Int × ByteArray × Bool × Int) × DJt :=
 bif !last then ((0, ⟨#[]⟩, false, 0), 0, op, sum, d, false, last, left)
 else bif (op == 1) && !textD d then ((0, ⟨#[]⟩, false, 1007), 1007, op, sum, d, true, last, left)
 else ((op, d, true, 0), 0, 0, 0, ⟨#[]⟩, false, last, left)
def dendc_pre (lim bad op sum : Int) (d : ByteArray) (begun last : Bool) (left : Int) : Prop := bad = 0 ∧ begun = true ∧ left = 0 ∧ slen d ≤ 1000000
noncomputable def dendc_v (lim bad op sum : Int) (d : ByteArray) (begun last : Bool) (left : Int) : Value := .tuple #[.agg #[.int .i64 (dE op sum d last left).1.1, .string (dE op sum d last left).1.2.1], .bool (dE op sum d last left).1.2.2.1, .int .i64 (dE op sum d last left).1.2.2.2]
noncomputable def dendc_h (lim bad op sum : Int) (d : ByteArray) (begun last : Bool) (left : Int) : Heap := [some (.cells [.int .i64 lim, .int .i64 (dE op sum d last left).2.1, .int .i64 (dE op sum d last left).2.2.1, .int .i64 (dE op sum d last left).2.2.2.1, .string (dE op sum d last left).2.2.2.2.1, .bool (dE op sum d last left).2.2.2.2.2.1, .bool (dE op sum d last left).2.2.2.2.2.2.1, .int .i64 (dE op sum d last left).2.2.2.2.2.2.2] 66 none)]
theorem dendc_call (lim bad op sum : Int) (d : ByteArray) (begun last : Bool) (left : Int) (h : dendc_pre lim bad op sum d begun last left) : CallOk E 40 [.pointer (some ⟨0, 0, none⟩)] [some (.cells [.int .i64 lim, .int .i64 bad, .int .i64 op, .int .i64 sum, .string d, .bool begun, .bool last, .int .i64 left] 66 none)] (dendc_v lim bad op sum d begun last left) (dendc_h lim bad op sum d begun last left) := by
 obtain ⟨rfl, rfl, rfl, hs⟩ := h
 refine callOk_of_ends ?_ (by kernel_rfl) (Nat.le_of_ble_eq_true (by kernel_rfl))
 have hv : ∀ q : (Int × ByteArray × Bool × Int) × DJt, dE op sum d last 0 = q → ∀ {C : Cfg}, AEnds E 40 1 C (.tuple #[.agg #[.int .i64 q.1.1, .string q.1.2.1], .bool q.1.2.2.1, .int .i64 q.1.2.2.2]) [some (djO lim q.2)] → AEnds E 40 1 C (dendc_v lim 0 op sum d true last 0) (dendc_h lim 0 op sum d true last 0) := fun q h _ g => by unfold dendc_v dendc_h; rw [h]; exact g
 have b0 : ((0 : Int) != 0) = false := rfl
 have rp : dreads_pre d := hs
 have hw : textD d = (!(feedL (0, 0, 0, 0) 0 false (toL d)).2.2 && (feedL (0, 0, 0, 0) 0 false (toL d)).1.1 == 0) := by unfold textD; rw [wholeD_feed (at' := 0)]
 cases last with
 | false => exact hv ((0, ⟨#[]⟩, false, 0), 0, op, sum, d, false, false, 0) rfl (dend_w0_3 lim 0 op sum d true false 0 rfl rfl rfl b0)
 | true => cases ho : (op == 1) with
  | false => exact hv ((op, d, true, 0), 0, 0, 0, ⟨#[]⟩, false, true, 0) (by unfold dE; rw [ho]; rfl) (dend_w0_6 lim 0 op sum d true true 0 (beq_self_eq_true _) ho rp rfl rfl rfl b0)
  | true => cases ht : textD d with
   | false => exact hv ((0, ⟨#[]⟩, false, 1007), 1007, op, sum, d, true, true, 0) (by unfold dE; rw [ho, ht]; rfl) (dend_w0_4 lim 0 op sum d true true 0 _ rfl (by rw [← hw, ht]; rfl) ho rp rfl rfl rfl b0)
   | true => exact hv ((op, d, true, 0), 0, 0, 0, ⟨#[]⟩, false, true, 0) (by unfold dE; rw [ho, ht]; rfl) (dend_w0_5 lim 0 op sum d true true 0 _ rfl (beq_self_eq_true _) (by rw [← hw, ht]; rfl) ho rp rfl rfl rfl b0)

def dendc_ex (a : List Value) (h : Heap) : Int × Int × Int × Int × ByteArray × Bool × Bool × Int := ((toInt ((cellsOf h 0).getD 0 undef)), (toInt ((cellsOf h 0).getD 1 undef)), (toInt ((cellsOf h 0).getD 2 undef)), (toInt ((cellsOf h 0).getD 3 undef)), (toStr ((cellsOf h 0).getD 4 undef)), (toBool ((cellsOf h 0).getD 5 undef)), (toBool ((cellsOf h 0).getD 6 undef)), (toInt ((cellsOf h 0).getD 7 undef)))
noncomputable def dendc_k : Ct := kS dendc_ex [.ptr 0 0] [.cells [.int .i64, .int .i64, .int .i64, .int .i64, .str, .bool, .bool, .int .i64] 66 none] (fun (a0, a1, a2, a3, a4, a5, a6, a7) => dendc_pre a0 a1 a2 a3 a4 a5 a6 a7) (fun (a0, a1, a2, a3, a4, a5, a6, a7) => dendc_v a0 a1 a2 a3 a4 a5 a6 a7) (fun (a0, a1, a2, a3, a4, a5, a6, a7) => dendc_h a0 a1 a2 a3 a4 a5 a6 a7)
theorem dendc_k_ok : KFor E 40 dendc_k := kS_ok (fun x hx => dendc_call (x.1) (x.2.1) (x.2.2.1) (x.2.2.2.1) (x.2.2.2.2.1) (x.2.2.2.2.2.1) (x.2.2.2.2.2.2.1) (x.2.2.2.2.2.2.2) hx) (fun _ _ => rfl) (fun _ _ => rfl)


end Go.Proofs.Ytfpnjpbdaniomaa
