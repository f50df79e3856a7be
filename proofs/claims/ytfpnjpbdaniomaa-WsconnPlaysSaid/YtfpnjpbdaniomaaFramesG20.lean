/-
  A connection: what its calls do, way by way.
-/
import Derived.Test.YtfpnjpbdaniomaaAmSlim
import Derived.Test.YtfpnjpbdaniomaaMessageE20
import Derived.Test.YtfpnjpbdaniomaaFramesF20
import Derived.Test.YtfpnjpbdaniomaaClosingB20
import Derived.Test.YtfpnjpbdaniomaaEnv
import Derived.KernelRfl
set_option linter.unusedVariables false
set_option linter.unusedSimpArgs false
open Go Go.Am
namespace Go.Proofs.Ytfpnjpbdaniomaa

noncomputable def KW : Ctr := ctrOf E [(28, anyA, jnw_k), (29, anyA, rnw_k), (30, ptrA, rfd_k), (31, ptrA, rnx_k), (42, ptrA, jop_k), (57, anyA, creadc_k), (58, ptrA, jbg_k), (59, ptrA, jpc_k), (60, ptrA, jen_k)]
theorem KW_ok : KOk E KW := ctr_cons jnw_k_ok (ctr_cons rnw_k_ok (ctr_cons rfd_k_ok (ctr_cons rnx_k_ok (ctr_cons jop_k_ok (ctr_cons creadc_k_ok (ctr_cons jbg_k_ok (ctr_cons jpc_k_ok (ctr_cons jen_k_ok ctr_nil))))))))

noncomputable def cnext_b1 (state control : Int) (data : ByteArray) (R : Heap) (J : Heap) : Cfg := reCfg (cfgOf (goNil E KW 2000 8 (some []) [] [] [0, 1, 2, 3] [0, 2] [] [0, 1, 2] [] (startC E 21 ([.pointer (some ⟨0, 0, none⟩)]) ([some (.cells [.pointer (some ⟨1, 0, none⟩), .pointer (some ⟨2, 0, none⟩), .int .i64 state, .int .i64 control, .string data] 71 none), some (Ob.obj R), some (Ob.obj J)])))) (tmL 5 [(0, .pointer (some ⟨0, 0, none⟩)), (2, .pointer (some ⟨3, 0, none⟩))]) [some (.cells [.pointer (some ⟨1, 0, none⟩), .pointer (some ⟨2, 0, none⟩), .int .i64 state, .int .i64 control, .string data] 71 none), some (Ob.obj R), some (Ob.obj J), some (.cells [.int .i64 0, .int .i64 0, .int .i64 0, .string { data := #[] }] 28 none)]
noncomputable def cnext_h1 (state control : Int) (data : ByteArray) (R : Heap) (J : Heap) (ua : Int) (ub : ByteArray) (j1 : Heap) (j2 : Heap) : Cfg := wObj 2 j2 (wObj 1 j1 (wCell 0 4 (.string ub) (wCell 0 3 (.int .i64 ua) (cnext_b1 state control data R J))))
noncomputable abbrev cnext_st (state control : Int) (data : ByteArray) (R : Heap) (J : Heap) : Cfg := startC E 21 ([.pointer (some ⟨0, 0, none⟩)]) ([some (.cells [.pointer (some ⟨1, 0, none⟩), .pointer (some ⟨2, 0, none⟩), .int .i64 state, .int .i64 control, .string data] 71 none), some (Ob.obj R), some (Ob.obj J)])
theorem cnext_w0_0 (state control : Int) (data : ByteArray) (R : Heap) (J : Heap) : Gets E 3 (cnext_st state control data R J) (cnext_h1 state control data R J control data R J) := by
 exact reach_q KW_ok 2000 8 (some []) [] [] [0, 1, 2, 3] [0, 2] [] [0, 1, 2] [] (rfl)
theorem cnext_w1_0 (state control : Int) (data : ByteArray) (R : Heap) (J : Heap) (ua : Int) (ub : ByteArray) (j1 : Heap) (j2 : Heap) (r_1 : Int × Int × Bool × Int × ByteArray × Bool) (er_1 : rnxE j1 = r_1) (h0 : (!r_1.2.2.2.2.2) = true) (h1 : rnx_pre j1) (h2 : (state != 3) = true) : AEnds E 21 3 (cnext_h1 state control data R J ua ub j1 j2) (.tuple #[.agg #[.int .i64 0, .int .i64 0, .int .i64 0, .string { data := #[] }], .bool false]) ([some (.cells [.pointer (some ⟨1, 0, none⟩), .pointer (some ⟨2, 0, none⟩), .int .i64 state, .int .i64 ua, .string ub] 71 none), some (Ob.obj (rnxR j1)), some (Ob.obj j2)]) := by
 subst er_1; exact ends_q KW_ok 2000 77 (bs 4 12) [0, 1, 2, 3] [2, 3] [0, 1, 2] (andI (dT h0) (andI (pdec_iff.2 h1) (andI (dT h2) rfl)))
theorem cnext_w1_1 (state control : Int) (data : ByteArray) (R : Heap) (J : Heap) (ua : Int) (ub : ByteArray) (j1 : Heap) (j2 : Heap) (r_1 : Int × Int × Bool × Int × ByteArray × Bool) (er_1 : rnxE j1 = r_1) (h0 : (r_1.1 == 4) = true) (h1 : (!r_1.2.2.2.2.2) = false) (h2 : rnx_pre j1) (h3 : (state != 3) = true) : AEnds E 21 3 (cnext_h1 state control data R J ua ub j1 j2) (.tuple #[.agg #[.int .i64 4, .int .i64 0, .int .i64 1002, .string { data := #[] }], .bool true]) ([some (.cells [.pointer (some ⟨1, 0, none⟩), .pointer (some ⟨2, 0, none⟩), .int .i64 3, .int .i64 ua, .string ub] 71 none), some (Ob.obj (rnxR j1)), some (Ob.obj j2)]) := by
 subst er_1; exact ends_q KW_ok 2000 151 (bs 7 116) [0, 1, 2, 3] [2, 3] [0, 1, 2] (and4 (dT h0) (dF h1) (pdec_iff.2 h2) (dT h3) rfl)
theorem cnext_w1_2 (state control : Int) (data : ByteArray) (R : Heap) (J : Heap) (ua : Int) (ub : ByteArray) (j1 : Heap) (j2 : Heap) (r_1 : Int × Int × Bool × Int × ByteArray × Bool) (er_1 : rnxE j1 = r_1) (h0 : (decide (8 ≤ r_1.2.1)) = true) (h1 : (r_1.1 == 1) = true) (h2 : (r_1.1 == 4) = false) (h3 : (!r_1.2.2.2.2.2) = false) (h4 : rnx_pre j1) (h5 : (state != 3) = true) : Gets E 3 (cnext_h1 state control data R J ua ub j1 j2) (cnext_h1 state control data R J r_1.2.1 ({ data := #[] }) (rnxR j1) j2) := by
 subst er_1; exact reach_q KW_ok 2000 140 (bs 8 100) [] [] [0, 1, 2, 3] [0, 2] [] [0, 1, 2] [] (andI (dT h0) (andI (dT h1) (and4 (dF h2) (dF h3) (pdec_iff.2 h4) (dT h5) rfl)))
theorem cnext_w1_9 (state control : Int) (data : ByteArray) (R : Heap) (J : Heap) (ua : Int) (ub : ByteArray) (j1 : Heap) (j2 : Heap) (r_1 : Int × Int × Bool × Int × ByteArray × Bool) (er_1 : rnxE j1 = r_1) (h0 : (state != 1) = true) (h1 : (ua != 0) = false) (h2 : (decide (8 ≤ r_1.2.1)) = false) (h3 : (r_1.1 == 1) = true) (h4 : (r_1.1 == 4) = false) (h5 : (!r_1.2.2.2.2.2) = false) (h6 : rnx_pre j1) (h7 : (state != 3) = true) : Gets E 3 (cnext_h1 state control data R J ua ub j1 j2) (cnext_h1 state control data R J ua ub (rnxR j1) j2) := by
 subst er_1; exact reach_q KW_ok 2000 147 (bs 10 292) [] [] [0, 1, 2, 3] [0, 2] [] [0, 1, 2] [] (and8 (dT h0) (dF h1) (dF h2) (dT h3) (dF h4) (dF h5) (pdec_iff.2 h6) (dT h7) rfl)
theorem cnext_w1_10 (state control : Int) (data : ByteArray) (R : Heap) (J : Heap) (ua : Int) (ub : ByteArray) (j1 : Heap) (j2 : Heap) (r_1 : Int × Int × Bool × Int × ByteArray × Bool) (er_1 : rnxE j1 = r_1) (h0 : (jbgV j2 r_1.2.2.1 r_1.2.1 r_1.2.2.2.1 != 0) = true) (h1 : jbg_pre j2 r_1.2.2.1 r_1.2.1 r_1.2.2.2.1) (h2 : (r_1.1 == 1) = true) (h3 : (state != 1) = false) (h4 : (ua != 0) = false) (h5 : (decide (8 ≤ r_1.2.1)) = false) (h6 : (r_1.1 == 4) = false) (h7 : (!r_1.2.2.2.2.2) = false) (h8 : rnx_pre j1) (h9 : (state != 3) = true) : AEnds E 21 3 (cnext_h1 state control data R J ua ub j1 j2) (.tuple #[.agg #[.int .i64 4, .int .i64 0, .int .i64 (jbgV j2 r_1.2.2.1 r_1.2.1 r_1.2.2.2.1), .string { data := #[] }], .bool true]) ([some (.cells [.pointer (some ⟨1, 0, none⟩), .pointer (some ⟨2, 0, none⟩), .int .i64 3, .int .i64 ua, .string ub] 71 none), some (Ob.obj (rnxR j1)), some (Ob.obj (jbgJ j2 r_1.2.2.1 r_1.2.1 r_1.2.2.2.1))]) := by
 subst er_1; exact ends_q KW_ok 2000 235 (bs 13 7716) [0, 1, 2, 3] [2, 3] [0, 1, 2] (and8 (dT h0) (pdec_iff.2 h1) (dT h2) (dF h3) (dF h4) (dF h5) (dT h2) (dF h6) (andI (dF h7) (andI (pdec_iff.2 h8) (andI (dT h9) rfl))))
theorem cnext_w1_11 (state control : Int) (data : ByteArray) (R : Heap) (J : Heap) (ua : Int) (ub : ByteArray) (j1 : Heap) (j2 : Heap) (r_1 : Int × Int × Bool × Int × ByteArray × Bool) (er_1 : rnxE j1 = r_1) (h0 : (jbgV j2 r_1.2.2.1 r_1.2.1 r_1.2.2.2.1 != 0) = false) (h1 : jbg_pre j2 r_1.2.2.1 r_1.2.1 r_1.2.2.2.1) (h2 : (r_1.1 == 1) = true) (h3 : (state != 1) = false) (h4 : (ua != 0) = false) (h5 : (decide (8 ≤ r_1.2.1)) = false) (h6 : (r_1.1 == 4) = false) (h7 : (!r_1.2.2.2.2.2) = false) (h8 : rnx_pre j1) (h9 : (state != 3) = true) : Gets E 3 (cnext_h1 state control data R J ua ub j1 j2) (cnext_h1 state control data R J ua ub (rnxR j1) (jbgJ j2 r_1.2.2.1 r_1.2.1 r_1.2.2.2.1)) := by
 subst er_1; exact reach_q KW_ok 2000 203 (bs 12 548) [] [] [0, 1, 2, 3] [0, 2] [] [0, 1, 2] [] (and8 (dF h0) (pdec_iff.2 h1) (dT h2) (dF h3) (dF h4) (dF h5) (dT h2) (dF h6) (andI (dF h7) (andI (pdec_iff.2 h8) (andI (dT h9) rfl))))
theorem cnext_w1_12 (state control : Int) (data : ByteArray) (R : Heap) (J : Heap) (ua : Int) (ub : ByteArray) (j1 : Heap) (j2 : Heap) (r_1 : Int × Int × Bool × Int × ByteArray × Bool) (er_1 : rnxE j1 = r_1) (h0 : slen ub + slen r_1.2.2.2.2.1 ≤ 9223372036854775807) (h1 : (r_1.1 == 2) = true) (h2 : (ua != 0) = true) (h3 : (r_1.1 == 1) = false) (h4 : (r_1.1 == 4) = false) (h5 : (!r_1.2.2.2.2.2) = false) (h6 : rnx_pre j1) (h7 : (state != 3) = true) : Gets E 3 (cnext_h1 state control data R J ua ub j1 j2) (cnext_h1 state control data R J ua (cat ub r_1.2.2.2.2.1) (rnxR j1) j2) := by
 subst er_1; exact reach_q KW_ok 2000 164 (bs 10 388) [] [] [0, 1, 2, 3] [0, 2] [] [0, 1, 2] [] (and8 (decide_eq_true h0) (dT h1) (dT h2) (dF h3) (dF h4) (dF h5) (pdec_iff.2 h6) (dT h7) rfl)
theorem cnext_w1_13 (state control : Int) (data : ByteArray) (R : Heap) (J : Heap) (ua : Int) (ub : ByteArray) (j1 : Heap) (j2 : Heap) (r_1 : Int × ByteArray × Int) (er_1 : cdT ub = r_1) (r_2 : Int × Int × Bool × Int × ByteArray × Bool) (er_2 : rnxE j1 = r_2) (h0 : (r_1.2.2 != 0) = true) (h1 : creadc_pre ub) (h2 : (ua == 8) = true) (h3 : (r_2.1 == 2) = false) (h4 : (ua != 0) = true) (h5 : (r_2.1 == 1) = false) (h6 : (r_2.1 == 4) = false) (h7 : (!r_2.2.2.2.2.2) = false) (h8 : rnx_pre j1) (h9 : (state != 3) = true) : AEnds E 21 3 (cnext_h1 state control data R J ua ub j1 j2) (.tuple #[.agg #[.int .i64 4, .int .i64 0, .int .i64 r_1.2.2, .string { data := #[] }], .bool true]) ([some (.cells [.pointer (some ⟨1, 0, none⟩), .pointer (some ⟨2, 0, none⟩), .int .i64 3, .int .i64 0, .string ub] 71 none), some (Ob.obj (rnxR j1)), some (Ob.obj j2)]) := by
 subst er_1; subst er_2; exact ends_q KW_ok 2000 247 (bs 13 7812) [0, 1, 2, 3] [2, 3] [0, 1, 2] (and8 (dT h0) (pdec_iff.2 h1) (dT h2) (dF h3) (dT h4) (dF h5) (dF h6) (dF h7) (andI (pdec_iff.2 h8) (andI (dT h9) rfl)))
theorem cnext_w1_14 (state control : Int) (data : ByteArray) (R : Heap) (J : Heap) (ua : Int) (ub : ByteArray) (j1 : Heap) (j2 : Heap) (r_1 : Int × ByteArray × Int) (er_1 : cdT ub = r_1) (r_2 : Int × Int × Bool × Int × ByteArray × Bool) (er_2 : rnxE j1 = r_2) (h0 : (r_1.2.2 != 0) = false) (h1 : creadc_pre ub) (h2 : (ua == 8) = true) (h3 : (r_2.1 == 2) = false) (h4 : (ua != 0) = true) (h5 : (r_2.1 == 1) = false) (h6 : (r_2.1 == 4) = false) (h7 : (!r_2.2.2.2.2.2) = false) (h8 : rnx_pre j1) (h9 : (state != 3) = true) : AEnds E 21 3 (cnext_h1 state control data R J ua ub j1 j2) (.tuple #[.agg #[.int .i64 3, .int .i64 0, .int .i64 r_1.1, .string { data := #[] }], .bool true]) ([some (.cells [.pointer (some ⟨1, 0, none⟩), .pointer (some ⟨2, 0, none⟩), .int .i64 3, .int .i64 0, .string ub] 71 none), some (Ob.obj (rnxR j1)), some (Ob.obj j2)]) := by
 subst er_1; subst er_2; exact ends_q KW_ok 2000 232 (bs 13 6788) [0, 1, 2, 3] [2, 3] [0, 1, 2] (and8 (dF h0) (pdec_iff.2 h1) (dT h2) (dF h3) (dT h4) (dF h5) (dF h6) (dF h7) (andI (pdec_iff.2 h8) (andI (dT h9) rfl)))
theorem cnext_w1_15 (state control : Int) (data : ByteArray) (R : Heap) (J : Heap) (ua : Int) (ub : ByteArray) (j1 : Heap) (j2 : Heap) (r_1 : Int × Int × Bool × Int × ByteArray × Bool) (er_1 : rnxE j1 = r_1) (h0 : (state == 1) = true) (h1 : (ua == 9) = true) (h2 : (ua == 8) = false) (h3 : (r_1.1 == 2) = false) (h4 : (ua != 0) = true) (h5 : (r_1.1 == 1) = false) (h6 : (r_1.1 == 4) = false) (h7 : (!r_1.2.2.2.2.2) = false) (h8 : rnx_pre j1) (h9 : (state != 3) = true) : AEnds E 21 3 (cnext_h1 state control data R J ua ub j1 j2) (.tuple #[.agg #[.int .i64 2, .int .i64 0, .int .i64 0, .string ub], .bool true]) ([some (.cells [.pointer (some ⟨1, 0, none⟩), .pointer (some ⟨2, 0, none⟩), .int .i64 state, .int .i64 0, .string ub] 71 none), some (Ob.obj (rnxR j1)), some (Ob.obj j2)]) := by
 subst er_1; exact ends_q KW_ok 2000 208 (bs 13 7300) [0, 1, 2, 3] [2, 3] [0, 1, 2] (and8 (dT h0) (dT h1) (dF h2) (dF h3) (dT h4) (dF h5) (dF h6) (dF h7) (andI (pdec_iff.2 h8) (andI (dT h9) rfl)))
theorem cnext_w1_16 (state control : Int) (data : ByteArray) (R : Heap) (J : Heap) (ua : Int) (ub : ByteArray) (j1 : Heap) (j2 : Heap) (r_1 : Int × Int × Bool × Int × ByteArray × Bool) (er_1 : rnxE j1 = r_1) (h0 : (state == 1) = false) (h1 : (ua == 9) = true) (h2 : (ua == 8) = false) (h3 : (r_1.1 == 2) = false) (h4 : (ua != 0) = true) (h5 : (r_1.1 == 1) = false) (h6 : (r_1.1 == 4) = false) (h7 : (!r_1.2.2.2.2.2) = false) (h8 : rnx_pre j1) (h9 : (state != 3) = true) : Gets E 3 (cnext_h1 state control data R J ua ub j1 j2) (cnext_h1 state control data R J (0) ub (rnxR j1) j2) := by
 subst er_1; exact reach_q KW_ok 2000 203 (bs 13 1156) [] [] [0, 1, 2, 3] [0, 2] [] [0, 1, 2] [] (and8 (dF h0) (dT h1) (dF h2) (dF h3) (dT h4) (dF h5) (dF h6) (dF h7) (andI (pdec_iff.2 h8) (andI (dT h9) rfl)))
theorem cnext_w1_17 (state control : Int) (data : ByteArray) (R : Heap) (J : Heap) (ua : Int) (ub : ByteArray) (j1 : Heap) (j2 : Heap) (r_1 : Int × Int × Bool × Int × ByteArray × Bool) (er_1 : rnxE j1 = r_1) (h0 : (ua == 9) = false) (h1 : (ua == 8) = false) (h2 : (r_1.1 == 2) = false) (h3 : (ua != 0) = true) (h4 : (r_1.1 == 1) = false) (h5 : (r_1.1 == 4) = false) (h6 : (!r_1.2.2.2.2.2) = false) (h7 : rnx_pre j1) (h8 : (state != 3) = true) : Gets E 3 (cnext_h1 state control data R J ua ub j1 j2) (cnext_h1 state control data R J (0) ub (rnxR j1) j2) := by
 subst er_1; exact reach_q KW_ok 2000 203 (bs 13 132) [] [] [0, 1, 2, 3] [0, 2] [] [0, 1, 2] [] (and8 (dF h0) (dF h1) (dF h2) (dT h3) (dF h4) (dF h5) (dF h6) (pdec_iff.2 h7) (andI (dT h8) rfl))
theorem cnext_w1_18 (state control : Int) (data : ByteArray) (R : Heap) (J : Heap) (ua : Int) (ub : ByteArray) (j1 : Heap) (j2 : Heap) (r_1 : Int × Int × Bool × Int × ByteArray × Bool) (er_1 : rnxE j1 = r_1) (h0 : (state != 1) = true) (h1 : (ua != 0) = false) (h2 : (r_1.1 == 1) = false) (h3 : (r_1.1 == 4) = false) (h4 : (!r_1.2.2.2.2.2) = false) (h5 : rnx_pre j1) (h6 : (state != 3) = true) : Gets E 3 (cnext_h1 state control data R J ua ub j1 j2) (cnext_h1 state control data R J ua ub (rnxR j1) j2) := by
 subst er_1; exact reach_q KW_ok 2000 147 (bs 10 260) [] [] [0, 1, 2, 3] [0, 2] [] [0, 1, 2] [] (andI (dT h0) (andI (dF h1) (andI (dF h2) (and4 (dF h3) (dF h4) (pdec_iff.2 h5) (dT h6) rfl))))
theorem cnext_w1_19 (state control : Int) (data : ByteArray) (R : Heap) (J : Heap) (ua : Int) (ub : ByteArray) (j1 : Heap) (j2 : Heap) (r_1 : Int × Int × Bool × Int × ByteArray × Bool) (er_1 : rnxE j1 = r_1) (h0 : (jpcV j2 r_1.2.2.2.2.1 != 0) = true) (h1 : jpc_pre j2 r_1.2.2.2.2.1) (h2 : (r_1.1 == 2) = true) (h3 : (r_1.1 == 1) = false) (h4 : (state != 1) = false) (h5 : (ua != 0) = false) (h6 : (r_1.1 == 4) = false) (h7 : (!r_1.2.2.2.2.2) = false) (h8 : rnx_pre j1) (h9 : (state != 3) = true) : AEnds E 21 3 (cnext_h1 state control data R J ua ub j1 j2) (.tuple #[.agg #[.int .i64 4, .int .i64 0, .int .i64 (jpcV j2 r_1.2.2.2.2.1), .string { data := #[] }], .bool true]) ([some (.cells [.pointer (some ⟨1, 0, none⟩), .pointer (some ⟨2, 0, none⟩), .int .i64 3, .int .i64 ua, .string ub] 71 none), some (Ob.obj (rnxR j1)), some (Ob.obj (jpcJ j2 r_1.2.2.2.2.1))]) := by
 subst er_1; exact ends_q KW_ok 2000 241 (bs 14 15364) [0, 1, 2, 3] [2, 3] [0, 1, 2] (and8 (dT h0) (pdec_iff.2 h1) (dT h2) (dF h3) (dF h4) (dF h5) (dF h3) (dF h6) (andI (dF h7) (andI (pdec_iff.2 h8) (andI (dT h9) rfl))))
theorem cnext_w1_20 (state control : Int) (data : ByteArray) (R : Heap) (J : Heap) (ua : Int) (ub : ByteArray) (j1 : Heap) (j2 : Heap) (r_1 : Int × Int × Bool × Int × ByteArray × Bool) (er_1 : rnxE j1 = r_1) (h0 : (jpcV j2 r_1.2.2.2.2.1 != 0) = false) (h1 : jpc_pre j2 r_1.2.2.2.2.1) (h2 : (r_1.1 == 2) = true) (h3 : (r_1.1 == 1) = false) (h4 : (state != 1) = false) (h5 : (ua != 0) = false) (h6 : (r_1.1 == 4) = false) (h7 : (!r_1.2.2.2.2.2) = false) (h8 : rnx_pre j1) (h9 : (state != 3) = true) : Gets E 3 (cnext_h1 state control data R J ua ub j1 j2) (cnext_h1 state control data R J ua ub (rnxR j1) (jpcJ j2 r_1.2.2.2.2.1)) := by
 subst er_1; exact reach_q KW_ok 2000 209 (bs 13 1028) [] [] [0, 1, 2, 3] [0, 2] [] [0, 1, 2] [] (and8 (dF h0) (pdec_iff.2 h1) (dT h2) (dF h3) (dF h4) (dF h5) (dF h3) (dF h6) (andI (dF h7) (andI (pdec_iff.2 h8) (andI (dT h9) rfl))))
theorem cnext_w1_21 (state control : Int) (data : ByteArray) (R : Heap) (J : Heap) (ua : Int) (ub : ByteArray) (j1 : Heap) (j2 : Heap) (r_1 : Int × ByteArray × Bool × Int) (er_1 : jenE j2 = r_1) (r_2 : Int × Int × Bool × Int × ByteArray × Bool) (er_2 : rnxE j1 = r_2) (h0 : (r_1.2.2.2 != 0) = true) (h1 : jen_pre j2) (h2 : (r_2.1 == 3) = true) (h3 : (r_2.1 == 2) = false) (h4 : (r_2.1 == 1) = false) (h5 : (state != 1) = false) (h6 : (ua != 0) = false) (h7 : (r_2.1 == 4) = false) (h8 : (!r_2.2.2.2.2.2) = false) (h9 : rnx_pre j1) (h10 : (state != 3) = true) : AEnds E 21 3 (cnext_h1 state control data R J ua ub j1 j2) (.tuple #[.agg #[.int .i64 4, .int .i64 0, .int .i64 r_1.2.2.2, .string { data := #[] }], .bool true]) ([some (.cells [.pointer (some ⟨1, 0, none⟩), .pointer (some ⟨2, 0, none⟩), .int .i64 3, .int .i64 ua, .string ub] 71 none), some (Ob.obj (rnxR j1)), some (Ob.obj (jenJ j2))]) := by
 subst er_1; subst er_2; exact ends_q KW_ok 2000 260 (bs 15 30724) [0, 1, 2, 3] [2, 3] [0, 1, 2] (and8 (dT h0) (pdec_iff.2 h1) (dT h2) (dF h3) (dF h4) (dF h5) (dF h6) (dF h4) (and4 (dF h7) (dF h8) (pdec_iff.2 h9) (dT h10) rfl))
theorem cnext_w1_22 (state control : Int) (data : ByteArray) (R : Heap) (J : Heap) (ua : Int) (ub : ByteArray) (j1 : Heap) (j2 : Heap) (r_1 : Int × ByteArray × Bool × Int) (er_1 : jenE j2 = r_1) (r_2 : Int × Int × Bool × Int × ByteArray × Bool) (er_2 : rnxE j1 = r_2) (h0 : r_1.2.2.1 = true) (h1 : (r_1.2.2.2 != 0) = false) (h2 : jen_pre j2) (h3 : (r_2.1 == 3) = true) (h4 : (r_2.1 == 2) = false) (h5 : (r_2.1 == 1) = false) (h6 : (state != 1) = false) (h7 : (ua != 0) = false) (h8 : (r_2.1 == 4) = false) (h9 : (!r_2.2.2.2.2.2) = false) (h10 : rnx_pre j1) (h11 : (state != 3) = true) : AEnds E 21 3 (cnext_h1 state control data R J ua ub j1 j2) (.tuple #[.agg #[.int .i64 1, .int .i64 r_1.1, .int .i64 0, .string r_1.2.1], .bool true]) ([some (.cells [.pointer (some ⟨1, 0, none⟩), .pointer (some ⟨2, 0, none⟩), .int .i64 state, .int .i64 ua, .string ub] 71 none), some (Ob.obj (rnxR j1)), some (Ob.obj (jenJ j2))]) := by
 subst er_1; subst er_2; exact ends_q KW_ok 2000 231 (bs 14 10244) [0, 1, 2, 3] [2, 3] [0, 1, 2] (and8 (dT h0) (dF h1) (pdec_iff.2 h2) (dT h3) (dF h4) (dF h5) (dF h6) (dF h7) (andI (dF h5) (and4 (dF h8) (dF h9) (pdec_iff.2 h10) (dT h11) rfl)))
theorem cnext_w1_23 (state control : Int) (data : ByteArray) (R : Heap) (J : Heap) (ua : Int) (ub : ByteArray) (j1 : Heap) (j2 : Heap) (r_1 : Int × ByteArray × Bool × Int) (er_1 : jenE j2 = r_1) (r_2 : Int × Int × Bool × Int × ByteArray × Bool) (er_2 : rnxE j1 = r_2) (h0 : r_1.2.2.1 = false) (h1 : (r_1.2.2.2 != 0) = false) (h2 : jen_pre j2) (h3 : (r_2.1 == 3) = true) (h4 : (r_2.1 == 2) = false) (h5 : (r_2.1 == 1) = false) (h6 : (state != 1) = false) (h7 : (ua != 0) = false) (h8 : (r_2.1 == 4) = false) (h9 : (!r_2.2.2.2.2.2) = false) (h10 : rnx_pre j1) (h11 : (state != 3) = true) : Gets E 3 (cnext_h1 state control data R J ua ub j1 j2) (cnext_h1 state control data R J ua ub (rnxR j1) (jenJ j2)) := by
 subst er_1; subst er_2; exact reach_q KW_ok 2000 228 (bs 14 2052) [] [] [0, 1, 2, 3] [0, 2] [] [0, 1, 2] [] (and8 (dF h0) (dF h1) (pdec_iff.2 h2) (dT h3) (dF h4) (dF h5) (dF h6) (dF h7) (andI (dF h5) (and4 (dF h8) (dF h9) (pdec_iff.2 h10) (dT h11) rfl)))
theorem cnext_w1_25 (state control : Int) (data : ByteArray) (R : Heap) (J : Heap) (ua : Int) (ub : ByteArray) (j1 : Heap) (j2 : Heap) (h0 : (state != 3) = false) : AEnds E 21 3 (cnext_h1 state control data R J ua ub j1 j2) (.tuple #[.agg #[.int .i64 0, .int .i64 0, .int .i64 0, .string { data := #[] }], .bool false]) ([some (.cells [.pointer (some ⟨1, 0, none⟩), .pointer (some ⟨2, 0, none⟩), .int .i64 state, .int .i64 ua, .string ub] 71 none), some (Ob.obj j1), some (Ob.obj j2)]) := by
 exact ends_q KW_ok 2000 54 (bs 3 0) [0, 1, 2, 3] [2, 3] [0, 1, 2] (andI (dF h0) rfl)


end Go.Proofs.Ytfpnjpbdaniomaa

/-
  A connection, as plain data: what Next tells, how it stands then; what holds of it.
-/
set_option linter.unusedVariables false
set_option linter.unusedSimpArgs false
open Go Go.Am
namespace Go.Proofs.Ytfpnjpbdaniomaa

structure CS where
 st : Int
 ctl : Int
 data : ByteArray
 r : RX
 j : JS
abbrev EvT : Type := Int × Int × Int × ByteArray
noncomputable def takesF (c : CS) (k o : Int) (f : Bool) (l : Int) (t : ByteArray) : Option EvT × CS :=
 if k = 4 then (some (4, 0, 1002, ⟨#[]⟩), { c with st := 3 })
 else if k = 1 ∧ 8 ≤ o then (none, { c with ctl := o, data := ⟨#[]⟩ })
 else if ¬ c.ctl = 0 then
  if k = 2 then (none, { c with data := cat c.data t })
  else if c.ctl = 8 then
   if ¬ (cdT c.data).2.2 = 0 then (some (4, 0, (cdT c.data).2.2, ⟨#[]⟩), { c with st := 3, ctl := 0 })
   else (some (3, 0, (cdT c.data).1, ⟨#[]⟩), { c with st := 3, ctl := 0 })
  else if c.ctl = 9 ∧ c.st = 1 then (some (2, 0, 0, c.data), { c with ctl := 0 })
  else (none, { c with ctl := 0 })
 else if ¬ c.st = 1 then (none, c)
 else if k = 1 then
  if ¬ (beginF c.j f o l).1 = 0 then (some (4, 0, (beginF c.j f o l).1, ⟨#[]⟩), { c with st := 3, j := (beginF c.j f o l).2 })
  else (none, { c with j := (beginF c.j f o l).2 })
 else if k = 2 then
  if ¬ (pieceF c.j t).1 = 0 then (some (4, 0, (pieceF c.j t).1, ⟨#[]⟩), { c with st := 3, j := (pieceF c.j t).2 })
  else (none, { c with j := (pieceF c.j t).2 })
 else if k = 3 then
  if ¬ (endF c.j).2.2.2.1 = 0 then (some (4, 0, (endF c.j).2.2.2.1, ⟨#[]⟩), { c with st := 3, j := (endF c.j).2.2.2.2 })
  else if (endF c.j).2.2.1 = true then (some (1, (endF c.j).1, 0, (endF c.j).2.1), { c with j := (endF c.j).2.2.2.2 })
  else (none, { c with j := (endF c.j).2.2.2.2 })
 else (none, c)
noncomputable def takeR (c : CS) (e : Int × Int × Bool × Int × ByteArray × Bool) (x : RX) : Option EvT × CS := takesF { c with r := x } e.1 e.2.1 e.2.2.1 e.2.2.2.1 e.2.2.2.2.1
noncomputable def nextF : Nat → CS → Option EvT × CS
 | 0, c => (none, c)
 | n + 1, c => if c.st = 3 then (none, c) else
  if rOk (stepT true c.r) = false then (none, c) else
  match takeR c (evR (stepT true c.r)) (rx (stepT true c.r)) with
  | (some e, c') => (some e, c')
  | (none, c') => nextF n c'
theorem takesF_r (c : CS) (k o : Int) (f : Bool) (l : Int) (t : ByteArray) : (takesF c k o f l t).2.r = c.r := by
 unfold takesF
 repeat' split
 all_goals rfl
theorem takeR_r (c : CS) (e : Int × Int × Bool × Int × ByteArray × Bool) (x : RX) : (takeR c e x).2.r = x := takesF_r _ _ _ _ _ _
structure JL (B : Nat) (c : CS) : Prop where
 bad : c.j.bad = 0
 bg : c.j.begun = true ↔ (xSt c.r = 1 ∧ c.ctl = 0)
 lk : c.j.begun = true → c.j.lacks = xHl c.r - xTold c.r
 bo : c.j.begun = true → ¬ c.j.op = 0
 ch : ¬ c.j.op = 0 → c.j.chk.isSome = true
 tx : txtL c.j.txt + slen (xIn c.r) ≤ B
 tn : ∀ b, c.j.txt = some b → 0 < slen b
 a0 : 0 ≤ (chkG c.j.chk).2.1
 a1 : (chkG c.j.chk).2.1 + slen (xIn c.r) ≤ B
structure CW (B : Nat) (c : CS) : Prop where
 r : Inv c.r
 ctl : ¬ c.ctl = 0 → xSt c.r = 1
 dat : slen c.data + slen (xIn c.r) ≤ B
 jl : c.st = 1 → JL B c
theorem CW.le {B : Nat} {c : CS} (h : CW B c) : slen (xIn c.r) ≤ B := by have := h.dat; omega
theorem feedL_at : ∀ (l : List UInt8) (q : Q) (a : Int) (bad : Bool), a ≤ (feedL q a bad l).2.1 ∧ (feedL q a bad l).2.1 ≤ a + l.length
 | [], q, a, bad => ⟨Int.le_refl _, by simp [feedL]⟩
 | b :: r, q, a, bad => by
  unfold feedL
  cases bad with
  | true => exact ⟨Int.le_refl _, by simp; omega⟩
  | false =>
   rw [cond_false]
   have h := feedL_at r (sst q b.toNat).2 (bif (sst q b.toNat).1 then a + 1 else a) (!(sst q b.toNat).1)
   have e : ((b :: r).length : Int) = (r.length : Int) + 1 := by simp
   rw [e]
   cases hs : (sst q b.toNat).1 <;> rw [hs] at h <;> simp only [cond_true, cond_false] at h ⊢ <;> omega
theorem slen_mask (k : List Int) (a : Int) (s : ByteArray) : slen (maskD k a s) = slen s := by
 unfold maskD
 cases decide (a < 0) with
 | true => rfl
 | false => simp only [cond_false]; rw [slen_ofL, maskL_len]; rfl
theorem step_cases {x : RX} (h : Inv x) (ho : rOk (stepT true x) = true) :
  (xSt x = 0 ∧ evR (stepT true x) = (4, 0, false, 0, ⟨#[]⟩, true) ∧ rx (stepT true x) = xSet x 2 ⟨#[]⟩ (xTold x)) ∨
  (xSt x = 0 ∧ hOk (xIn x) = true ∧ mayS true (xIn x) = true ∧ evR (stepT true x) = (1, chr (xIn x) 0 % 16, decide (128 ≤ chr (xIn x) 0), hLen (xIn x), ⟨#[]⟩, true) ∧ rx (stepT true x) = xHead (xIn x)) ∨
  (xSt x = 1 ∧ xHl x = xTold x ∧ evR (stepT true x) = (3, 0, false, 0, ⟨#[]⟩, true) ∧ rx (stepT true x) = xSet x 0 (xIn x) (xTold x)) ∨
  (xSt x = 1 ∧ 0 < nOf x ∧ nOf x ≤ slen (xIn x) ∧ (nOf x : Int) ≤ xHl x - xTold x ∧ evR (stepT true x) = (2, 0, false, 0, maskD (xKey x) (xTold x) (sub (xIn x) 0 (nOf x)), true) ∧ rx (stepT true x) = xSet x (xSt x) (sub (xIn x) (nOf x) (slen (xIn x))) (xTold x + nOf x)) := by
 rcases h.st with h1 | h1 | ⟨h1, t0, t1, t2⟩
 ·rw [stepT_2 h1] at ho; cases ho
 ·rw [stepT_0 h1] at ho ⊢
  cases c1 : hOk (xIn x) with
  | false => rw [c1] at ho; cases ho
  | true =>
   cases c2 : mayS true (xIn x) with
   | false => exact .inl ⟨h1, rfl, rfl⟩
   | true => exact .inr (.inl ⟨h1, rfl, rfl, rfl, rfl⟩)
 ·by_cases c1 : xHl x = xTold x
  ·rw [stepT_e h1 c1]
   exact .inr (.inr (.inl ⟨h1, c1, rfl, rfl⟩))
  ·by_cases c2 : slen (xIn x) = 0
   ·rw [stepT_n h1 c1 c2] at ho; cases ho
   ·rw [stepT_p h1 c1 c2]
    exact .inr (.inr (.inr ⟨h1, by unfold nOf; omega, by unfold nOf; omega, by unfold nOf; omega, rfl, rfl⟩))
theorem may_op {s : ByteArray} (h : mayS true s = true) : chr s 0 % 16 = 0 ∨ chr s 0 % 16 = 1 ∨ chr s 0 % 16 = 2 ∨ chr s 0 % 16 = 8 ∨ chr s 0 % 16 = 9 ∨ chr s 0 % 16 = 10 := by
 unfold mayS mayD opD at h
 simp only [Bool.and_eq_true, decide_eq_true_eq] at h
 exact h.2.1
theorem ih_len (s : ByteArray) (h : hOk s = true) : slen (xIn (xHead s)) ≤ slen s := by
 show slen (sub s _ _) ≤ _
 rw [slen_sub]; omega
theorem piece_len (x : RX) (hn : nOf x ≤ slen (xIn x)) : slen (maskD (xKey x) (xTold x) (sub (xIn x) 0 (nOf x))) = nOf x := by
 rw [slen_mask, slen_sub]; omega
theorem rest_len (x : RX) (hn : nOf x ≤ slen (xIn x)) : slen (sub (xIn x) (nOf x) (slen (xIn x))) = slen (xIn x) - nOf x := by rw [slen_sub]; omega
theorem catO_len (t : Option ByteArray) (s : ByteArray) : slen (catO t s) = txtL t + slen s := by
 cases t with
 | none => show slen s = 0 + slen s; omega
 | some b => exact slen_cat b s
theorem begin_ok {s : JS} {l : Bool} {o n : Int} (h : (beginF s l o n).1 = 0) : (o = 0 ∧ ¬ s.op = 0 ∧ (beginF s l o n).2 = { s with sum := IntKind.i64.wrap (s.sum + n), begun := true, last := l, lacks := n }) ∨
  (¬ o = 0 ∧ s.op = 0 ∧ (beginF s l o n).2 = { s with op := o, sum := IntKind.i64.wrap (s.sum + n), begun := true, last := l, lacks := n, chk := some fresh }) := by
 unfold beginF at h ⊢
 cases c1 : decide (n < 0) with
 | true => rw [c1] at h; cases h
 | false =>
  rw [c1] at h
  simp only [cond_false] at h ⊢
  cases c2 : !((o == 0) == (s.op != 0)) with
  | true => rw [c2] at h; cases h
  | false =>
   rw [c2] at h
   simp only [cond_false] at h ⊢
   cases c3 : decide (IntKind.i64.wrap (s.lim - s.sum) < n) with
   | true => rw [c3] at h; cases h
   | false =>
    rw [c3] at h
    simp only [cond_false] at h ⊢
    by_cases ho : o = 0
    ·subst ho
     refine .inl ⟨rfl, ?_, rfl⟩
     intro hz
     rw [hz] at c2
     cases c2
    ·have e : (o == 0) = false := by simpa using ho
     rw [e] at c2 ⊢
     refine .inr ⟨ho, ?_, rfl⟩
     by_cases hz : s.op = 0
     ·exact hz
     ·have : (s.op != 0) = true := by simpa using hz
      rw [this] at c2; cases c2
theorem piece_ok {s : JS} {t : ByteArray} (h : (pieceF s t).1 = 0) : (slen t : Int) ≤ s.lacks ∧ ((pieceF s t).2 = { s with chk := some (fedC (chkG s.chk) t), txt := some (catO s.txt t), lacks := IntKind.i64.wrap (s.lacks - (slen t : Int)) } ∨
  (pieceF s t).2 = { s with txt := some (catO s.txt t), lacks := IntKind.i64.wrap (s.lacks - (slen t : Int)) }) := by
 unfold pieceF at h ⊢
 cases c1 : decide (s.lacks < (slen t : Int)) with
 | true => rw [c1] at h; cases h
 | false =>
  rw [c1] at h
  simp only [cond_false] at h ⊢
  refine ⟨by simpa using c1, ?_⟩
  cases c2 : s.op == 1 with
  | true =>
   rw [c2] at h
   simp only [cond_true] at h ⊢
   cases c3 : !!(fedC (chkG s.chk) t).2.2 with
   | true => rw [c3] at h; cases h
   | false => exact .inl rfl
  | false => exact .inr rfl
theorem end_ok {s : JS} (h : (endF s).2.2.2.1 = 0) : ((endF s).2.2.1 = false ∧ (endF s).2.2.2.2 = { s with begun := false }) ∨ ((endF s).2.2.1 = true ∧ (endF s).2.2.2.2 = { s with op := 0, sum := 0, begun := false, txt := none }) := by
 unfold endF at h ⊢
 cases c1 : !s.last with
 | true => exact .inl ⟨rfl, rfl⟩
 | false =>
  rw [c1] at h
  simp only [cond_false] at h ⊢
  cases c2 : (s.op == 1) && (!(chkG s.chk).1.1 == 0 || (chkG s.chk).2.2) with
  | true => rw [c2] at h; cases h
  | false => exact .inr ⟨rfl, rfl⟩
theorem fed_at (c : JC) (t : ByteArray) : c.2.1 ≤ (fedC c t).2.1 ∧ (fedC c t).2.1 ≤ c.2.1 + slen t := feedL_at _ _ _ _
theorem takeR_inv {B : Nat} {c : CS} (h : CW B c) (hs : ¬ c.st = 3) (ho : rOk (stepT true c.r) = true) : CW B (takeR c (evR (stepT true c.r)) (rx (stepT true c.r))).2 := by
 have hi := (step_inv h.r ho).1
 have hB := h.le
 have hd := h.dat
 have z : slen (⟨#[]⟩ : ByteArray) = 0 := rfl
 rcases step_cases h.r ho with ⟨a1, a2, a3⟩ | ⟨a1, a2, a3, a4, a5⟩ | ⟨a1, a2, a3, a4⟩ | ⟨a1, a2, a3, a4, a5, a6⟩
 ·rw [a2, a3]
  rw [a3] at hi
  unfold takeR takesF
  simp only [if_true]
  refine ⟨hi, fun hc => ?_, by show slen c.data + slen ⟨#[]⟩ ≤ B; omega, fun hh => by cases hh⟩
  have := h.ctl hc
  omega
 ·have hc : c.ctl = 0 := Classical.byContradiction fun hc => by have := h.ctl hc; omega
  have hl := ih_len (xIn c.r) a2
  have hx1 : xSt (xHead (xIn c.r)) = 1 := rfl
  rw [a4, a5]
  rw [a5] at hi
  unfold takeR takesF
  dsimp only
  rw [if_neg (by omega)]
  by_cases c8 : 8 ≤ chr (xIn c.r) 0 % 16
  ·rw [if_pos ⟨rfl, c8⟩]
   refine ⟨hi, fun _ => hx1, by show slen ⟨#[]⟩ + slen (xIn (xHead (xIn c.r))) ≤ B; omega, fun hh => ?_⟩
   have j := h.jl hh
   have jt := j.tx
   have ja := j.a1
   refine ⟨j.bad, ⟨fun hb => ?_, fun hb => ?_⟩, fun hb => ?_, j.bo, j.ch, by show txtL c.j.txt + slen (xIn (xHead (xIn c.r))) ≤ B; omega, j.tn, j.a0, by show (chkG c.j.chk).2.1 + slen (xIn (xHead (xIn c.r))) ≤ B; omega⟩
   ·have := (j.bg.1 hb).1; omega
   ·have h2 : chr (xIn c.r) 0 % 16 = 0 := hb.2
    omega
   ·have := (j.bg.1 hb).1; omega
  ·rw [if_neg (fun hh => c8 hh.2), if_neg (by omega)]
   by_cases c1 : c.st = 1
   ·have j := h.jl c1
    have jt := j.tx
    have ja := j.a1
    have ho3 : chr (xIn c.r) 0 % 16 = 0 ∨ chr (xIn c.r) 0 % 16 = 1 ∨ chr (xIn c.r) 0 % 16 = 2 := by
     have := may_op a3; omega
    rw [if_neg (by omega), if_pos rfl]
    by_cases cb : (beginF c.j (decide (128 ≤ chr (xIn c.r) 0)) (chr (xIn c.r) 0 % 16) (hLen (xIn c.r))).1 = 0
    ·rw [if_neg (by omega)]
     refine ⟨hi, fun hh => absurd hc hh, by show slen c.data + slen (xIn (xHead (xIn c.r))) ≤ B; omega, fun _ => ?_⟩
     rcases begin_ok cb with ⟨_, e2, e3⟩ | ⟨e1, e2, e3⟩
     ·dsimp only
      rw [e3]
      exact ⟨j.bad, ⟨fun _ => ⟨hx1, hc⟩, fun _ => rfl⟩, fun _ => by show hLen (xIn c.r) = hLen (xIn c.r) - 0; omega, fun _ => e2, j.ch, by show txtL c.j.txt + slen (xIn (xHead (xIn c.r))) ≤ B; omega, j.tn, j.a0, by show (chkG c.j.chk).2.1 + slen (xIn (xHead (xIn c.r))) ≤ B; omega⟩
     ·dsimp only
      rw [e3]
      exact ⟨j.bad, ⟨fun _ => ⟨hx1, hc⟩, fun _ => rfl⟩, fun _ => by show hLen (xIn c.r) = hLen (xIn c.r) - 0; omega, fun _ => e1, fun _ => rfl, by show txtL c.j.txt + slen (xIn (xHead (xIn c.r))) ≤ B; omega, j.tn, Int.le_refl _, by show (0 : Int) + slen (xIn (xHead (xIn c.r))) ≤ B; omega⟩
    ·rw [if_pos cb]
     exact ⟨hi, fun hh => absurd hc hh, by show slen c.data + slen (xIn (xHead (xIn c.r))) ≤ B; omega, fun hh => by cases hh⟩
   ·rw [if_pos c1]
    exact ⟨hi, fun hh => absurd hc hh, by show slen c.data + slen (xIn (xHead (xIn c.r))) ≤ B; omega, fun hh => absurd hh c1⟩
 ·rw [a3, a4]
  rw [a4] at hi
  unfold takeR takesF
  dsimp only
  rw [if_neg (by omega), if_neg (by omega)]
  have hx0 : xSt (xSet c.r 0 (xIn c.r) (xTold c.r)) = 0 := rfl
  by_cases hc : c.ctl = 0
  ·rw [if_neg (by omega)]
   by_cases c1 : c.st = 1
   ·have j := h.jl c1
    have hbg : c.j.begun = true := j.bg.2 ⟨a1, hc⟩
    rw [if_neg (by omega), if_neg (by omega), if_neg (by omega), if_pos rfl]
    by_cases ce : (endF c.j).2.2.2.1 = 0
    ·rw [if_neg (by omega)]
     rcases end_ok ce with ⟨e1, e2⟩ | ⟨e1, e2⟩
     ·rw [if_neg (by rw [e1]; simp)]
      refine ⟨hi, fun hh => absurd hc hh, hd, fun _ => ?_⟩
      dsimp only
      rw [e2]
      exact ⟨j.bad, ⟨fun hb => (by cases hb), fun hb => (by have := hb.1; rw [hx0] at this; cases this)⟩, fun hb => (by cases hb), fun hb => (by cases hb), j.ch, j.tx, j.tn, j.a0, j.a1⟩
     ·rw [if_pos e1]
      refine ⟨hi, fun hh => absurd hc hh, hd, fun _ => ?_⟩
      dsimp only
      rw [e2]
      exact ⟨j.bad, ⟨fun hb => (by cases hb), fun hb => (by have := hb.1; rw [hx0] at this; cases this)⟩, fun hb => (by cases hb), fun hb => (by cases hb), fun hb => absurd rfl hb, by show 0 + slen (xIn c.r) ≤ B; omega, fun b hb => (by cases hb), j.a0, j.a1⟩
    ·rw [if_pos ce]
     exact ⟨hi, fun hh => absurd hc hh, hd, fun hh => by cases hh⟩
   ·rw [if_pos c1]
    exact ⟨hi, fun hh => absurd hc hh, hd, fun hh => absurd hh c1⟩
  ·rw [if_pos hc, if_neg (by omega)]
   have key : ∀ s2 : Int, s2 = 3 ∨ s2 = c.st → CW B { c with st := s2, ctl := 0, r := xSet c.r 0 (xIn c.r) (xTold c.r) } := by
    intro s2 hs2
    refine ⟨hi, fun hh => absurd rfl hh, hd, fun hh => ?_⟩
    have hst : c.st = 1 := by
     have hh : s2 = 1 := hh
     omega
    have j := h.jl hst
    have hnb : ¬ c.j.begun = true := fun hb => hc (j.bg.1 hb).2
    exact ⟨j.bad, ⟨fun hb => absurd hb hnb, fun hb => (by have := hb.1; rw [show xSt (xSet c.r 0 (xIn c.r) (xTold c.r)) = 0 from rfl] at this; cases this)⟩, fun hb => absurd hb hnb, fun hb => absurd hb hnb, j.ch, j.tx, j.tn, j.a0, j.a1⟩
   by_cases c8 : c.ctl = 8
   ·rw [if_pos c8]
    split
    ·exact key 3 (.inl rfl)
    ·exact key 3 (.inl rfl)
   ·rw [if_neg c8]
    split
    ·exact key c.st (.inr rfl)
    ·exact key c.st (.inr rfl)
 ·have hp := piece_len c.r a3
  have hr := rest_len c.r a3
  rw [a5, a6]
  rw [a6] at hi
  unfold takeR takesF
  dsimp only
  rw [if_neg (by omega), if_neg (by omega)]
  have hx1 : xSt (xSet c.r (xSt c.r) (sub (xIn c.r) (nOf c.r) (slen (xIn c.r))) (xTold c.r + nOf c.r)) = 1 := a1
  by_cases hc : c.ctl = 0
  ·rw [if_neg (by omega)]
   by_cases c1 : c.st = 1
   ·have j := h.jl c1
    have jt := j.tx
    have ja := j.a1
    have ja0 := j.a0
    have hbg : c.j.begun = true := j.bg.2 ⟨a1, hc⟩
    have hlk := j.lk hbg
    rw [if_neg (by omega), if_neg (by omega), if_pos rfl]
    by_cases cp : (pieceF c.j (maskD (xKey c.r) (xTold c.r) (sub (xIn c.r) 0 (nOf c.r)))).1 = 0
    ·rw [if_neg (by omega)]
     obtain ⟨p0, p1⟩ := piece_ok cp
     rw [hp] at p0
     have hmax : xHl c.r ≤ 9223372036854775807 ∧ 0 ≤ xTold c.r := by
      rcases h.r.st with q | q | q
      ·omega
      ·omega
      ·exact ⟨q.2.2.2, q.2.1⟩
     have hw : IntKind.i64.wrap (c.j.lacks - (nOf c.r : Int)) = xHl c.r - (xTold c.r + nOf c.r) := by rw [wrap64_in (by omega) (by omega)]; omega
     refine ⟨hi, fun hh => absurd hc hh, by show slen c.data + slen (sub (xIn c.r) (nOf c.r) (slen (xIn c.r))) ≤ B; omega, fun _ => ?_⟩
     have hcl := catO_len c.j.txt (maskD (xKey c.r) (xTold c.r) (sub (xIn c.r) 0 (nOf c.r)))
     have hf := fed_at (chkG c.j.chk) (maskD (xKey c.r) (xTold c.r) (sub (xIn c.r) 0 (nOf c.r)))
     rw [hp] at hcl hf
     have tx2 : slen (catO c.j.txt (maskD (xKey c.r) (xTold c.r) (sub (xIn c.r) 0 (nOf c.r)))) + slen (sub (xIn c.r) (nOf c.r) (slen (xIn c.r))) ≤ B := by omega
     have tn2 : ∀ b, some (catO c.j.txt (maskD (xKey c.r) (xTold c.r) (sub (xIn c.r) 0 (nOf c.r)))) = some b → 0 < slen b := fun b hb => by cases hb; omega
     rcases p1 with p1 | p1
     ·dsimp only
      rw [p1, hp, hw]
      exact ⟨j.bad, ⟨fun _ => ⟨hx1, hc⟩, fun _ => hbg⟩, fun _ => rfl, fun _ => j.bo hbg, fun _ => rfl, tx2, tn2, by show 0 ≤ (fedC _ _).2.1; omega, by show (fedC _ _).2.1 + slen (sub (xIn c.r) (nOf c.r) (slen (xIn c.r))) ≤ B; omega⟩
     ·dsimp only
      rw [p1, hp, hw]
      exact ⟨j.bad, ⟨fun _ => ⟨hx1, hc⟩, fun _ => hbg⟩, fun _ => rfl, fun _ => j.bo hbg, j.ch, tx2, tn2, ja0, by show (chkG c.j.chk).2.1 + slen (sub (xIn c.r) (nOf c.r) (slen (xIn c.r))) ≤ B; omega⟩
    ·rw [if_pos cp]
     exact ⟨hi, fun hh => absurd hc hh, by show slen c.data + slen (sub (xIn c.r) (nOf c.r) (slen (xIn c.r))) ≤ B; omega, fun hh => by cases hh⟩
   ·rw [if_pos c1]
    exact ⟨hi, fun hh => absurd hc hh, by show slen c.data + slen (sub (xIn c.r) (nOf c.r) (slen (xIn c.r))) ≤ B; omega, fun hh => absurd hh c1⟩
  ·rw [if_pos hc, if_pos rfl]
   refine ⟨hi, fun _ => hx1, by show slen (cat c.data _) + slen (sub (xIn c.r) (nOf c.r) (slen (xIn c.r))) ≤ B; rw [slen_cat]; omega, fun hh => ?_⟩
   have j := h.jl hh
   have jt := j.tx
   have ja := j.a1
   have hnb : ¬ c.j.begun = true := fun hb => hc (j.bg.1 hb).2
   exact ⟨j.bad, ⟨fun hb => absurd hb hnb, fun hb => absurd hb.2 hc⟩, fun hb => absurd hb hnb, fun hb => absurd hb hnb, j.ch, by show txtL c.j.txt + slen (sub (xIn c.r) (nOf c.r) (slen (xIn c.r))) ≤ B; omega, j.tn, j.a0, by show (chkG c.j.chk).2.1 + slen (sub (xIn c.r) (nOf c.r) (slen (xIn c.r))) ≤ B; omega⟩
end Go.Proofs.Ytfpnjpbdaniomaa

/-
  A connection: Next as a contract.
-/
set_option linter.unusedVariables false
set_option linter.unusedSimpArgs false
open Go Go.Am
namespace Go.Proofs.Ytfpnjpbdaniomaa

noncomputable def evV : Option EvT → Value
 | none => .tuple #[.agg #[.int .i64 0, .int .i64 0, .int .i64 0, .string ⟨#[]⟩], .bool false]
 | some e => .tuple #[.agg #[.int .i64 e.1, .int .i64 e.2.1, .int .i64 e.2.2.1, .string e.2.2.2], .bool true]
noncomputable def hC (c : CS) : Heap := [some (.cells [.pointer (some ⟨1, 0, none⟩), .pointer (some ⟨2, 0, none⟩), .int .i64 c.st, .int .i64 c.ctl, .string c.data] 71 none), some (.obj (encR c.r)), some (.obj (enc c.j))]
theorem rnxE_enc (x : RX) : rnxE (encR x) = evR (stepT true x) := rnxE_eq _
theorem rnx_ok {x : RX} (h : Inv x) : rnx_pre (encR x) := ⟨rfl, h⟩
theorem jbgV_enc (s : JS) (l : Bool) (o n : Int) : jbgV (enc s) l o n = (beginF s l o n).1 := by unfold jbgV; rw [dec_enc]
theorem jbgJ_enc (s : JS) (l : Bool) (o n : Int) : jbgJ (enc s) l o n = enc (beginF s l o n).2 := by unfold jbgJ; rw [dec_enc]
theorem jpcV_enc (s : JS) (t : ByteArray) : jpcV (enc s) t = (pieceF s t).1 := by unfold jpcV; rw [dec_enc]
theorem jpcJ_enc (s : JS) (t : ByteArray) : jpcJ (enc s) t = enc (pieceF s t).2 := by unfold jpcJ; rw [dec_enc]
theorem jenE_enc (s : JS) : jenE (enc s) = ((endF s).1, (endF s).2.1, (endF s).2.2.1, (endF s).2.2.2.1) := by rw [jenE_eq, dec_enc]
theorem jenJ_enc (s : JS) : jenJ (enc s) = enc (endF s).2.2.2.2 := by unfold jenJ; rw [dec_enc]
theorem ne_t {a b : Int} (h : ¬ a = b) : (a != b) = true := by simpa using h
theorem ne_f {a b : Int} (h : a = b) : (a != b) = false := by simp [h]
theorem eq_t {a b : Int} (h : a = b) : (a == b) = true := by simp [h]
theorem eq_f {a b : Int} (h : ¬ a = b) : (a == b) = false := by simpa using h

section
variable {st ct : Int} {da : ByteArray} {R J : Heap} {B : Nat} (hB1 : B ≤ 1000000)
noncomputable def nH (st ct : Int) (da : ByteArray) (R J : Heap) (c : CS) : Cfg := cnext_h1 st ct da R J c.ctl c.data (encR c.r) (enc c.j)
include hB1
theorem nx_none {c : CS} (h : CW B c) (hst : c.st = st) (hs : ¬ c.st = 3) (ho : rOk (stepT true c.r) = false) : AEnds E 21 3 (nH st ct da R J c) (evV none) (hC c) := by
 have _ := hB1
 obtain ⟨e1, e2⟩ := stepT_no ho
 have w := cnext_w1_0 st ct da R J c.ctl c.data (encR c.r) (enc c.j) _ ((rnxE_enc c.r).trans e1) rfl (rnx_ok h.r) (ne_t (by rw [← hst]; exact hs))
 have hr : rnxR (encR c.r) = encR c.r := by
  show encR (rx (stepT true c.r)) = _
  rw [e2]
 rw [hr] at w
 unfold hC
 rw [hst]
 exact w
theorem nx_some0 {c : CS} (h : CW B c) (hst : c.st = st) (hs : ¬ c.st = 3) (ho : rOk (stepT true c.r) = true) (hcase : (xSt c.r = 0 ∧ evR (stepT true c.r) = (4, 0, false, 0, ⟨#[]⟩, true) ∧ rx (stepT true c.r) = xSet c.r 2 ⟨#[]⟩ (xTold c.r))) :
  match takeR c (evR (stepT true c.r)) (rx (stepT true c.r)) with
  | (some e, c') => AEnds E 21 3 (nH st ct da R J c) (evV (some e)) (hC c')
  | (none, c') => c'.st = st ∧ Gets E 3 (nH st ct da R J c) (nH st ct da R J c') := by
 have hB := h.le
 have hd := h.dat
 have hi := rnx_ok h.r
 have s3 : (st != 3) = true := ne_t (by rw [← hst]; exact hs)
 have hR : rnxR (encR c.r) = encR (rx (stepT true c.r)) := rfl
 have hcd : creadc_pre c.data := by unfold creadc_pre; omega
 obtain ⟨a1, a2, a3⟩ := hcase
 have w := cnext_w1_1 st ct da R J c.ctl c.data (encR c.r) (enc c.j) _ ((rnxE_enc c.r).trans a2) rfl rfl hi s3
 rw [a2]
 unfold takeR takesF
 simp only [if_true]
 exact w
theorem nx_some1 {c : CS} (h : CW B c) (hst : c.st = st) (hs : ¬ c.st = 3) (ho : rOk (stepT true c.r) = true) (hcase : (xSt c.r = 0 ∧ hOk (xIn c.r) = true ∧ mayS true (xIn c.r) = true ∧ evR (stepT true c.r) = (1, chr (xIn c.r) 0 % 16, decide (128 ≤ chr (xIn c.r) 0), hLen (xIn c.r), ⟨#[]⟩, true) ∧ rx (stepT true c.r) = xHead (xIn c.r))) :
  match takeR c (evR (stepT true c.r)) (rx (stepT true c.r)) with
  | (some e, c') => AEnds E 21 3 (nH st ct da R J c) (evV (some e)) (hC c')
  | (none, c') => c'.st = st ∧ Gets E 3 (nH st ct da R J c) (nH st ct da R J c') := by
 have hB := h.le
 have hd := h.dat
 have hi := rnx_ok h.r
 have s3 : (st != 3) = true := ne_t (by rw [← hst]; exact hs)
 have hR : rnxR (encR c.r) = encR (rx (stepT true c.r)) := rfl
 have hcd : creadc_pre c.data := by unfold creadc_pre; omega
 obtain ⟨a1, a2, a3, a4, a5⟩ := hcase
 have hc : c.ctl = 0 := Classical.byContradiction fun hc => by have := h.ctl hc; omega
 have er := (rnxE_enc c.r).trans a4
 rw [a4]
 unfold takeR takesF
 dsimp only
 rw [if_neg (by omega)]
 by_cases c8 : 8 ≤ chr (xIn c.r) 0 % 16
 ·rw [if_pos ⟨rfl, c8⟩]
  exact ⟨hst, cnext_w1_2 st ct da R J c.ctl c.data (encR c.r) (enc c.j) _ er (decide_eq_true c8) rfl rfl rfl hi s3⟩
 ·have f8 : decide (8 ≤ chr (xIn c.r) 0 % 16) = false := decide_eq_false c8
  rw [if_neg (fun hh => c8 hh.2), if_neg (by omega)]
  by_cases c1 : c.st = 1
  ·have s1 : (st != 1) = false := ne_f (by rw [← hst]; exact c1)
   have j := h.jl c1
   have ho3 : chr (xIn c.r) 0 % 16 = 0 ∨ chr (xIn c.r) 0 % 16 = 1 ∨ chr (xIn c.r) 0 % 16 = 2 := by
    have := may_op a3; omega
   have hnb : c.j.begun = false := by
    cases hb : c.j.begun with
    | false => rfl
    | true => have := (j.bg.1 hb).1; omega
   have hp : jbg_pre (enc c.j) (decide (128 ≤ chr (xIn c.r) 0)) (chr (xIn c.r) 0 % 16) (hLen (xIn c.r)) := ⟨JI_enc _, by rw [dec_enc]; exact j.bad, by rw [dec_enc]; exact hnb, ho3⟩
   have ev := jbgV_enc c.j (decide (128 ≤ chr (xIn c.r) 0)) (chr (xIn c.r) 0 % 16) (hLen (xIn c.r))
   have ej := jbgJ_enc c.j (decide (128 ≤ chr (xIn c.r) 0)) (chr (xIn c.r) 0 % 16) (hLen (xIn c.r))
   rw [if_neg (by omega), if_pos rfl]
   by_cases cb : (beginF c.j (decide (128 ≤ chr (xIn c.r) 0)) (chr (xIn c.r) 0 % 16) (hLen (xIn c.r))).1 = 0
   ·rw [if_neg (by omega)]
    have w := cnext_w1_11 st ct da R J c.ctl c.data (encR c.r) (enc c.j) _ er (by dsimp only; rw [ev]; exact ne_f cb) hp rfl s1 (ne_f hc) f8 rfl rfl hi s3
    dsimp only at w
    rw [ej] at w
    exact ⟨hst, w⟩
   ·rw [if_pos cb]
    have w := cnext_w1_10 st ct da R J c.ctl c.data (encR c.r) (enc c.j) _ er (by dsimp only; rw [ev]; exact ne_t cb) hp rfl s1 (ne_f hc) f8 rfl rfl hi s3
    dsimp only at w
    rw [ej, ev] at w
    exact w
  ·have s1 : (st != 1) = true := ne_t (by rw [← hst]; exact c1)
   rw [if_pos c1]
   exact ⟨hst, cnext_w1_9 st ct da R J c.ctl c.data (encR c.r) (enc c.j) _ er s1 (ne_f hc) f8 rfl rfl rfl hi s3⟩
theorem nx_some2 {c : CS} (h : CW B c) (hst : c.st = st) (hs : ¬ c.st = 3) (ho : rOk (stepT true c.r) = true) (hcase : (xSt c.r = 1 ∧ xHl c.r = xTold c.r ∧ evR (stepT true c.r) = (3, 0, false, 0, ⟨#[]⟩, true) ∧ rx (stepT true c.r) = xSet c.r 0 (xIn c.r) (xTold c.r))) :
  match takeR c (evR (stepT true c.r)) (rx (stepT true c.r)) with
  | (some e, c') => AEnds E 21 3 (nH st ct da R J c) (evV (some e)) (hC c')
  | (none, c') => c'.st = st ∧ Gets E 3 (nH st ct da R J c) (nH st ct da R J c') := by
 have hB := h.le
 have hd := h.dat
 have hi := rnx_ok h.r
 have s3 : (st != 3) = true := ne_t (by rw [← hst]; exact hs)
 have hR : rnxR (encR c.r) = encR (rx (stepT true c.r)) := rfl
 have hcd : creadc_pre c.data := by unfold creadc_pre; omega
 obtain ⟨a1, a2, a3, a4⟩ := hcase
 have er := (rnxE_enc c.r).trans a3
 rw [a3]
 unfold takeR takesF
 dsimp only
 rw [if_neg (by omega), if_neg (by omega)]
 by_cases hc : c.ctl = 0
 ·rw [if_neg (by omega)]
  by_cases c1 : c.st = 1
  ·have s1 : (st != 1) = false := ne_f (by rw [← hst]; exact c1)
   have j := h.jl c1
   have jt := j.tx
   have hbg : c.j.begun = true := j.bg.2 ⟨a1, hc⟩
   have hlk := j.lk hbg
   have hp : jen_pre (enc c.j) := by
    unfold jen_pre
    rw [dec_enc]
    exact ⟨JI_enc _, fun _ => j.ch (j.bo hbg), j.bad, hbg, by omega, by omega, j.tn⟩
   have ej := jenJ_enc c.j
   have ee := jenE_enc c.j
   rw [if_neg (by omega), if_neg (by omega), if_neg (by omega), if_pos rfl]
   by_cases ce : (endF c.j).2.2.2.1 = 0
   ·rw [if_neg (by omega)]
    cases cw : (endF c.j).2.2.1 with
    | true =>
     rw [if_pos rfl]
     have w := cnext_w1_22 st ct da R J c.ctl c.data (encR c.r) (enc c.j) _ ee _ er cw (ne_f ce) hp rfl rfl rfl s1 (ne_f hc) rfl rfl hi s3
     dsimp only at w
     rw [ej, ← hst] at w
     rw [← hst]
     exact w
    | false =>
     rw [if_neg (by simp)]
     have w := cnext_w1_23 st ct da R J c.ctl c.data (encR c.r) (enc c.j) _ ee _ er cw (ne_f ce) hp rfl rfl rfl s1 (ne_f hc) rfl rfl hi s3
     rw [ej] at w
     exact ⟨hst, w⟩
   ·rw [if_pos ce]
    have w := cnext_w1_21 st ct da R J c.ctl c.data (encR c.r) (enc c.j) _ ee _ er (ne_t ce) hp rfl rfl rfl s1 (ne_f hc) rfl rfl hi s3
    rw [ej] at w
    exact w
  ·have s1 : (st != 1) = true := ne_t (by rw [← hst]; exact c1)
   rw [if_pos c1]
   exact ⟨hst, cnext_w1_18 st ct da R J c.ctl c.data (encR c.r) (enc c.j) _ er s1 (ne_f hc) rfl rfl rfl hi s3⟩
 ·rw [if_pos hc, if_neg (by omega)]
  by_cases c8 : c.ctl = 8
  ·rw [if_pos c8]
   by_cases cd : (cdT c.data).2.2 = 0
   ·rw [if_neg (by omega)]
    exact cnext_w1_14 st ct da R J c.ctl c.data (encR c.r) (enc c.j) _ rfl _ er (ne_f cd) hcd (eq_t c8) rfl (ne_t hc) rfl rfl rfl hi s3
   ·rw [if_pos cd]
    exact cnext_w1_13 st ct da R J c.ctl c.data (encR c.r) (enc c.j) _ rfl _ er (ne_t cd) hcd (eq_t c8) rfl (ne_t hc) rfl rfl rfl hi s3
  ·rw [if_neg c8]
   by_cases c9 : c.ctl = 9
   ·by_cases c1 : c.st = 1
    ·rw [if_pos ⟨c9, c1⟩]
     have w := cnext_w1_15 st ct da R J c.ctl c.data (encR c.r) (enc c.j) _ er (eq_t (by rw [← hst]; exact c1)) (eq_t c9) (eq_f c8) rfl (ne_t hc) rfl rfl rfl hi s3
     rw [← hst] at w
     rw [← hst]
     exact w
    ·rw [if_neg (fun hh => c1 hh.2)]
     exact ⟨hst, cnext_w1_16 st ct da R J c.ctl c.data (encR c.r) (enc c.j) _ er (eq_f (by rw [← hst]; exact c1)) (eq_t c9) (eq_f c8) rfl (ne_t hc) rfl rfl rfl hi s3⟩
   ·rw [if_neg (fun hh => c9 hh.1)]
    exact ⟨hst, cnext_w1_17 st ct da R J c.ctl c.data (encR c.r) (enc c.j) _ er (eq_f c9) (eq_f c8) rfl (ne_t hc) rfl rfl rfl hi s3⟩
theorem nx_some3 {c : CS} (h : CW B c) (hst : c.st = st) (hs : ¬ c.st = 3) (ho : rOk (stepT true c.r) = true) (hcase : (xSt c.r = 1 ∧ 0 < nOf c.r ∧ nOf c.r ≤ slen (xIn c.r) ∧ (nOf c.r : Int) ≤ xHl c.r - xTold c.r ∧ evR (stepT true c.r) = (2, 0, false, 0, maskD (xKey c.r) (xTold c.r) (sub (xIn c.r) 0 (nOf c.r)), true) ∧ rx (stepT true c.r) = xSet c.r (xSt c.r) (sub (xIn c.r) (nOf c.r) (slen (xIn c.r))) (xTold c.r + nOf c.r))) :
  match takeR c (evR (stepT true c.r)) (rx (stepT true c.r)) with
  | (some e, c') => AEnds E 21 3 (nH st ct da R J c) (evV (some e)) (hC c')
  | (none, c') => c'.st = st ∧ Gets E 3 (nH st ct da R J c) (nH st ct da R J c') := by
 have hB := h.le
 have hd := h.dat
 have hi := rnx_ok h.r
 have s3 : (st != 3) = true := ne_t (by rw [← hst]; exact hs)
 have hR : rnxR (encR c.r) = encR (rx (stepT true c.r)) := rfl
 have hcd : creadc_pre c.data := by unfold creadc_pre; omega
 obtain ⟨a1, a2, a3, a4, a5, a6⟩ := hcase
 have hp := piece_len c.r a3
 have er := (rnxE_enc c.r).trans a5
 rw [a5]
 unfold takeR takesF
 dsimp only
 rw [if_neg (by omega), if_neg (by omega)]
 by_cases hc : c.ctl = 0
 ·rw [if_neg (by omega)]
  by_cases c1 : c.st = 1
  ·have s1 : (st != 1) = false := ne_f (by rw [← hst]; exact c1)
   have j := h.jl c1
   have jt := j.tx
   have ja := j.a1
   have hbg : c.j.begun = true := j.bg.2 ⟨a1, hc⟩
   have hpp : jpc_pre (enc c.j) (maskD (xKey c.r) (xTold c.r) (sub (xIn c.r) 0 (nOf c.r))) := by
    unfold jpc_pre
    rw [dec_enc, hp]
    exact ⟨JI_enc _, j.ch (j.bo hbg), j.bad, hbg, a2, by omega, j.a0, by omega⟩
   have ev := jpcV_enc c.j (maskD (xKey c.r) (xTold c.r) (sub (xIn c.r) 0 (nOf c.r)))
   have ej := jpcJ_enc c.j (maskD (xKey c.r) (xTold c.r) (sub (xIn c.r) 0 (nOf c.r)))
   rw [if_neg (by omega), if_neg (by omega), if_pos rfl]
   by_cases cp : (pieceF c.j (maskD (xKey c.r) (xTold c.r) (sub (xIn c.r) 0 (nOf c.r)))).1 = 0
   ·rw [if_neg (by omega)]
    have w := cnext_w1_20 st ct da R J c.ctl c.data (encR c.r) (enc c.j) _ er (by dsimp only; rw [ev]; exact ne_f cp) hpp rfl rfl s1 (ne_f hc) rfl rfl hi s3
    dsimp only at w
    rw [ej] at w
    exact ⟨hst, w⟩
   ·rw [if_pos cp]
    have w := cnext_w1_19 st ct da R J c.ctl c.data (encR c.r) (enc c.j) _ er (by dsimp only; rw [ev]; exact ne_t cp) hpp rfl rfl s1 (ne_f hc) rfl rfl hi s3
    dsimp only at w
    rw [ej, ev] at w
    exact w
  ·have s1 : (st != 1) = true := ne_t (by rw [← hst]; exact c1)
   rw [if_pos c1]
   exact ⟨hst, cnext_w1_18 st ct da R J c.ctl c.data (encR c.r) (enc c.j) _ er s1 (ne_f hc) rfl rfl rfl hi s3⟩
 ·rw [if_pos hc, if_pos rfl]
  have h12 : slen c.data + slen (maskD (xKey c.r) (xTold c.r) (sub (xIn c.r) 0 (nOf c.r))) ≤ 9223372036854775807 := by rw [hp]; omega
  have w := cnext_w1_12 st ct da R J c.ctl c.data (encR c.r) (enc c.j) _ er h12 rfl (ne_t hc) rfl rfl rfl hi s3
  dsimp only at w
  exact ⟨hst, w⟩
theorem nx_some {c : CS} (h : CW B c) (hst : c.st = st) (hs : ¬ c.st = 3) (ho : rOk (stepT true c.r) = true) :
  match takeR c (evR (stepT true c.r)) (rx (stepT true c.r)) with
  | (some e, c') => AEnds E 21 3 (nH st ct da R J c) (evV (some e)) (hC c')
  | (none, c') => c'.st = st ∧ Gets E 3 (nH st ct da R J c) (nH st ct da R J c') := by
 rcases step_cases h.r ho with q | q | q | q
 ·exact nx_some0 hB1 h hst hs ho q
 ·exact nx_some1 hB1 h hst hs ho q
 ·exact nx_some2 hB1 h hst hs ho q
 ·exact nx_some3 hB1 h hst hs ho q
theorem nx_run : ∀ (n : Nat) (c : CS), mu c.r < n → CW B c → c.st = st → AEnds E 21 3 (nH st ct da R J c) (evV (nextF n c).1) (hC (nextF n c).2)
 | 0, c, hm, _, _ => by omega
 | n + 1, c, hm, h, hst => by
  unfold nextF
  by_cases hs : c.st = 3
  ·rw [if_pos hs]
   have w := cnext_w1_25 st ct da R J c.ctl c.data (encR c.r) (enc c.j) (ne_f (by rw [← hst]; exact hs))
   rw [← hst] at w
   rw [← hst]
   exact w
  ·rw [if_neg hs]
   cases ho : rOk (stepT true c.r) with
   | false =>
    rw [if_pos rfl]
    exact nx_none hB1 h hst hs ho
   | true =>
    rw [if_neg (by simp)]
    have hi := takeR_inv h hs ho
    have w := nx_some (ct := ct) (da := da) (R := R) (J := J) hB1 h hst hs ho
    have hmu := (step_inv h.r ho).2
    have hrr : (takeR c (evR (stepT true c.r)) (rx (stepT true c.r))).2.r = rx (stepT true c.r) := takeR_r _ _ _
    generalize takeR c (evR (stepT true c.r)) (rx (stepT true c.r)) = q at w hi hrr
    obtain ⟨e, c'⟩ := q
    cases e with
    | some e => exact w
    | none =>
     refine w.2.ends (nx_run n c' ?_ hi w.1)
     have hrr : c'.r = rx (stepT true c.r) := hrr
     rw [hrr]; omega
end
end Go.Proofs.Ytfpnjpbdaniomaa

/-
  The first examples: a closed run.
-/
set_option linter.unusedVariables false
open Go Go.Am
namespace Go.Proofs.Ytfpnjpbdaniomaa

noncomputable def EP : Env := { E with pureF := fun f => Nat.beq f 13 }
noncomputable def goodWakes : Bool :=
 match callRun EP (xrun EP noK 100000) none 9 [] [] with
 | some (ok, _, .bool b, _) => ok.all id && b
 | _ => false
theorem wakes_good : goodWakes = true := by kernel_rfl
theorem wakes_call (H : Heap) : CallOk EP 9 [] H (.bool true) H := by
 have h := wakes_good
 unfold goodWakes at h
 split at h
 ·rename_i ok orc b H' hr
  simp only [Bool.and_eq_true] at h
  obtain ⟨h1, rfl⟩ := h
  exact callOk_pure (callRun_sound (xrun_sound noK_ok _) _ _ _ _ _ _ _ _ hr (AllT.of_all h1)) rfl rfl H
 ·cases h
noncomputable def wakes_k : Ct := fun args H =>
 match args with
 | [] => some ([], .bool true, H)
 | _ => none
theorem wakes_k_ok : KFor E 9 wakes_k := by
 intro args H ok v H' h hok
 unfold wakes_k at h
 split at h
 ·cases h; exact wakes_call H
 ·cases h

end Go.Proofs.Ytfpnjpbdaniomaa

/-
  A connection: Next as a contract.
-/
set_option linter.unusedVariables false
set_option linter.unusedSimpArgs false
open Go Go.Am
namespace Go.Proofs.Ytfpnjpbdaniomaa

noncomputable def evT (o : Option EvT) : EvT := o.getD (0, 0, 0, ⟨#[]⟩)
theorem evV_eq (o : Option EvT) : evV o = .tuple #[.agg #[.int .i64 (evT o).1, .int .i64 (evT o).2.1, .int .i64 (evT o).2.2.1, .string (evT o).2.2.2], .bool o.isSome] := by cases o <;> rfl
noncomputable def mkC (st ct : Int) (da : ByteArray) (R J : Heap) : CS := ⟨st, ct, da, decR R, dec J⟩
noncomputable def nextC (c : CS) : Option EvT × CS := nextF (mu c.r + 1) c
noncomputable def nxT (st ct : Int) (da : ByteArray) (R J : Heap) : Int × Int × Int × ByteArray × Bool × Int × Int × ByteArray × Heap × Heap :=
 seal1 ((evT (nextC (mkC st ct da R J)).1).1, (evT (nextC (mkC st ct da R J)).1).2.1, (evT (nextC (mkC st ct da R J)).1).2.2.1, (evT (nextC (mkC st ct da R J)).1).2.2.2, (nextC (mkC st ct da R J)).1.isSome, (nextC (mkC st ct da R J)).2.st, (nextC (mkC st ct da R J)).2.ctl, (nextC (mkC st ct da R J)).2.data, encR (nextC (mkC st ct da R J)).2.r, enc (nextC (mkC st ct da R J)).2.j)
theorem nxT_eq (c : CS) : nxT c.st c.ctl c.data (encR c.r) (enc c.j) = ((evT (nextC c).1).1, (evT (nextC c).1).2.1, (evT (nextC c).1).2.2.1, (evT (nextC c).1).2.2.2, (nextC c).1.isSome, (nextC c).2.st, (nextC c).2.ctl, (nextC c).2.data, encR (nextC c).2.r, enc (nextC c).2.j) := by
 unfold nxT
 rw [seal1_eq]
 have e : mkC c.st c.ctl c.data (encR c.r) (enc c.j) = c := by
  unfold mkC
  rw [dec_enc, decR_enc]
 rw [e]
def nxc_pre (st ct : Int) (da : ByteArray) (R J : Heap) : Prop := ∃ c : CS, CW 1000000 c ∧ st = c.st ∧ ct = c.ctl ∧ da = c.data ∧ R = encR c.r ∧ J = enc c.j
noncomputable def nxc_v (st ct : Int) (da : ByteArray) (R J : Heap) : Value := .tuple #[.agg #[.int .i64 (nxT st ct da R J).1, .int .i64 (nxT st ct da R J).2.1, .int .i64 (nxT st ct da R J).2.2.1, .string (nxT st ct da R J).2.2.2.1], .bool (nxT st ct da R J).2.2.2.2.1]
noncomputable def nxc_h (st ct : Int) (da : ByteArray) (R J : Heap) : Heap := [some (.cells [.pointer (some ⟨1, 0, none⟩), .pointer (some ⟨2, 0, none⟩), .int .i64 (nxT st ct da R J).2.2.2.2.2.1, .int .i64 (nxT st ct da R J).2.2.2.2.2.2.1, .string (nxT st ct da R J).2.2.2.2.2.2.2.1] 71 none), some (.obj (nxT st ct da R J).2.2.2.2.2.2.2.2.1), some (.obj (nxT st ct da R J).2.2.2.2.2.2.2.2.2)]
theorem nxc_call (st ct : Int) (da : ByteArray) (R J : Heap) (h : nxc_pre st ct da R J) : CallOk E 21 [.pointer (some ⟨0, 0, none⟩)] [some (.cells [.pointer (some ⟨1, 0, none⟩), .pointer (some ⟨2, 0, none⟩), .int .i64 st, .int .i64 ct, .string da] 71 none), some (.obj R), some (.obj J)] (nxc_v st ct da R J) (nxc_h st ct da R J) := by
 obtain ⟨c, hc, rfl, rfl, rfl, rfl, rfl⟩ := h
 have w := nx_run (st := c.st) (ct := c.ctl) (da := c.data) (R := encR c.r) (J := enc c.j) (Nat.le_refl _) (mu c.r + 1) c (by omega) hc rfl
 have w := (cnext_w0_0 c.st c.ctl c.data (encR c.r) (enc c.j)).ends w
 unfold nxc_v nxc_h
 rw [nxT_eq]
 rw [evV_eq] at w
 exact callOk_of_ends w (by kernel_rfl) (by show 3 ≤ 3; omega)

def nxc_ex (a : List Value) (h : Heap) : Int × Int × ByteArray × Heap × Heap := ((toInt ((cellsOf h 0).getD 2 undef)), (toInt ((cellsOf h 0).getD 3 undef)), (toStr ((cellsOf h 0).getD 4 undef)), (objOf h 1), (objOf h 2))
noncomputable def nxc_k : Ct := kS nxc_ex [.ptr 0 0] [.cells [.ptr 1 0, .ptr 2 0, .int .i64, .int .i64, .str] 71 none, .obj, .obj] (fun (a0, a1, a2, a3, a4) => nxc_pre a0 a1 a2 a3 a4) (fun (a0, a1, a2, a3, a4) => nxc_v a0 a1 a2 a3 a4) (fun (a0, a1, a2, a3, a4) => nxc_h a0 a1 a2 a3 a4)
theorem nxc_k_ok : KFor E 21 nxc_k := kS_ok (fun x hx => nxc_call (x.1) (x.2.1) (x.2.2.1) (x.2.2.2.1) (x.2.2.2.2) hx) (fun _ _ => rfl) (fun _ _ => rfl)


end Go.Proofs.Ytfpnjpbdaniomaa

/-
  A connection, plain: what Next does to how it stands.
-/
set_option linter.unusedVariables false
set_option linter.unusedSimpArgs false
open Go Go.Am
namespace Go.Proofs.Ytfpnjpbdaniomaa

noncomputable def nxU (q : Option EvT × CS) : Int × Int × Int × ByteArray × Bool × Int × Int × ByteArray × Heap × Heap := ((evT q.1).1, (evT q.1).2.1, (evT q.1).2.2.1, (evT q.1).2.2.2, q.1.isSome, q.2.st, q.2.ctl, q.2.data, encR q.2.r, enc q.2.j)
theorem nxT_U (c : CS) : nxT c.st c.ctl c.data (encR c.r) (enc c.j) = nxU (nextC c) := nxT_eq c
theorem nxc_ok {B : Nat} (hB : B ≤ 1000000) {c : CS} (h : CW B c) : nxc_pre c.st c.ctl c.data (encR c.r) (enc c.j) := by
 refine ⟨c, ⟨h.r, h.ctl, Nat.le_trans h.dat hB, fun hs => ?_⟩, rfl, rfl, rfl, rfl, rfl⟩
 have j := h.jl hs
 have := j.tx
 have := j.a1
 exact ⟨j.bad, j.bg, j.lk, j.bo, j.ch, by omega, j.tn, j.a0, by omega⟩
theorem takesF_st (c : CS) (k o : Int) (f : Bool) (l : Int) (t : ByteArray) : (takesF c k o f l t).2.st = c.st ∨ (takesF c k o f l t).2.st = 3 := by
 unfold takesF
 repeat' split
 all_goals first | exact .inl rfl | exact .inr rfl
theorem nextF_inv {B : Nat} : ∀ (n : Nat) (c : CS), CW B c → CW B (nextF n c).2 ∧ ((nextF n c).2.st = c.st ∨ (nextF n c).2.st = 3)
 | 0, c, h => ⟨h, .inl rfl⟩
 | n + 1, c, h => by
  unfold nextF
  by_cases hs : c.st = 3
  ·rw [if_pos hs]; exact ⟨h, .inl rfl⟩
  rw [if_neg hs]
  cases ho : rOk (stepT true c.r) with
  | false => rw [if_pos rfl]; exact ⟨h, .inl rfl⟩
  | true =>
   rw [if_neg (by simp)]
   have hi := takeR_inv h hs ho
   have hst : (takeR c (evR (stepT true c.r)) (rx (stepT true c.r))).2.st = c.st ∨ (takeR c (evR (stepT true c.r)) (rx (stepT true c.r))).2.st = 3 := takesF_st _ _ _ _ _ _
   generalize takeR c (evR (stepT true c.r)) (rx (stepT true c.r)) = q at hi hst
   obtain ⟨e, c'⟩ := q
   cases e with
   | some e => exact ⟨hi, hst⟩
   | none =>
    obtain ⟨w1, w2⟩ := nextF_inv n c' hi
    refine ⟨w1, ?_⟩
    have hst : c'.st = c.st ∨ c'.st = 3 := hst
    show (nextF n c').2.st = c.st ∨ (nextF n c').2.st = 3
    rcases w2 with w2 | w2
    ·rw [w2]; exact hst
    ·exact .inr w2
def Dry (c : CS) : Prop := c.st = 3 ∨ rOk (stepT true c.r) = false
theorem dry_next {c : CS} (h : Dry c) : nextC c = (none, c) := by
 unfold nextC nextF
 rcases h with h | h
 ·rw [if_pos h]
 ·by_cases hs : c.st = 3
  ·rw [if_pos hs]
  ·rw [if_neg hs, if_pos h]
theorem feed_inv {x : RX} {s : ByteArray} (h : Inv x) (hl : slen (xIn x) + slen s ≤ 1000000) : Inv (feedX x s) ∧ xSt (feedX x s) = xSt x ∧ slen (xIn (feedX x s)) ≤ slen (xIn x) + slen s ∧ xHl (feedX x s) = xHl x ∧ xTold (feedX x s) = xTold x := by
 unfold feedX
 cases hc : x.1 != 2 with
 | false => rw [cond_false]; exact ⟨h, rfl, by omega, rfl, rfl⟩
 | true =>
  rw [cond_true]
  have hs : slen (xIn (xSet x x.1 (cat x.2.1 s) (xTold x))) = slen (xIn x) + slen s := slen_cat _ _
  exact ⟨⟨h.st, by rw [hs]; omega⟩, rfl, by omega, rfl, rfl⟩
theorem feedC_inv {B k : Nat} {c : CS} {s : ByteArray} (h : CW B c) (hs : slen s ≤ k) (hB : B + k ≤ 1000000) : CW (B + k) { c with r := feedX c.r s } := by
 have hd := h.dat
 have hl := h.le
 obtain ⟨f1, f2, f3, f4, f5⟩ := feed_inv (s := s) h.r (by omega)
 refine ⟨f1, fun hc => by rw [f2]; exact h.ctl hc, by show slen c.data + slen (xIn (feedX c.r s)) ≤ _; omega, fun hst => ?_⟩
 have j := h.jl hst
 have := j.tx
 have := j.a1
 refine ⟨j.bad, ?_, ?_, j.bo, j.ch, by show txtL c.j.txt + slen (xIn (feedX c.r s)) ≤ _; omega, j.tn, j.a0, by show (chkG c.j.chk).2.1 + slen (xIn (feedX c.r s)) ≤ _; omega⟩
 ·show c.j.begun = true ↔ (xSt (feedX c.r s) = 1 ∧ c.ctl = 0)
  rw [f2]; exact j.bg
 ·intro hb
  show c.j.lacks = xHl (feedX c.r s) - xTold (feedX c.r s)
  rw [f4, f5]; exact j.lk hb
theorem CW.shut {B : Nat} {c : CS} (h : CW B c) {s : Int} (hs : ¬ s = 1) : CW B { c with st := s } := ⟨h.r, h.ctl, h.dat, fun hh => absurd hh hs⟩
noncomputable def c0 (lim : Int) : CS := ⟨1, 0, ⟨#[]⟩, rx0, js0 lim⟩
theorem c0_inv (lim : Int) : CW 0 (c0 lim) := by
 refine ⟨⟨.inr (.inl rfl), by show slen ⟨#[]⟩ ≤ 1000000; decide⟩, fun h => absurd rfl h, Nat.le_refl _, fun _ => ?_⟩
 exact ⟨rfl, ⟨fun h => (by cases h), fun h => (by have h1 : (0 : Int) = 1 := h.1; cases h1)⟩, fun h => (by cases h), fun h => (by cases h), fun h => absurd rfl h, Nat.le_refl _, fun b h => (by cases h), Int.le_refl _, Int.le_refl _⟩
theorem rfd_ok {B : Nat} {c : CS} {s : ByteArray} (h : CW B c) (hs : B + slen s ≤ 1000000) : rfd_pre (encR c.r) s := by
 have := h.le
 refine ⟨rfl, ?_⟩
 show slen (xIn c.r) + slen s ≤ 1000000
 omega
theorem rfdR_enc (x : RX) (s : ByteArray) : rfdR (encR x) s = encR (feedX x s) := rfdR_eq _ _
end Go.Proofs.Ytfpnjpbdaniomaa

/-
  A reader of frames: a step does not hang on what comes later.
-/
set_option linter.unusedVariables false
set_option linter.unusedSimpArgs false
open Go Go.Am
namespace Go.Proofs.Ytfpnjpbdaniomaa

theorem toL_cat (a b : ByteArray) : toL (cat a b) = toL a ++ toL b := by simp [cat, toL, ofL]
theorem bext {a b : ByteArray} (h : toL a = toL b) : a = b := by rw [← ofL_toL a, ← ofL_toL b, h]
theorem cat_none (a : ByteArray) : cat a ⟨#[]⟩ = a := bext (by rw [toL_cat]; exact List.append_nil _)
theorem sub_self (s : ByteArray) : sub s 0 (slen s) = s := bext (by rw [toL_sub, List.drop_zero, List.take_of_length_le (by unfold slen; omega)])
structure SameHead (s t : ByteArray) : Prop where
 ok : hOk t = true
 n : hN t = hN s
 len : hLen t = hLen s
 least : hLeast t = hLeast s
 mask : hMask t = hMask s
 k0 : hKey t 0 = hKey s 0
 k1 : hKey t 1 = hKey s 1
 k2 : hKey t 2 = hKey s 2
 k3 : hKey t 3 = hKey s 3
 c0 : chr t 0 = chr s 0
theorem cat_nil (a : ByteArray) : cat ⟨#[]⟩ a = a := bext (by rw [toL_cat]; rfl)
end Go.Proofs.Ytfpnjpbdaniomaa
