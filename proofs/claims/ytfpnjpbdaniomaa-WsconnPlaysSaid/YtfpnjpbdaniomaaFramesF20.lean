/-
  A reader of frames: what it tells next, as plain functions.
-/
import Derived.Test.YtfpnjpbdaniomaaAmSlim
import Derived.Test.YtfpnjpbdaniomaaFrameD20
import Derived.Test.YtfpnjpbdaniomaaAmObj
set_option linter.unusedVariables false
set_option linter.unusedSimpArgs false
open Go Go.Am
namespace Go.Proofs.Ytfpnjpbdaniomaa

abbrev op_R : Type := Bool
def op_V (n : Int) (r : Bool) : Value := .bool r
def op_H (n : Int) (r : Bool) : Heap := []
noncomputable def op_Q (n : Int) (C : Cfg) (r : op_R) : Prop :=
 let p := r
 AEnds E 80 0 C (op_V n p) (op_H n p)
noncomputable def op_t0 (n : Int) : op_R :=
 bif n == 0 then true
 else bif n == 1 then true
  else bif n == 2 then true
   else bif n == 8 then true
    else bif n == 9 then true
     else bif n == 10 then true
      else false
def op_S0 (n : Int) : Prop :=
 True
theorem op_ok0 (n : Int) (hS : op_S0 n) : op_Q n (startC E 80 ([.int .i64 n]) ([])) (op_t0 n) := by
 unfold op_S0 at hS
 unfold op_t0
 refine cond_intro (P := op_Q n (startC E 80 ([.int .i64 n]) ([]))) _ (fun h0 => ?_) (fun h0 => ?_)
 ·skip
  exact ends_q noK_ok 2000 23 (bs 2 3) [] [2] [] (andI (dT h0) (andI (dT h0) rfl))
 ·skip
  refine cond_intro (P := op_Q n (startC E 80 ([.int .i64 n]) ([]))) _ (fun h1 => ?_) (fun h1 => ?_)
  ·skip
   exact ends_q noK_ok 2000 29 (bs 3 6) [] [2] [] (andI (dT h1) (andI (dT h1) (andI (dF h0) rfl)))
  ·skip
   refine cond_intro (P := op_Q n (startC E 80 ([.int .i64 n]) ([]))) _ (fun h2 => ?_) (fun h2 => ?_)
   ·skip
    exact ends_q noK_ok 2000 35 (bs 4 12) [] [2] [] (and4 (dT h2) (dT h2) (dF h1) (dF h0) rfl)
   ·skip
    refine cond_intro (P := op_Q n (startC E 80 ([.int .i64 n]) ([]))) _ (fun h3 => ?_) (fun h3 => ?_)
    ·skip
     exact ends_q noK_ok 2000 41 (bs 5 24) [] [2] [] (andI (dT h3) (and4 (dT h3) (dF h2) (dF h1) (dF h0) rfl))
    ·skip
     refine cond_intro (P := op_Q n (startC E 80 ([.int .i64 n]) ([]))) _ (fun h4 => ?_) (fun h4 => ?_)
     ·skip
      exact ends_q noK_ok 2000 47 (bs 6 48) [] [2] [] (andI (dT h4) (andI (dT h4) (and4 (dF h3) (dF h2) (dF h1) (dF h0) rfl)))
     ·skip
      refine cond_intro (P := op_Q n (startC E 80 ([.int .i64 n]) ([]))) _ (fun h5 => ?_) (fun h5 => ?_)
      ·skip
       exact ends_q noK_ok 2000 50 (bs 6 32) [] [2] [] (andI (dT h5) (andI (dF h4) (and4 (dF h3) (dF h2) (dF h1) (dF h0) rfl)))
      ·skip
       exact ends_q noK_ok 2000 52 (bs 6 0) [] [2] [] (andI (dF h5) (andI (dF h4) (and4 (dF h3) (dF h2) (dF h1) (dF h0) rfl)))
theorem op_call (n : Int) (hS : op_S0 n) : CallOk E 80 ([.int .i64 n]) ([]) (op_V n (op_t0 n)) (op_H n (op_t0 n)) := callOk_of_ends (op_ok0 n hS) (by kernel_rfl) (Nat.le_of_ble_eq_true (by kernel_rfl))
def op_ex (a : List Value) (h : Heap) : Int := (toInt (a.getD 0 undef))
noncomputable def op_k : Ct := kS op_ex [.int .i64] [] (fun x => op_S0 x) (fun x => op_V x (op_t0 x)) (fun x => op_H x (op_t0 x))
theorem op_k_ok : KFor E 80 op_k := kS_ok (fun x hx => op_call x hx) (fun _ _ => rfl) (fun _ _ => rfl)


noncomputable def KFa : Ctr := ctrOf E [(80, anyA, op_k)]
theorem KFa_ok : KOk E KFa := ctr_cons op_k_ok ctr_nil

abbrev may_R : Type := Bool
def may_V (masked : Bool) (state : Int) (inn : ByteArray) (hf : Bool) (hr ho : Int) (hm : Bool) (k0 k1 : Int) (k2 k3 hl : Int) (hlst : Bool) (told : Int) (ff : Bool) (fr fo : Int) (fm : Bool) (f0 f1 : Int) (f2 f3 fl : Int) (flst r : Bool) : Value := .bool r
def may_H (masked : Bool) (state : Int) (inn : ByteArray) (hf : Bool) (hr ho : Int) (hm : Bool) (k0 k1 : Int) (k2 k3 hl : Int) (hlst : Bool) (told : Int) (ff : Bool) (fr fo : Int) (fm : Bool) (f0 f1 : Int) (f2 f3 fl : Int) (flst r : Bool) : Heap := [some (.cells [.bool masked, .int .i64 state, .string inn, .bool hf, .int .i64 hr, .int .i64 ho, .bool hm, .int .u8 k0, .int .u8 k1, .int .u8 k2, .int .u8 k3, .int .u64 hl, .bool hlst, .int .i64 told] 117 none)]
noncomputable def may_Q (masked : Bool) (state : Int) (inn : ByteArray) (hf : Bool) (hr ho : Int) (hm : Bool) (k0 k1 : Int) (k2 k3 hl : Int) (hlst : Bool) (told : Int) (ff : Bool) (fr fo : Int) (fm : Bool) (f0 f1 : Int) (f2 f3 fl : Int) (flst : Bool) (C : Cfg) (r : may_R) : Prop :=
 let p := r
 AEnds E 74 1 C (may_V masked state inn hf hr ho hm k0 k1 k2 k3 hl hlst told ff fr fo fm f0 f1 f2 f3 fl flst p) (may_H masked state inn hf hr ho hm k0 k1 k2 k3 hl hlst told ff fr fo fm f0 f1 f2 f3 fl flst p)
noncomputable def may_t0 (masked : Bool) (state : Int) (inn : ByteArray) (hf : Bool) (hr ho : Int) (hm : Bool) (k0 k1 : Int) (k2 k3 hl : Int) (hlst : Bool) (told : Int) (ff : Bool) (fr fo : Int) (fm : Bool) (f0 f1 : Int) (f2 f3 fl : Int) (flst : Bool) : may_R :=
 bif decide (fo < 8) then bif fr == 0 then bif op_t0 fo then bif fm == masked then bif flst then decide (fl ≤ 9223372036854775807)
     else false
    else false
   else false
  else false
 else bif ff then bif fr == 0 then bif op_t0 fo then bif fm == masked then bif decide (fl ≤ 125) then bif flst then decide (fl ≤ 9223372036854775807)
       else false
      else false
     else false
    else false
   else false
  else bif fr == 0 then bif op_t0 fo then bif fm == masked then false
     else false
    else false
   else false
def may_S0 (masked : Bool) (state : Int) (inn : ByteArray) (hf : Bool) (hr ho : Int) (hm : Bool) (k0 k1 : Int) (k2 k3 hl : Int) (hlst : Bool) (told : Int) (ff : Bool) (fr fo : Int) (fm : Bool) (f0 f1 : Int) (f2 f3 fl : Int) (flst : Bool) : Prop :=
 ((decide (fo < 8)) = true → ((fr == 0) = true → ((op_t0 fo) = true → ((fm == masked) = true → (flst = true → op_S0 fo) ∧
     (flst = false → op_S0 fo)) ∧
    ((fm == masked) = false → op_S0 fo)) ∧
   ((op_t0 fo) = false → op_S0 fo)) ∧
  ((fr == 0) = false → True)) ∧
 ((decide (fo < 8)) = false → (ff = true → ((fr == 0) = true → ((op_t0 fo) = true → ((fm == masked) = true → ((decide (fl ≤ 125)) = true → (flst = true → op_S0 fo) ∧
       (flst = false → op_S0 fo)) ∧
      ((decide (fl ≤ 125)) = false → op_S0 fo)) ∧
     ((fm == masked) = false → op_S0 fo)) ∧
    ((op_t0 fo) = false → op_S0 fo)) ∧
   ((fr == 0) = false → True)) ∧
  (ff = false → ((fr == 0) = true → ((op_t0 fo) = true → ((fm == masked) = true → op_S0 fo) ∧
     ((fm == masked) = false → op_S0 fo)) ∧
    ((op_t0 fo) = false → op_S0 fo)) ∧
   ((fr == 0) = false → True)))
theorem may_ok0 (masked : Bool) (state : Int) (inn : ByteArray) (hf : Bool) (hr ho : Int) (hm : Bool) (k0 k1 : Int) (k2 k3 hl : Int) (hlst : Bool) (told : Int) (ff : Bool) (fr fo : Int) (fm : Bool) (f0 f1 : Int) (f2 f3 fl : Int) (flst : Bool) (hS : may_S0 masked state inn hf hr ho hm k0 k1 k2 k3 hl hlst told ff fr fo fm f0 f1 f2 f3 fl flst) : may_Q masked state inn hf hr ho hm k0 k1 k2 k3 hl hlst told ff fr fo fm f0 f1 f2 f3 fl flst (startC E 74 ([.pointer (some ⟨0, 0, none⟩), .agg #[.bool ff, .int .i64 fr, .int .i64 fo, .bool fm, .int .u8 f0, .int .u8 f1, .int .u8 f2, .int .u8 f3, .int .u64 fl, .bool flst]]) ([some (.cells [.bool masked, .int .i64 state, .string inn, .bool hf, .int .i64 hr, .int .i64 ho, .bool hm, .int .u8 k0, .int .u8 k1, .int .u8 k2, .int .u8 k3, .int .u64 hl, .bool hlst, .int .i64 told] 117 none)])) (may_t0 masked state inn hf hr ho hm k0 k1 k2 k3 hl hlst told ff fr fo fm f0 f1 f2 f3 fl flst) := by
 unfold may_S0 at hS
 unfold may_t0
 refine cond_intro (P := may_Q masked state inn hf hr ho hm k0 k1 k2 k3 hl hlst told ff fr fo fm f0 f1 f2 f3 fl flst (startC E 74 ([.pointer (some ⟨0, 0, none⟩), .agg #[.bool ff, .int .i64 fr, .int .i64 fo, .bool fm, .int .u8 f0, .int .u8 f1, .int .u8 f2, .int .u8 f3, .int .u64 fl, .bool flst]]) ([some (.cells [.bool masked, .int .i64 state, .string inn, .bool hf, .int .i64 hr, .int .i64 ho, .bool hm, .int .u8 k0, .int .u8 k1, .int .u8 k2, .int .u8 k3, .int .u64 hl, .bool hlst, .int .i64 told] 117 none)]))) _ (fun h0 => ?_) (fun h0 => ?_)
 ·skip
  refine cond_intro (P := may_Q masked state inn hf hr ho hm k0 k1 k2 k3 hl hlst told ff fr fo fm f0 f1 f2 f3 fl flst (startC E 74 ([.pointer (some ⟨0, 0, none⟩), .agg #[.bool ff, .int .i64 fr, .int .i64 fo, .bool fm, .int .u8 f0, .int .u8 f1, .int .u8 f2, .int .u8 f3, .int .u64 fl, .bool flst]]) ([some (.cells [.bool masked, .int .i64 state, .string inn, .bool hf, .int .i64 hr, .int .i64 ho, .bool hm, .int .u8 k0, .int .u8 k1, .int .u8 k2, .int .u8 k3, .int .u64 hl, .bool hlst, .int .i64 told] 117 none)]))) _ (fun h1 => ?_) (fun h1 => ?_)
  ·skip
   refine cond_intro (P := may_Q masked state inn hf hr ho hm k0 k1 k2 k3 hl hlst told ff fr fo fm f0 f1 f2 f3 fl flst (startC E 74 ([.pointer (some ⟨0, 0, none⟩), .agg #[.bool ff, .int .i64 fr, .int .i64 fo, .bool fm, .int .u8 f0, .int .u8 f1, .int .u8 f2, .int .u8 f3, .int .u64 fl, .bool flst]]) ([some (.cells [.bool masked, .int .i64 state, .string inn, .bool hf, .int .i64 hr, .int .i64 ho, .bool hm, .int .u8 k0, .int .u8 k1, .int .u8 k2, .int .u8 k3, .int .u64 hl, .bool hlst, .int .i64 told] 117 none)]))) _ (fun h2 => ?_) (fun h2 => ?_)
   ·skip
    refine cond_intro (P := may_Q masked state inn hf hr ho hm k0 k1 k2 k3 hl hlst told ff fr fo fm f0 f1 f2 f3 fl flst (startC E 74 ([.pointer (some ⟨0, 0, none⟩), .agg #[.bool ff, .int .i64 fr, .int .i64 fo, .bool fm, .int .u8 f0, .int .u8 f1, .int .u8 f2, .int .u8 f3, .int .u64 fl, .bool flst]]) ([some (.cells [.bool masked, .int .i64 state, .string inn, .bool hf, .int .i64 hr, .int .i64 ho, .bool hm, .int .u8 k0, .int .u8 k1, .int .u8 k2, .int .u8 k3, .int .u64 hl, .bool hlst, .int .i64 told] 117 none)]))) _ (fun h3 => ?_) (fun h3 => ?_)
    ·skip
     refine cond_intro (P := may_Q masked state inn hf hr ho hm k0 k1 k2 k3 hl hlst told ff fr fo fm f0 f1 f2 f3 fl flst (startC E 74 ([.pointer (some ⟨0, 0, none⟩), .agg #[.bool ff, .int .i64 fr, .int .i64 fo, .bool fm, .int .u8 f0, .int .u8 f1, .int .u8 f2, .int .u8 f3, .int .u64 fl, .bool flst]]) ([some (.cells [.bool masked, .int .i64 state, .string inn, .bool hf, .int .i64 hr, .int .i64 ho, .bool hm, .int .u8 k0, .int .u8 k1, .int .u8 k2, .int .u8 k3, .int .u64 hl, .bool hlst, .int .i64 told] 117 none)]))) _ (fun h5 => ?_) (fun h5 => ?_)
     ·skip
      exact ends_q KFa_ok 2000 23 (bs 6 63) [0] [4] [0] (andI (dT h5) (andI (dT h3) (and4 (dT h2) (pdec_iff.2 (((((hS.1 h0).1 h1).1 h2).1 h3).1 h5)) (dT h1) (dT h0) rfl)))
     ·skip
      exact ends_q KFa_ok 2000 23 (bs 6 31) [0] [4] [0] (andI (dF h5) (andI (dT h3) (and4 (dT h2) (pdec_iff.2 (((((hS.1 h0).1 h1).1 h2).1 h3).2 h5)) (dT h1) (dT h0) rfl)))
    ·skip
     exact ends_q KFa_ok 2000 23 (bs 6 7) [0] [4] [0] (andI (dF h3) (and4 (dT h2) (pdec_iff.2 ((((hS.1 h0).1 h1).1 h2).2 h3)) (dT h1) (dT h0) rfl))
   ·skip
    exact ends_q KFa_ok 2000 23 (bs 6 3) [0] [4] [0] (and4 (dF h2) (pdec_iff.2 (((hS.1 h0).1 h1).2 h2)) (dT h1) (dT h0) rfl)
  ·skip
   exact ends_q KFa_ok 2000 23 (bs 6 1) [0] [4] [0] (andI (dF h1) (andI (dT h0) rfl))
 ·skip
  refine cond_intro (P := may_Q masked state inn hf hr ho hm k0 k1 k2 k3 hl hlst told ff fr fo fm f0 f1 f2 f3 fl flst (startC E 74 ([.pointer (some ⟨0, 0, none⟩), .agg #[.bool ff, .int .i64 fr, .int .i64 fo, .bool fm, .int .u8 f0, .int .u8 f1, .int .u8 f2, .int .u8 f3, .int .u64 fl, .bool flst]]) ([some (.cells [.bool masked, .int .i64 state, .string inn, .bool hf, .int .i64 hr, .int .i64 ho, .bool hm, .int .u8 k0, .int .u8 k1, .int .u8 k2, .int .u8 k3, .int .u64 hl, .bool hlst, .int .i64 told] 117 none)]))) _ (fun h1 => ?_) (fun h1 => ?_)
  ·skip
   refine cond_intro (P := may_Q masked state inn hf hr ho hm k0 k1 k2 k3 hl hlst told ff fr fo fm f0 f1 f2 f3 fl flst (startC E 74 ([.pointer (some ⟨0, 0, none⟩), .agg #[.bool ff, .int .i64 fr, .int .i64 fo, .bool fm, .int .u8 f0, .int .u8 f1, .int .u8 f2, .int .u8 f3, .int .u64 fl, .bool flst]]) ([some (.cells [.bool masked, .int .i64 state, .string inn, .bool hf, .int .i64 hr, .int .i64 ho, .bool hm, .int .u8 k0, .int .u8 k1, .int .u8 k2, .int .u8 k3, .int .u64 hl, .bool hlst, .int .i64 told] 117 none)]))) _ (fun h2 => ?_) (fun h2 => ?_)
   ·skip
    refine cond_intro (P := may_Q masked state inn hf hr ho hm k0 k1 k2 k3 hl hlst told ff fr fo fm f0 f1 f2 f3 fl flst (startC E 74 ([.pointer (some ⟨0, 0, none⟩), .agg #[.bool ff, .int .i64 fr, .int .i64 fo, .bool fm, .int .u8 f0, .int .u8 f1, .int .u8 f2, .int .u8 f3, .int .u64 fl, .bool flst]]) ([some (.cells [.bool masked, .int .i64 state, .string inn, .bool hf, .int .i64 hr, .int .i64 ho, .bool hm, .int .u8 k0, .int .u8 k1, .int .u8 k2, .int .u8 k3, .int .u64 hl, .bool hlst, .int .i64 told] 117 none)]))) _ (fun h3 => ?_) (fun h3 => ?_)
    ·skip
     refine cond_intro (P := may_Q masked state inn hf hr ho hm k0 k1 k2 k3 hl hlst told ff fr fo fm f0 f1 f2 f3 fl flst (startC E 74 ([.pointer (some ⟨0, 0, none⟩), .agg #[.bool ff, .int .i64 fr, .int .i64 fo, .bool fm, .int .u8 f0, .int .u8 f1, .int .u8 f2, .int .u8 f3, .int .u64 fl, .bool flst]]) ([some (.cells [.bool masked, .int .i64 state, .string inn, .bool hf, .int .i64 hr, .int .i64 ho, .bool hm, .int .u8 k0, .int .u8 k1, .int .u8 k2, .int .u8 k3, .int .u64 hl, .bool hlst, .int .i64 told] 117 none)]))) _ (fun h4 => ?_) (fun h4 => ?_)
     ·skip
      refine cond_intro (P := may_Q masked state inn hf hr ho hm k0 k1 k2 k3 hl hlst told ff fr fo fm f0 f1 f2 f3 fl flst (startC E 74 ([.pointer (some ⟨0, 0, none⟩), .agg #[.bool ff, .int .i64 fr, .int .i64 fo, .bool fm, .int .u8 f0, .int .u8 f1, .int .u8 f2, .int .u8 f3, .int .u64 fl, .bool flst]]) ([some (.cells [.bool masked, .int .i64 state, .string inn, .bool hf, .int .i64 hr, .int .i64 ho, .bool hm, .int .u8 k0, .int .u8 k1, .int .u8 k2, .int .u8 k3, .int .u64 hl, .bool hlst, .int .i64 told] 117 none)]))) _ (fun h5 => ?_) (fun h5 => ?_)
      ·skip
       refine cond_intro (P := may_Q masked state inn hf hr ho hm k0 k1 k2 k3 hl hlst told ff fr fo fm f0 f1 f2 f3 fl flst (startC E 74 ([.pointer (some ⟨0, 0, none⟩), .agg #[.bool ff, .int .i64 fr, .int .i64 fo, .bool fm, .int .u8 f0, .int .u8 f1, .int .u8 f2, .int .u8 f3, .int .u64 fl, .bool flst]]) ([some (.cells [.bool masked, .int .i64 state, .string inn, .bool hf, .int .i64 hr, .int .i64 ho, .bool hm, .int .u8 k0, .int .u8 k1, .int .u8 k2, .int .u8 k3, .int .u64 hl, .bool hlst, .int .i64 told] 117 none)]))) _ (fun h6 => ?_) (fun h6 => ?_)
       ·skip
        exact ends_q KFa_ok 2000 23 (bs 7 126) [0] [4] [0] (and8 (dT h6) (dT h5) (dT h4) (dT h3) (pdec_iff.2 (((((((hS.2 h0).1 h1).1 h2).1 h3).1 h4).1 h5).1 h6)) (dT h2) (dT h1) (dF h0) rfl)
       ·skip
        exact ends_q KFa_ok 2000 23 (bs 7 62) [0] [4] [0] (and8 (dF h6) (dT h5) (dT h4) (dT h3) (pdec_iff.2 (((((((hS.2 h0).1 h1).1 h2).1 h3).1 h4).1 h5).2 h6)) (dT h2) (dT h1) (dF h0) rfl)
      ·skip
       exact ends_q KFa_ok 2000 23 (bs 7 30) [0] [4] [0] (andI (dF h5) (andI (dT h4) (andI (dT h3) (and4 (pdec_iff.2 ((((((hS.2 h0).1 h1).1 h2).1 h3).1 h4).2 h5)) (dT h2) (dT h1) (dF h0) rfl))))
     ·skip
      exact ends_q KFa_ok 2000 23 (bs 7 14) [0] [4] [0] (andI (dF h4) (andI (dT h3) (and4 (pdec_iff.2 (((((hS.2 h0).1 h1).1 h2).1 h3).2 h4)) (dT h2) (dT h1) (dF h0) rfl)))
    ·skip
     exact ends_q KFa_ok 2000 23 (bs 7 6) [0] [4] [0] (andI (dF h3) (and4 (pdec_iff.2 ((((hS.2 h0).1 h1).1 h2).2 h3)) (dT h2) (dT h1) (dF h0) rfl))
   ·skip
    exact ends_q KFa_ok 2000 23 (bs 7 2) [0] [4] [0] (andI (dF h2) (andI (dT h1) (andI (dF h0) rfl)))
  ·skip
   refine cond_intro (P := may_Q masked state inn hf hr ho hm k0 k1 k2 k3 hl hlst told ff fr fo fm f0 f1 f2 f3 fl flst (startC E 74 ([.pointer (some ⟨0, 0, none⟩), .agg #[.bool ff, .int .i64 fr, .int .i64 fo, .bool fm, .int .u8 f0, .int .u8 f1, .int .u8 f2, .int .u8 f3, .int .u64 fl, .bool flst]]) ([some (.cells [.bool masked, .int .i64 state, .string inn, .bool hf, .int .i64 hr, .int .i64 ho, .bool hm, .int .u8 k0, .int .u8 k1, .int .u8 k2, .int .u8 k3, .int .u64 hl, .bool hlst, .int .i64 told] 117 none)]))) _ (fun h2 => ?_) (fun h2 => ?_)
   ·skip
    refine cond_intro (P := may_Q masked state inn hf hr ho hm k0 k1 k2 k3 hl hlst told ff fr fo fm f0 f1 f2 f3 fl flst (startC E 74 ([.pointer (some ⟨0, 0, none⟩), .agg #[.bool ff, .int .i64 fr, .int .i64 fo, .bool fm, .int .u8 f0, .int .u8 f1, .int .u8 f2, .int .u8 f3, .int .u64 fl, .bool flst]]) ([some (.cells [.bool masked, .int .i64 state, .string inn, .bool hf, .int .i64 hr, .int .i64 ho, .bool hm, .int .u8 k0, .int .u8 k1, .int .u8 k2, .int .u8 k3, .int .u64 hl, .bool hlst, .int .i64 told] 117 none)]))) _ (fun h3 => ?_) (fun h3 => ?_)
    ·skip
     refine cond_intro (P := may_Q masked state inn hf hr ho hm k0 k1 k2 k3 hl hlst told ff fr fo fm f0 f1 f2 f3 fl flst (startC E 74 ([.pointer (some ⟨0, 0, none⟩), .agg #[.bool ff, .int .i64 fr, .int .i64 fo, .bool fm, .int .u8 f0, .int .u8 f1, .int .u8 f2, .int .u8 f3, .int .u64 fl, .bool flst]]) ([some (.cells [.bool masked, .int .i64 state, .string inn, .bool hf, .int .i64 hr, .int .i64 ho, .bool hm, .int .u8 k0, .int .u8 k1, .int .u8 k2, .int .u8 k3, .int .u64 hl, .bool hlst, .int .i64 told] 117 none)]))) _ (fun h4 => ?_) (fun h4 => ?_)
     ·skip
      exact ends_q KFa_ok 2000 23 (bs 7 28) [0] [4] [0] (andI (dT h4) (andI (dT h3) (and4 (pdec_iff.2 (((((hS.2 h0).2 h1).1 h2).1 h3).1 h4)) (dT h2) (dF h1) (dF h0) rfl)))
     ·skip
      exact ends_q KFa_ok 2000 23 (bs 7 12) [0] [4] [0] (andI (dF h4) (andI (dT h3) (and4 (pdec_iff.2 (((((hS.2 h0).2 h1).1 h2).1 h3).2 h4)) (dT h2) (dF h1) (dF h0) rfl)))
    ·skip
     exact ends_q KFa_ok 2000 23 (bs 7 4) [0] [4] [0] (andI (dF h3) (and4 (pdec_iff.2 ((((hS.2 h0).2 h1).1 h2).2 h3)) (dT h2) (dF h1) (dF h0) rfl))
   ·skip
    exact ends_q KFa_ok 2000 23 (bs 7 0) [0] [4] [0] (andI (dF h2) (andI (dF h1) (andI (dF h0) rfl)))
theorem may_call (masked : Bool) (state : Int) (inn : ByteArray) (hf : Bool) (hr ho : Int) (hm : Bool) (k0 k1 : Int) (k2 k3 hl : Int) (hlst : Bool) (told : Int) (ff : Bool) (fr fo : Int) (fm : Bool) (f0 f1 : Int) (f2 f3 fl : Int) (flst : Bool) (hS : may_S0 masked state inn hf hr ho hm k0 k1 k2 k3 hl hlst told ff fr fo fm f0 f1 f2 f3 fl flst) : CallOk E 74 ([.pointer (some ⟨0, 0, none⟩), .agg #[.bool ff, .int .i64 fr, .int .i64 fo, .bool fm, .int .u8 f0, .int .u8 f1, .int .u8 f2, .int .u8 f3, .int .u64 fl, .bool flst]]) ([some (.cells [.bool masked, .int .i64 state, .string inn, .bool hf, .int .i64 hr, .int .i64 ho, .bool hm, .int .u8 k0, .int .u8 k1, .int .u8 k2, .int .u8 k3, .int .u64 hl, .bool hlst, .int .i64 told] 117 none)]) (may_V masked state inn hf hr ho hm k0 k1 k2 k3 hl hlst told ff fr fo fm f0 f1 f2 f3 fl flst (may_t0 masked state inn hf hr ho hm k0 k1 k2 k3 hl hlst told ff fr fo fm f0 f1 f2 f3 fl flst)) (may_H masked state inn hf hr ho hm k0 k1 k2 k3 hl hlst told ff fr fo fm f0 f1 f2 f3 fl flst (may_t0 masked state inn hf hr ho hm k0 k1 k2 k3 hl hlst told ff fr fo fm f0 f1 f2 f3 fl flst)) := callOk_of_ends (may_ok0 masked state inn hf hr ho hm k0 k1 k2 k3 hl hlst told ff fr fo fm f0 f1 f2 f3 fl flst hS) (by kernel_rfl) (Nat.le_of_ble_eq_true (by kernel_rfl))
def may_ex (a : List Value) (h : Heap) : Bool × Int × ByteArray × Bool × Int × Int × Bool × Int × Int × Int × Int × Int × Bool × Int × Bool × Int × Int × Bool × Int × Int × Int × Int × Int × Bool := ((toBool ((cellsOf h 0).getD 0 undef)), (toInt ((cellsOf h 0).getD 1 undef)), (toStr ((cellsOf h 0).getD 2 undef)), (toBool ((cellsOf h 0).getD 3 undef)), (toInt ((cellsOf h 0).getD 4 undef)), (toInt ((cellsOf h 0).getD 5 undef)), (toBool ((cellsOf h 0).getD 6 undef)), (toInt ((cellsOf h 0).getD 7 undef)), (toInt ((cellsOf h 0).getD 8 undef)), (toInt ((cellsOf h 0).getD 9 undef)), (toInt ((cellsOf h 0).getD 10 undef)), (toInt ((cellsOf h 0).getD 11 undef)), (toBool ((cellsOf h 0).getD 12 undef)), (toInt ((cellsOf h 0).getD 13 undef)), (toBool ((aggOf (a.getD 1 undef)).getD 0 undef)), (toInt ((aggOf (a.getD 1 undef)).getD 1 undef)), (toInt ((aggOf (a.getD 1 undef)).getD 2 undef)), (toBool ((aggOf (a.getD 1 undef)).getD 3 undef)), (toInt ((aggOf (a.getD 1 undef)).getD 4 undef)), (toInt ((aggOf (a.getD 1 undef)).getD 5 undef)), (toInt ((aggOf (a.getD 1 undef)).getD 6 undef)), (toInt ((aggOf (a.getD 1 undef)).getD 7 undef)), (toInt ((aggOf (a.getD 1 undef)).getD 8 undef)), (toBool ((aggOf (a.getD 1 undef)).getD 9 undef)))
noncomputable def may_k : Ct := kS may_ex [.ptr 0 0, .agg [.bool, .int .i64, .int .i64, .bool, .int .u8, .int .u8, .int .u8, .int .u8, .int .u64, .bool]] [.cells [.bool, .int .i64, .str, .bool, .int .i64, .int .i64, .bool, .int .u8, .int .u8, .int .u8, .int .u8, .int .u64, .bool, .int .i64] 117 none] (fun (a0, a1, a2, a3, a4, a5, a6, a7, a8, a9, a10, a11, a12, a13, a14, a15, a16, a17, a18, a19, a20, a21, a22, a23) => may_S0 a0 a1 a2 a3 a4 a5 a6 a7 a8 a9 a10 a11 a12 a13 a14 a15 a16 a17 a18 a19 a20 a21 a22 a23) (fun (a0, a1, a2, a3, a4, a5, a6, a7, a8, a9, a10, a11, a12, a13, a14, a15, a16, a17, a18, a19, a20, a21, a22, a23) => may_V a0 a1 a2 a3 a4 a5 a6 a7 a8 a9 a10 a11 a12 a13 a14 a15 a16 a17 a18 a19 a20 a21 a22 a23 (may_t0 a0 a1 a2 a3 a4 a5 a6 a7 a8 a9 a10 a11 a12 a13 a14 a15 a16 a17 a18 a19 a20 a21 a22 a23)) (fun (a0, a1, a2, a3, a4, a5, a6, a7, a8, a9, a10, a11, a12, a13, a14, a15, a16, a17, a18, a19, a20, a21, a22, a23) => may_H a0 a1 a2 a3 a4 a5 a6 a7 a8 a9 a10 a11 a12 a13 a14 a15 a16 a17 a18 a19 a20 a21 a22 a23 (may_t0 a0 a1 a2 a3 a4 a5 a6 a7 a8 a9 a10 a11 a12 a13 a14 a15 a16 a17 a18 a19 a20 a21 a22 a23))
theorem may_k_ok : KFor E 74 may_k := kS_ok (fun x hx => may_call (x.1) (x.2.1) (x.2.2.1) (x.2.2.2.1) (x.2.2.2.2.1) (x.2.2.2.2.2.1) (x.2.2.2.2.2.2.1) (x.2.2.2.2.2.2.2.1) (x.2.2.2.2.2.2.2.2.1) (x.2.2.2.2.2.2.2.2.2.1) (x.2.2.2.2.2.2.2.2.2.2.1) (x.2.2.2.2.2.2.2.2.2.2.2.1) (x.2.2.2.2.2.2.2.2.2.2.2.2.1) (x.2.2.2.2.2.2.2.2.2.2.2.2.2.1) (x.2.2.2.2.2.2.2.2.2.2.2.2.2.2.1) (x.2.2.2.2.2.2.2.2.2.2.2.2.2.2.2.1) (x.2.2.2.2.2.2.2.2.2.2.2.2.2.2.2.2.1) (x.2.2.2.2.2.2.2.2.2.2.2.2.2.2.2.2.2.1) (x.2.2.2.2.2.2.2.2.2.2.2.2.2.2.2.2.2.2.1) (x.2.2.2.2.2.2.2.2.2.2.2.2.2.2.2.2.2.2.2.1) (x.2.2.2.2.2.2.2.2.2.2.2.2.2.2.2.2.2.2.2.2.1) (x.2.2.2.2.2.2.2.2.2.2.2.2.2.2.2.2.2.2.2.2.2.1) (x.2.2.2.2.2.2.2.2.2.2.2.2.2.2.2.2.2.2.2.2.2.2.1) (x.2.2.2.2.2.2.2.2.2.2.2.2.2.2.2.2.2.2.2.2.2.2.2) hx) (fun _ _ => rfl) (fun _ _ => rfl)


noncomputable def KFa2 : Ctr := ctrOf E [(73, anyA, headc_k), (74, ptrA, may_k), (75, anyA, mask_k)]
theorem KFa2_ok : KOk E KFa2 := ctr_cons headc_k_ok (ctr_cons may_k_ok (ctr_cons mask_k_ok ctr_nil))

abbrev rstep_R : Type := Int × Int × Bool × Int × ByteArray × Bool × Int × ByteArray × Bool × Int × Int × Bool × Int × Int × Int × Int × Int × Bool × Int
def rstep_V (masked : Bool) (state : Int) (inn : ByteArray) (hf : Bool) (hr ho : Int) (hm : Bool) (k0 k1 : Int) (k2 k3 hl : Int) (hlst : Bool) (told : Int) (r : Int × Int × Bool × Int × ByteArray × Bool × Int × ByteArray × Bool × Int × Int × Bool × Int × Int × Int × Int × Int × Bool × Int) : Value := .tuple #[.agg #[.int .i64 r.1, .int .i64 r.2.1, .bool r.2.2.1, .int .i64 r.2.2.2.1, .string r.2.2.2.2.1], .bool r.2.2.2.2.2.1]
def rstep_H (masked : Bool) (state : Int) (inn : ByteArray) (hf : Bool) (hr ho : Int) (hm : Bool) (k0 k1 : Int) (k2 k3 hl : Int) (hlst : Bool) (told : Int) (r : Int × Int × Bool × Int × ByteArray × Bool × Int × ByteArray × Bool × Int × Int × Bool × Int × Int × Int × Int × Int × Bool × Int) : Heap := [some (.cells [.bool masked, .int .i64 r.2.2.2.2.2.2.1, .string r.2.2.2.2.2.2.2.1, .bool r.2.2.2.2.2.2.2.2.1, .int .i64 r.2.2.2.2.2.2.2.2.2.1, .int .i64 r.2.2.2.2.2.2.2.2.2.2.1, .bool r.2.2.2.2.2.2.2.2.2.2.2.1, .int .u8 r.2.2.2.2.2.2.2.2.2.2.2.2.1, .int .u8 r.2.2.2.2.2.2.2.2.2.2.2.2.2.1, .int .u8 r.2.2.2.2.2.2.2.2.2.2.2.2.2.2.1, .int .u8 r.2.2.2.2.2.2.2.2.2.2.2.2.2.2.2.1, .int .u64 r.2.2.2.2.2.2.2.2.2.2.2.2.2.2.2.2.1, .bool r.2.2.2.2.2.2.2.2.2.2.2.2.2.2.2.2.2.1, .int .i64 r.2.2.2.2.2.2.2.2.2.2.2.2.2.2.2.2.2.2] 117 none)]
noncomputable def rstep_Q (masked : Bool) (state : Int) (inn : ByteArray) (hf : Bool) (hr ho : Int) (hm : Bool) (k0 k1 : Int) (k2 k3 hl : Int) (hlst : Bool) (told : Int) (C : Cfg) (r : rstep_R) : Prop :=
 let p := r
 AEnds E 56 1 C (rstep_V masked state inn hf hr ho hm k0 k1 k2 k3 hl hlst told p) (rstep_H masked state inn hf hr ho hm k0 k1 k2 k3 hl hlst told p)
noncomputable def rstep_t0 (masked : Bool) (state : Int) (inn : ByteArray) (hf : Bool) (hr ho : Int) (hm : Bool) (k0 k1 : Int) (k2 k3 hl : Int) (hlst : Bool) (told : Int) : rstep_R :=
 bif state == 2 then (0, 0, false, 0, { data := #[] }, false, state, inn, hf, hr, ho, hm, k0, k1, k2, k3, hl, hlst, told)
 else bif state == 0 then bif !(headT inn).2.2.2.2.2.2.2.2.2.2.2 then (0, 0, false, 0, { data := #[] }, false, state, inn, hf, hr, ho, hm, k0, k1, k2, k3, hl, hlst, told)
   else bif !may_t0 masked state inn hf hr ho hm k0 k1 k2 k3 hl hlst told (headT inn).1 (headT inn).2.1 (headT inn).2.2.1 (headT inn).2.2.2.1 (headT inn).2.2.2.2.1 (headT inn).2.2.2.2.2.1 (headT inn).2.2.2.2.2.2.1 (headT inn).2.2.2.2.2.2.2.1 (headT inn).2.2.2.2.2.2.2.2.1 (headT inn).2.2.2.2.2.2.2.2.2.1 then (4, 0, false, 0, { data := #[] }, true, 2, { data := #[] }, hf, hr, ho, hm, k0, k1, k2, k3, hl, hlst, told)
    else (1, (headT inn).2.2.1, (headT inn).1, IntKind.i64.wrap (headT inn).2.2.2.2.2.2.2.2.1, { data := #[] }, true, 1, sub inn (headT inn).2.2.2.2.2.2.2.2.2.2.1.toNat (slen inn), (headT inn).1, (headT inn).2.1, (headT inn).2.2.1, (headT inn).2.2.2.1, (headT inn).2.2.2.2.1, (headT inn).2.2.2.2.2.1, (headT inn).2.2.2.2.2.2.1, (headT inn).2.2.2.2.2.2.2.1, (headT inn).2.2.2.2.2.2.2.2.1, (headT inn).2.2.2.2.2.2.2.2.2.1, 0)
  else bif IntKind.i64.wrap (IntKind.i64.wrap hl - told) == 0 then (3, 0, false, 0, { data := #[] }, true, 0, inn, hf, hr, ho, hm, k0, k1, k2, k3, hl, hlst, told)
   else bif (bif decide (((slen inn) : Int) < IntKind.i64.wrap (IntKind.i64.wrap hl - told)) then ((slen inn) : Int) else IntKind.i64.wrap (IntKind.i64.wrap hl - told)) == 0 then (0, 0, false, 0, { data := #[] }, false, state, inn, hf, hr, ho, hm, k0, k1, k2, k3, hl, hlst, told)
    else (2, 0, false, 0, maskD [k0, k1, k2, k3] told (sub inn 0 (bif decide (((slen inn) : Int) < IntKind.i64.wrap (IntKind.i64.wrap hl - told)) then ((slen inn) : Int) else IntKind.i64.wrap (IntKind.i64.wrap hl - told)).toNat), true, state, sub inn (bif decide (((slen inn) : Int) < IntKind.i64.wrap (IntKind.i64.wrap hl - told)) then ((slen inn) : Int) else IntKind.i64.wrap (IntKind.i64.wrap hl - told)).toNat (slen inn), hf, hr, ho, hm, k0, k1, k2, k3, hl, hlst, IntKind.i64.wrap (told + bif decide (((slen inn) : Int) < IntKind.i64.wrap (IntKind.i64.wrap hl - told)) then ((slen inn) : Int) else IntKind.i64.wrap (IntKind.i64.wrap hl - told)))
def rstep_S0 (masked : Bool) (state : Int) (inn : ByteArray) (hf : Bool) (hr ho : Int) (hm : Bool) (k0 k1 : Int) (k2 k3 hl : Int) (hlst : Bool) (told : Int) : Prop :=
 ((state == 2) = true → True) ∧
 ((state == 2) = false → ((state == 0) = true → ((!(headT inn).2.2.2.2.2.2.2.2.2.2.2) = true → headc_pre inn) ∧
   ((!(headT inn).2.2.2.2.2.2.2.2.2.2.2) = false → ((!may_t0 masked state inn hf hr ho hm k0 k1 k2 k3 hl hlst told (headT inn).1 (headT inn).2.1 (headT inn).2.2.1 (headT inn).2.2.2.1 (headT inn).2.2.2.2.1 (headT inn).2.2.2.2.2.1 (headT inn).2.2.2.2.2.2.1 (headT inn).2.2.2.2.2.2.2.1 (headT inn).2.2.2.2.2.2.2.2.1 (headT inn).2.2.2.2.2.2.2.2.2.1) = true → (may_S0 masked state inn hf hr ho hm k0 k1 k2 k3 hl hlst told (headT inn).1 (headT inn).2.1 (headT inn).2.2.1 (headT inn).2.2.2.1 (headT inn).2.2.2.2.1 (headT inn).2.2.2.2.2.1 (headT inn).2.2.2.2.2.2.1 (headT inn).2.2.2.2.2.2.2.1 (headT inn).2.2.2.2.2.2.2.2.1 (headT inn).2.2.2.2.2.2.2.2.2.1) ∧ (headc_pre inn)) ∧
    ((!may_t0 masked state inn hf hr ho hm k0 k1 k2 k3 hl hlst told (headT inn).1 (headT inn).2.1 (headT inn).2.2.1 (headT inn).2.2.2.1 (headT inn).2.2.2.2.1 (headT inn).2.2.2.2.2.1 (headT inn).2.2.2.2.2.2.1 (headT inn).2.2.2.2.2.2.2.1 (headT inn).2.2.2.2.2.2.2.2.1 (headT inn).2.2.2.2.2.2.2.2.2.1) = false → ((toL (sub inn (headT inn).2.2.2.2.2.2.2.2.2.2.1.toNat (slen inn)) == toL (sub inn (headT inn).2.2.2.2.2.2.2.2.2.2.1.toNat (slen inn))) = true) ∧ ((headT inn).2.2.2.2.2.2.2.2.2.2.1.toNat ≤ slen inn) ∧ (0 ≤ (headT inn).2.2.2.2.2.2.2.2.2.2.1) ∧ (((headT inn).1 == (headT inn).1) = true) ∧ (((headT inn).2.2.2.1 == (headT inn).2.2.2.1) = true) ∧ (((headT inn).2.2.2.2.2.2.2.2.2.1 == (headT inn).2.2.2.2.2.2.2.2.2.1) = true) ∧ (may_S0 masked state inn hf hr ho hm k0 k1 k2 k3 hl hlst told (headT inn).1 (headT inn).2.1 (headT inn).2.2.1 (headT inn).2.2.2.1 (headT inn).2.2.2.2.1 (headT inn).2.2.2.2.2.1 (headT inn).2.2.2.2.2.2.1 (headT inn).2.2.2.2.2.2.2.1 (headT inn).2.2.2.2.2.2.2.2.1 (headT inn).2.2.2.2.2.2.2.2.2.1) ∧ (headc_pre inn)))) ∧
  ((state == 0) = false → ((IntKind.i64.wrap (IntKind.i64.wrap hl - told) == 0) = true → True) ∧
   ((IntKind.i64.wrap (IntKind.i64.wrap hl - told) == 0) = false → (((bif decide (((slen inn) : Int) < IntKind.i64.wrap (IntKind.i64.wrap hl - told)) then ((slen inn) : Int) else IntKind.i64.wrap (IntKind.i64.wrap hl - told)) == 0) = true → True) ∧
    (((bif decide (((slen inn) : Int) < IntKind.i64.wrap (IntKind.i64.wrap hl - told)) then ((slen inn) : Int) else IntKind.i64.wrap (IntKind.i64.wrap hl - told)) == 0) = false → ((bif decide (((slen inn) : Int) < IntKind.i64.wrap (IntKind.i64.wrap hl - told)) then ((slen inn) : Int) else IntKind.i64.wrap (IntKind.i64.wrap hl - told)).toNat ≤ slen inn) ∧ (0 ≤ bif decide (((slen inn) : Int) < IntKind.i64.wrap (IntKind.i64.wrap hl - told)) then ((slen inn) : Int) else IntKind.i64.wrap (IntKind.i64.wrap hl - told)) ∧ (mask_pre k0 k1 k2 k3 told (sub inn 0 (bif decide (((slen inn) : Int) < IntKind.i64.wrap (IntKind.i64.wrap hl - told)) then ((slen inn) : Int) else IntKind.i64.wrap (IntKind.i64.wrap hl - told)).toNat)) ∧ ((bif decide (((slen inn) : Int) < IntKind.i64.wrap (IntKind.i64.wrap hl - told)) then ((slen inn) : Int) else IntKind.i64.wrap (IntKind.i64.wrap hl - told)) ≤ ((slen inn) : Int))))))
theorem rstep_ok0 (masked : Bool) (state : Int) (inn : ByteArray) (hf : Bool) (hr ho : Int) (hm : Bool) (k0 k1 : Int) (k2 k3 hl : Int) (hlst : Bool) (told : Int) (hS : rstep_S0 masked state inn hf hr ho hm k0 k1 k2 k3 hl hlst told) : rstep_Q masked state inn hf hr ho hm k0 k1 k2 k3 hl hlst told (startC E 56 ([.pointer (some ⟨0, 0, none⟩)]) ([some (.cells [.bool masked, .int .i64 state, .string inn, .bool hf, .int .i64 hr, .int .i64 ho, .bool hm, .int .u8 k0, .int .u8 k1, .int .u8 k2, .int .u8 k3, .int .u64 hl, .bool hlst, .int .i64 told] 117 none)])) (rstep_t0 masked state inn hf hr ho hm k0 k1 k2 k3 hl hlst told) := by
 unfold rstep_S0 at hS
 unfold rstep_t0
 refine cond_intro (P := rstep_Q masked state inn hf hr ho hm k0 k1 k2 k3 hl hlst told (startC E 56 ([.pointer (some ⟨0, 0, none⟩)]) ([some (.cells [.bool masked, .int .i64 state, .string inn, .bool hf, .int .i64 hr, .int .i64 ho, .bool hm, .int .u8 k0, .int .u8 k1, .int .u8 k2, .int .u8 k3, .int .u64 hl, .bool hlst, .int .i64 told] 117 none)]))) _ (fun h1 => ?_) (fun h1 => ?_)
 ·skip
  exact ends_q KFa2_ok 2000 27 (bs 2 2) [0, 1] [2, 3] [0] (andI (dT h1) rfl)
 ·skip
  refine cond_intro (P := rstep_Q masked state inn hf hr ho hm k0 k1 k2 k3 hl hlst told (startC E 56 ([.pointer (some ⟨0, 0, none⟩)]) ([some (.cells [.bool masked, .int .i64 state, .string inn, .bool hf, .int .i64 hr, .int .i64 ho, .bool hm, .int .u8 k0, .int .u8 k1, .int .u8 k2, .int .u8 k3, .int .u64 hl, .bool hlst, .int .i64 told] 117 none)]))) _ (fun h2 => ?_) (fun h2 => ?_)
  ·skip
   refine cond_intro (P := rstep_Q masked state inn hf hr ho hm k0 k1 k2 k3 hl hlst told (startC E 56 ([.pointer (some ⟨0, 0, none⟩)]) ([some (.cells [.bool masked, .int .i64 state, .string inn, .bool hf, .int .i64 hr, .int .i64 ho, .bool hm, .int .u8 k0, .int .u8 k1, .int .u8 k2, .int .u8 k3, .int .u64 hl, .bool hlst, .int .i64 told] 117 none)]))) _ (fun h3 => ?_) (fun h3 => ?_)
   ·skip
    exact ends_q KFa2_ok 2000 75 (bs 4 12) [0, 1] [2, 3] [0] (and4 (dT h3) (pdec_iff.2 (((hS.2 h1).1 h2).1 h3)) (dT h2) (dF h1) rfl)
   ·skip
    refine cond_intro (P := rstep_Q masked state inn hf hr ho hm k0 k1 k2 k3 hl hlst told (startC E 56 ([.pointer (some ⟨0, 0, none⟩)]) ([some (.cells [.bool masked, .int .i64 state, .string inn, .bool hf, .int .i64 hr, .int .i64 ho, .bool hm, .int .u8 k0, .int .u8 k1, .int .u8 k2, .int .u8 k3, .int .u64 hl, .bool hlst, .int .i64 told] 117 none)]))) _ (fun h4 => ?_) (fun h4 => ?_)
    ·skip
     have z0 := (((hS.2 h1).1 h2).2 h3).1 h4; exact ends_q KFa2_ok 2000 96 (bs 5 20) [0, 1] [2, 3] [0] (andI (dT h4) (andI (pdec_iff.2 z0.1) (and4 (dF h3) (pdec_iff.2 z0.2) (dT h2) (dF h1) rfl)))
    ·skip
     have z0 := (((hS.2 h1).1 h2).2 h3).2 h4; exact ends_q KFa2_ok 2000 95 (bs 5 4) [0, 1] [2, 3] [0] (and8 (beq_self_eq_true ((headT inn).2.2.2.2.2.2.2.2.2.2.1)) (z0.1) (decide_eq_true z0.2.1) (decide_eq_true z0.2.2.1) (z0.2.2.2.1) (beq_self_eq_true ((headT inn).2.1)) (beq_self_eq_true ((headT inn).2.2.1)) (z0.2.2.2.2.1) (and8 (beq_self_eq_true ((headT inn).2.2.2.2.1)) (beq_self_eq_true ((headT inn).2.2.2.2.2.1)) (beq_self_eq_true ((headT inn).2.2.2.2.2.2.1)) (beq_self_eq_true ((headT inn).2.2.2.2.2.2.2.1)) (beq_self_eq_true ((headT inn).2.2.2.2.2.2.2.2.1)) (z0.2.2.2.2.2.1) (z0.2.2.2.1) (beq_self_eq_true ((headT inn).2.1)) (and8 (beq_self_eq_true ((headT inn).2.2.1)) (z0.2.2.2.2.1) (beq_self_eq_true ((headT inn).2.2.2.2.1)) (beq_self_eq_true ((headT inn).2.2.2.2.2.1)) (beq_self_eq_true ((headT inn).2.2.2.2.2.2.1)) (beq_self_eq_true ((headT inn).2.2.2.2.2.2.2.1)) (beq_self_eq_true ((headT inn).2.2.2.2.2.2.2.2.1)) (z0.2.2.2.2.2.1) (and8 (decide_eq_true z0.2.1) (decide_eq_true z0.2.2.1) (dF h4) (pdec_iff.2 z0.2.2.2.2.2.2.1) (dF h3) (pdec_iff.2 z0.2.2.2.2.2.2.2) (dT h2) (dF h1) rfl))))
  ·skip
   refine cond_intro (P := rstep_Q masked state inn hf hr ho hm k0 k1 k2 k3 hl hlst told (startC E 56 ([.pointer (some ⟨0, 0, none⟩)]) ([some (.cells [.bool masked, .int .i64 state, .string inn, .bool hf, .int .i64 hr, .int .i64 ho, .bool hm, .int .u8 k0, .int .u8 k1, .int .u8 k2, .int .u8 k3, .int .u64 hl, .bool hlst, .int .i64 told] 117 none)]))) _ (fun h3 => ?_) (fun h3 => ?_)
   ·skip
    exact ends_q KFa2_ok 2000 70 (bs 4 8) [0, 1] [2, 3] [0] (andI (dT h3) (andI (dF h2) (andI (dF h1) rfl)))
   ·skip
    refine cond_intro (P := rstep_Q masked state inn hf hr ho hm k0 k1 k2 k3 hl hlst told (startC E 56 ([.pointer (some ⟨0, 0, none⟩)]) ([some (.cells [.bool masked, .int .i64 state, .string inn, .bool hf, .int .i64 hr, .int .i64 ho, .bool hm, .int .u8 k0, .int .u8 k1, .int .u8 k2, .int .u8 k3, .int .u64 hl, .bool hlst, .int .i64 told] 117 none)]))) _ (fun h4 => ?_) (fun h4 => ?_)
    ·skip
     exact ends_q KFa2_ok 2000 82 (bs 5 16) [0, 1] [2, 3] [0] (and4 (dT h4) (dF h3) (dF h2) (dF h1) rfl)
    ·skip
     have z0 := (((hS.2 h1).2 h2).2 h3).2 h4; exact ends_q (ok := and ((bif decide (((slen inn) : Int) < IntKind.i64.wrap (IntKind.i64.wrap hl - told)) then ((slen inn) : Int) else IntKind.i64.wrap (IntKind.i64.wrap hl - told)) == bif decide (((slen inn) : Int) < IntKind.i64.wrap (IntKind.i64.wrap hl - told)) then ((slen inn) : Int) else IntKind.i64.wrap (IntKind.i64.wrap hl - told)) (and (IntKind.i64.wrap (told + bif decide (((slen inn) : Int) < IntKind.i64.wrap (IntKind.i64.wrap hl - told)) then ((slen inn) : Int) else IntKind.i64.wrap (IntKind.i64.wrap hl - told)) == IntKind.i64.wrap (told + bif decide (((slen inn) : Int) < IntKind.i64.wrap (IntKind.i64.wrap hl - told)) then ((slen inn) : Int) else IntKind.i64.wrap (IntKind.i64.wrap hl - told))) (and (decide ((bif decide (((slen inn) : Int) < IntKind.i64.wrap (IntKind.i64.wrap hl - told)) then ((slen inn) : Int) else IntKind.i64.wrap (IntKind.i64.wrap hl - told)).toNat ≤ slen inn)) (and (decide (0 ≤ bif decide (((slen inn) : Int) < IntKind.i64.wrap (IntKind.i64.wrap hl - told)) then ((slen inn) : Int) else IntKind.i64.wrap (IntKind.i64.wrap hl - told))) (and (pdec (mask_pre k0 k1 k2 k3 told (sub inn 0 (bif decide (((slen inn) : Int) < IntKind.i64.wrap (IntKind.i64.wrap hl - told)) then ((slen inn) : Int) else IntKind.i64.wrap (IntKind.i64.wrap hl - told)).toNat))) (and (decide (0 ≤ bif decide (((slen inn) : Int) < IntKind.i64.wrap (IntKind.i64.wrap hl - told)) then ((slen inn) : Int) else IntKind.i64.wrap (IntKind.i64.wrap hl - told))) (and (decide ((bif decide (((slen inn) : Int) < IntKind.i64.wrap (IntKind.i64.wrap hl - told)) then ((slen inn) : Int) else IntKind.i64.wrap (IntKind.i64.wrap hl - told)) ≤ ((slen inn) : Int))) (and (((bif decide (((slen inn) : Int) < IntKind.i64.wrap (IntKind.i64.wrap hl - told)) then ((slen inn) : Int) else IntKind.i64.wrap (IntKind.i64.wrap hl - told)) == 0) == false) (and ((IntKind.i64.wrap (IntKind.i64.wrap hl - told) == 0) == false) (and ((state == 0) == false) (and ((state == 2) == false) (true)))))))))))) KFa2_ok 2000 88 (bs 5 0) [0, 1] [2, 3] [0] (and8 (beq_self_eq_true _) (beq_self_eq_true (IntKind.i64.wrap (told + bif decide (((slen inn) : Int) < IntKind.i64.wrap (IntKind.i64.wrap hl - told)) then ((slen inn) : Int) else IntKind.i64.wrap (IntKind.i64.wrap hl - told)))) (decide_eq_true z0.1) (decide_eq_true z0.2.1) (pdec_iff.2 z0.2.2.1) (decide_eq_true z0.2.1) (decide_eq_true z0.2.2.2) (dF h4) (andI (dF h3) (andI (dF h2) (andI (dF h1) rfl))))
theorem rstep_call (masked : Bool) (state : Int) (inn : ByteArray) (hf : Bool) (hr ho : Int) (hm : Bool) (k0 k1 : Int) (k2 k3 hl : Int) (hlst : Bool) (told : Int) (hS : rstep_S0 masked state inn hf hr ho hm k0 k1 k2 k3 hl hlst told) : CallOk E 56 ([.pointer (some ⟨0, 0, none⟩)]) ([some (.cells [.bool masked, .int .i64 state, .string inn, .bool hf, .int .i64 hr, .int .i64 ho, .bool hm, .int .u8 k0, .int .u8 k1, .int .u8 k2, .int .u8 k3, .int .u64 hl, .bool hlst, .int .i64 told] 117 none)]) (rstep_V masked state inn hf hr ho hm k0 k1 k2 k3 hl hlst told (rstep_t0 masked state inn hf hr ho hm k0 k1 k2 k3 hl hlst told)) (rstep_H masked state inn hf hr ho hm k0 k1 k2 k3 hl hlst told (rstep_t0 masked state inn hf hr ho hm k0 k1 k2 k3 hl hlst told)) := callOk_of_ends (rstep_ok0 masked state inn hf hr ho hm k0 k1 k2 k3 hl hlst told hS) (by kernel_rfl) (Nat.le_of_ble_eq_true (by kernel_rfl))
def rstep_ex (a : List Value) (h : Heap) : Bool × Int × ByteArray × Bool × Int × Int × Bool × Int × Int × Int × Int × Int × Bool × Int := ((toBool ((cellsOf h 0).getD 0 undef)), (toInt ((cellsOf h 0).getD 1 undef)), (toStr ((cellsOf h 0).getD 2 undef)), (toBool ((cellsOf h 0).getD 3 undef)), (toInt ((cellsOf h 0).getD 4 undef)), (toInt ((cellsOf h 0).getD 5 undef)), (toBool ((cellsOf h 0).getD 6 undef)), (toInt ((cellsOf h 0).getD 7 undef)), (toInt ((cellsOf h 0).getD 8 undef)), (toInt ((cellsOf h 0).getD 9 undef)), (toInt ((cellsOf h 0).getD 10 undef)), (toInt ((cellsOf h 0).getD 11 undef)), (toBool ((cellsOf h 0).getD 12 undef)), (toInt ((cellsOf h 0).getD 13 undef)))
noncomputable def rstep_k : Ct := kS rstep_ex [.ptr 0 0] [.cells [.bool, .int .i64, .str, .bool, .int .i64, .int .i64, .bool, .int .u8, .int .u8, .int .u8, .int .u8, .int .u64, .bool, .int .i64] 117 none] (fun (a0, a1, a2, a3, a4, a5, a6, a7, a8, a9, a10, a11, a12, a13) => rstep_S0 a0 a1 a2 a3 a4 a5 a6 a7 a8 a9 a10 a11 a12 a13) (fun (a0, a1, a2, a3, a4, a5, a6, a7, a8, a9, a10, a11, a12, a13) => rstep_V a0 a1 a2 a3 a4 a5 a6 a7 a8 a9 a10 a11 a12 a13 (rstep_t0 a0 a1 a2 a3 a4 a5 a6 a7 a8 a9 a10 a11 a12 a13)) (fun (a0, a1, a2, a3, a4, a5, a6, a7, a8, a9, a10, a11, a12, a13) => rstep_H a0 a1 a2 a3 a4 a5 a6 a7 a8 a9 a10 a11 a12 a13 (rstep_t0 a0 a1 a2 a3 a4 a5 a6 a7 a8 a9 a10 a11 a12 a13))
theorem rstep_k_ok : KFor E 56 rstep_k := kS_ok (fun x hx => rstep_call (x.1) (x.2.1) (x.2.2.1) (x.2.2.2.1) (x.2.2.2.2.1) (x.2.2.2.2.2.1) (x.2.2.2.2.2.2.1) (x.2.2.2.2.2.2.2.1) (x.2.2.2.2.2.2.2.2.1) (x.2.2.2.2.2.2.2.2.2.1) (x.2.2.2.2.2.2.2.2.2.2.1) (x.2.2.2.2.2.2.2.2.2.2.2.1) (x.2.2.2.2.2.2.2.2.2.2.2.2.1) (x.2.2.2.2.2.2.2.2.2.2.2.2.2) hx) (fun _ _ => rfl) (fun _ _ => rfl)


end Go.Proofs.Ytfpnjpbdaniomaa

/-
  Plain laws of a reader's step.
-/
set_option linter.unusedVariables false
set_option linter.unusedSimpArgs false
open Go Go.Am
namespace Go.Proofs.Ytfpnjpbdaniomaa

theorem hN_bd (s : ByteArray) : 2 ≤ hN s ∧ hN s ≤ 14 := by
 unfold hN wd
 repeat' split
 all_goals omega
theorem hLen_bd (s : ByteArray) : 0 ≤ hLen s ∧ hLen s ≤ 18446744073709551615 := by
 have b2 := big2_bd s
 have b8 := big8_bd s
 have c := chr_bd s 1
 unfold hLen
 repeat' split
 all_goals omega
theorem hOk_le {s : ByteArray} (h : hOk s = true) : hN s ≤ slen s := by
 unfold hOk at h
 simp at h
 exact h.2
noncomputable def opD (n : Int) : Bool := decide (n = 0 ∨ n = 1 ∨ n = 2 ∨ n = 8 ∨ n = 9 ∨ n = 10)
theorem op_val (n : Int) : op_t0 n = opD n := by
 unfold op_t0 opD
 by_cases h0 : n = 0
 ·simp [h0]
 by_cases h1 : n = 1
 ·simp [h1]
 by_cases h2 : n = 2
 ·simp [h2]
 by_cases h3 : n = 8
 ·simp [h3]
 by_cases h4 : n = 9
 ·simp [h4]
 by_cases h5 : n = 10
 ·simp [h5]
 have e0 : (n == 0) = false := by simpa using h0
 have e1 : (n == 1) = false := by simpa using h1
 have e2 : (n == 2) = false := by simpa using h2
 have e3 : (n == 8) = false := by simpa using h3
 have e4 : (n == 9) = false := by simpa using h4
 have e5 : (n == 10) = false := by simpa using h5
 rw [e0, e1, e2, e3, e4, e5]
 simp [h0, h1, h2, h3, h4, h5]
noncomputable def mayD (masked ff : Bool) (fr fo : Int) (fm : Bool) (fl : Int) (flst : Bool) : Bool :=
 decide (fr = 0) && (opD fo && ((fm == masked) && ((decide (fo < 8) || (ff && decide (fl ≤ 125))) && (flst && decide (fl ≤ 9223372036854775807)))))
theorem may_val (masked : Bool) (state : Int) (inn : ByteArray) (hf : Bool) (hr ho : Int) (hm : Bool) (k0 k1 k2 k3 hl : Int) (hlst : Bool) (told : Int) (ff : Bool) (fr fo : Int) (fm : Bool) (f0 f1 f2 f3 fl : Int) (flst : Bool) :
  may_t0 masked state inn hf hr ho hm k0 k1 k2 k3 hl hlst told ff fr fo fm f0 f1 f2 f3 fl flst = mayD masked ff fr fo fm fl flst := by
 unfold may_t0 mayD
 have e0 : (fr == 0) = decide (fr = 0) := by by_cases h : fr = 0 <;> simp [h]
 simp only [op_val, e0]
 generalize decide (fr = 0) = a
 generalize opD fo = b
 generalize (fm == masked) = c
 generalize decide (fo < 8) = d
 generalize decide (fl ≤ 125) = e
 generalize decide (fl ≤ 9223372036854775807) = f
 cases a <;> cases b <;> cases c <;> cases d <;> cases e <;> cases f <;> cases ff <;> cases flst <;> rfl
noncomputable def mayS (masked : Bool) (s : ByteArray) : Bool := mayD masked (decide (128 ≤ chr s 0)) (chr s 0 / 16 % 8) (chr s 0 % 16) (hMask s) (hLen s) (hLeast s)

abbrev RX : Type := Int × ByteArray × Bool × Int × Int × Bool × Int × Int × Int × Int × Int × Bool × Int
noncomputable def xSt (x : RX) : Int := x.1
noncomputable def xIn (x : RX) : ByteArray := x.2.1
noncomputable def xHl (x : RX) : Int := x.2.2.2.2.2.2.2.2.2.2.1
noncomputable def xTold (x : RX) : Int := x.2.2.2.2.2.2.2.2.2.2.2.2
noncomputable def xKey (x : RX) : List Int := [x.2.2.2.2.2.2.1, x.2.2.2.2.2.2.2.1, x.2.2.2.2.2.2.2.2.1, x.2.2.2.2.2.2.2.2.2.1]
noncomputable def xSet (x : RX) (st : Int) (inn : ByteArray) (told : Int) : RX := (st, inn, x.2.2.1, x.2.2.2.1, x.2.2.2.2.1, x.2.2.2.2.2.1, x.2.2.2.2.2.2.1, x.2.2.2.2.2.2.2.1, x.2.2.2.2.2.2.2.2.1, x.2.2.2.2.2.2.2.2.2.1, x.2.2.2.2.2.2.2.2.2.2.1, x.2.2.2.2.2.2.2.2.2.2.2.1, told)
noncomputable def stp (m : Bool) (x : RX) : rstep_R := rstep_t0 m x.1 x.2.1 x.2.2.1 x.2.2.2.1 x.2.2.2.2.1 x.2.2.2.2.2.1 x.2.2.2.2.2.2.1 x.2.2.2.2.2.2.2.1 x.2.2.2.2.2.2.2.2.1 x.2.2.2.2.2.2.2.2.2.1 x.2.2.2.2.2.2.2.2.2.2.1 x.2.2.2.2.2.2.2.2.2.2.2.1 x.2.2.2.2.2.2.2.2.2.2.2.2
def stS (m : Bool) (x : RX) : Prop := rstep_S0 m x.1 x.2.1 x.2.2.1 x.2.2.2.1 x.2.2.2.2.1 x.2.2.2.2.2.1 x.2.2.2.2.2.2.1 x.2.2.2.2.2.2.2.1 x.2.2.2.2.2.2.2.2.1 x.2.2.2.2.2.2.2.2.2.1 x.2.2.2.2.2.2.2.2.2.2.1 x.2.2.2.2.2.2.2.2.2.2.2.1 x.2.2.2.2.2.2.2.2.2.2.2.2
noncomputable def rx (r : rstep_R) : RX := r.2.2.2.2.2.2
noncomputable def rOk (r : rstep_R) : Bool := r.2.2.2.2.2.1
noncomputable def mkR (k o : Int) (f : Bool) (l : Int) (t : ByteArray) (ok : Bool) (x : RX) : rstep_R := (k, o, f, l, t, ok, x)
noncomputable def xHead (s : ByteArray) : RX := (1, sub s (hN s).toNat (slen s), decide (128 ≤ chr s 0), chr s 0 / 16 % 8, chr s 0 % 16, hMask s, hKey s 0, hKey s 1, hKey s 2, hKey s 3, hLen s, hLeast s, 0)
noncomputable def nOf (x : RX) : Nat := min (slen (xIn x)) (xHl x - xTold x).toNat
noncomputable def stepT (m : Bool) (x : RX) : rstep_R :=
 if xSt x = 2 then mkR 0 0 false 0 ⟨#[]⟩ false x
 else if xSt x = 0 then
  bif !hOk (xIn x) then mkR 0 0 false 0 ⟨#[]⟩ false x
  else bif !mayS m (xIn x) then mkR 4 0 false 0 ⟨#[]⟩ true (xSet x 2 ⟨#[]⟩ (xTold x))
  else mkR 1 (chr (xIn x) 0 % 16) (decide (128 ≤ chr (xIn x) 0)) (hLen (xIn x)) ⟨#[]⟩ true (xHead (xIn x))
 else if xHl x = xTold x then mkR 3 0 false 0 ⟨#[]⟩ true (xSet x 0 (xIn x) (xTold x))
 else if slen (xIn x) = 0 then mkR 0 0 false 0 ⟨#[]⟩ false x
 else mkR 2 0 false 0 (maskD (xKey x) (xTold x) (sub (xIn x) 0 (nOf x))) true (xSet x (xSt x) (sub (xIn x) (nOf x) (slen (xIn x))) (xTold x + nOf x))
structure Inv (x : RX) : Prop where
 st : xSt x = 2 ∨ xSt x = 0 ∨ (xSt x = 1 ∧ 0 ≤ xTold x ∧ xTold x ≤ xHl x ∧ xHl x ≤ 9223372036854775807)
 len : slen (xIn x) ≤ 1000000
theorem mayS_len {m : Bool} {s : ByteArray} (h : mayS m s = true) : hLen s ≤ 9223372036854775807 := by
 unfold mayS mayD at h
 simp at h
 exact h.2.2.2.2.2
theorem may_safe (masked : Bool) (state : Int) (inn : ByteArray) (hf : Bool) (hr ho : Int) (hm : Bool) (k0 k1 k2 k3 hl : Int) (hlst : Bool) (told : Int) (ff : Bool) (fr fo : Int) (fm : Bool) (f0 f1 f2 f3 fl : Int) (flst : Bool) :
  may_S0 masked state inn hf hr ho hm k0 k1 k2 k3 hl hlst told ff fr fo fm f0 f1 f2 f3 fl flst := by
 unfold may_S0 op_S0
 simp
theorem stepT_2 {m : Bool} {x : RX} (h : xSt x = 2) : stepT m x = mkR 0 0 false 0 ⟨#[]⟩ false x := by unfold stepT; rw [if_pos h]
theorem stepT_0 {m : Bool} {x : RX} (h : xSt x = 0) : stepT m x = (bif !hOk (xIn x) then mkR 0 0 false 0 ⟨#[]⟩ false x
  else bif !mayS m (xIn x) then mkR 4 0 false 0 ⟨#[]⟩ true (xSet x 2 ⟨#[]⟩ (xTold x))
  else mkR 1 (chr (xIn x) 0 % 16) (decide (128 ≤ chr (xIn x) 0)) (hLen (xIn x)) ⟨#[]⟩ true (xHead (xIn x))) := by unfold stepT; rw [if_neg (by omega), if_pos h]
theorem stepT_e {m : Bool} {x : RX} (h : xSt x = 1) (h1 : xHl x = xTold x) : stepT m x = mkR 3 0 false 0 ⟨#[]⟩ true (xSet x 0 (xIn x) (xTold x)) := by
 unfold stepT; rw [if_neg (by omega), if_neg (by omega), if_pos h1]
theorem stepT_n {m : Bool} {x : RX} (h : xSt x = 1) (h1 : ¬ xHl x = xTold x) (h2 : slen (xIn x) = 0) : stepT m x = mkR 0 0 false 0 ⟨#[]⟩ false x := by
 unfold stepT; rw [if_neg (by omega), if_neg (by omega), if_neg h1, if_pos h2]
theorem stepT_p {m : Bool} {x : RX} (h : xSt x = 1) (h1 : ¬ xHl x = xTold x) (h2 : ¬ slen (xIn x) = 0) : stepT m x = mkR 2 0 false 0 (maskD (xKey x) (xTold x) (sub (xIn x) 0 (nOf x))) true (xSet x (xSt x) (sub (xIn x) (nOf x) (slen (xIn x))) (xTold x + nOf x)) := by
 unfold stepT; rw [if_neg (by omega), if_neg (by omega), if_neg h1, if_neg h2]
theorem step_val (m : Bool) (x : RX) (h : Inv x) : stS m x ∧ stp m x = stepT m x := by
 obtain ⟨h1, h2⟩ := h
 rcases h1 with h1 | h1 | ⟨h1, t0, t1, t2⟩
 ·rw [stepT_2 h1]
  obtain ⟨st, inn, hf, hr, ho, hm, k0, k1, k2, k3, hl, hlst, told⟩ := x
  have h1 : st = 2 := h1
  subst h1
  unfold stS stp rstep_S0 rstep_t0
  simp [mkR]
 ·rw [stepT_0 h1]
  obtain ⟨st, inn, hf, hr, ho, hm, k0, k1, k2, k3, hl, hlst, told⟩ := x
  have h1 : st = 0 := h1
  subst h1
  have hc : headc_pre inn := trivial
  have h2 : slen inn ≤ 1000000 := h2
  have n1 := hN_bd inn
  have n2 := hLen_bd inn
  show _ ∧ _ = (bif !hOk inn then _ else bif !mayS m inn then _ else _)
  unfold stS stp rstep_S0 rstep_t0
  simp only [may_val]
  cases ho : hOk inn with
  | false =>
   have e : headT inn = (false, 0, 0, false, 0, 0, 0, 0, 0, false, 0, false) := by unfold headT; rw [ho]; rfl
   simp [e, hc, mkR]
  | true =>
   have n3 := hOk_le ho
   have e : headT inn = (decide (128 ≤ chr inn 0), chr inn 0 / 16 % 8, chr inn 0 % 16, hMask inn, hKey inn 0, hKey inn 1, hKey inn 2, hKey inn 3, hLen inn, hLeast inn, hN inn, true) := by unfold headT; rw [ho]; rfl
   rw [e]
   dsimp only
   rw [show mayD m (decide (128 ≤ chr inn 0)) (chr inn 0 / 16 % 8) (chr inn 0 % 16) (hMask inn) (hLen inn) (hLeast inn) = mayS m inn from rfl]
   cases hmm : mayS m inn with
   | false => simp [hc, mkR, xSet, may_safe, xTold]
   | true =>
    have := mayS_len hmm
    rw [wrap64_in (x := hLen inn) (by omega) (by omega)]
    refine ⟨?_, rfl⟩
    simp [hc, may_safe]
    omega
 ·obtain ⟨st, inn, hf, hr, ho, hm, k0, k1, k2, k3, hl, hlst, told⟩ := x
  have h1 : st = 1 := h1
  subst h1
  have h2 : slen inn ≤ 1000000 := h2
  have t0 : 0 ≤ told := t0
  have t1 : told ≤ hl := t1
  have t2 : hl ≤ 9223372036854775807 := t2
  have e1 : IntKind.i64.wrap hl = hl := wrap64_in (by omega) (by omega)
  have e2 : IntKind.i64.wrap (hl - told) = hl - told := wrap64_in (by omega) (by omega)
  have e3 : (bif decide ((slen inn : Int) < hl - told) then (slen inn : Int) else hl - told) = ((min (slen inn) (hl - told).toNat : Nat) : Int) := by
   by_cases c : (slen inn : Int) < hl - told
   ·rw [decide_eq_true c, cond_true]; omega
   ·rw [decide_eq_false c, cond_false]; omega
  by_cases c1 : hl = told
  ·rw [stepT_e (x := (1, inn, hf, hr, ho, hm, k0, k1, k2, k3, hl, hlst, told)) rfl c1]
   have : ((hl - told) == 0) = true := by simp; omega
   unfold stS stp rstep_S0 rstep_t0
   simp only [may_val, e1, e2, this]
   simp [mkR, xSet, xIn, xTold]
  ·have d1 : ((hl - told) == 0) = false := by simp; omega
   by_cases c2 : slen inn = 0
   ·rw [stepT_n (x := (1, inn, hf, hr, ho, hm, k0, k1, k2, k3, hl, hlst, told)) rfl c1 c2]
    have : ((((min (slen inn) (hl - told).toNat : Nat) : Int)) == 0) = true := by simp; omega
    unfold stS stp rstep_S0 rstep_t0
    simp only [may_val, e1, e2, e3, d1, this]
    simp [mkR]
   ·rw [stepT_p (x := (1, inn, hf, hr, ho, hm, k0, k1, k2, k3, hl, hlst, told)) rfl c1 c2]
    have d2 : ((((min (slen inn) (hl - told).toNat : Nat) : Int)) == 0) = false := by simp; omega
    have p : mask_pre k0 k1 k2 k3 told (sub inn 0 (min (slen inn) (hl - told).toNat)) := by
     unfold mask_pre; rw [slen_sub]; omega
    have w : IntKind.i64.wrap (told + ((min (slen inn) (hl - told).toNat : Nat) : Int)) = told + ((min (slen inn) (hl - told).toNat : Nat) : Int) := wrap64_in (by omega) (by omega)
    unfold stS stp rstep_S0 rstep_t0
    simp only [may_val, e1, e2, e3, d1, d2, w, Int.toNat_natCast]
    refine ⟨?_, rfl⟩
    simp [p]
    omega
noncomputable def mu (x : RX) : Nat := 3 * slen (xIn x) + (if xSt x = 1 then 2 else 0)
theorem step_inv {m : Bool} {x : RX} (h : Inv x) (hok : rOk (stepT m x) = true) : Inv (rx (stepT m x)) ∧ mu (rx (stepT m x)) < mu x := by
 obtain ⟨h1, h2⟩ := h
 rcases h1 with h1 | h1 | ⟨h1, t0, t1, t2⟩
 ·rw [stepT_2 h1] at hok; cases hok
 ·rw [stepT_0 h1] at hok ⊢
  cases ho : hOk (xIn x) with
  | false => rw [ho] at hok; cases hok
  | true =>
   have n1 := hN_bd (xIn x)
   have n2 := hLen_bd (xIn x)
   have n3 := hOk_le ho
   cases hmm : mayS m (xIn x) with
   | false =>
    refine ⟨⟨.inl rfl, by show 0 ≤ 1000000; omega⟩, ?_⟩
    unfold mu
    show 3 * 0 + 0 < _
    omega
   | true =>
    have n4 := mayS_len hmm
    have e : slen (sub (xIn x) (hN (xIn x)).toNat (slen (xIn x))) = slen (xIn x) - (hN (xIn x)).toNat := by rw [slen_sub]; omega
    refine ⟨⟨.inr (.inr ⟨rfl, by show (0 : Int) ≤ 0; omega, by show 0 ≤ hLen (xIn x); omega, n4⟩), by show slen (sub (xIn x) (hN (xIn x)).toNat (slen (xIn x))) ≤ _; omega⟩, ?_⟩
    unfold mu
    show 3 * slen (sub (xIn x) (hN (xIn x)).toNat (slen (xIn x))) + 2 < _
    rw [e, if_neg (by omega)]
    omega
 ·by_cases c1 : xHl x = xTold x
  ·rw [stepT_e h1 c1]
   refine ⟨⟨.inr (.inl rfl), h2⟩, ?_⟩
   unfold mu
   rw [if_pos h1]
   show 3 * slen (xIn x) + 0 < _
   omega
  ·by_cases c2 : slen (xIn x) = 0
   ·rw [stepT_n h1 c1 c2] at hok; cases hok
   ·rw [stepT_p h1 c1 c2]
    have hn : 1 ≤ nOf x ∧ nOf x ≤ slen (xIn x) ∧ (nOf x : Int) ≤ xHl x - xTold x := by unfold nOf; omega
    have e : slen (sub (xIn x) (nOf x) (slen (xIn x))) = slen (xIn x) - nOf x := by rw [slen_sub]; omega
    refine ⟨⟨.inr (.inr ⟨h1, by show 0 ≤ xTold x + nOf x; omega, by show xTold x + nOf x ≤ xHl x; omega, t2⟩), by show slen (sub (xIn x) (nOf x) (slen (xIn x))) ≤ _; omega⟩, ?_⟩
    unfold mu
    rw [if_pos h1]
    show 3 * slen (sub (xIn x) (nOf x) (slen (xIn x))) + (if xSt x = 1 then 2 else 0) < _
    rw [e, if_pos h1]
    omega
end Go.Proofs.Ytfpnjpbdaniomaa

/-
  A reader of frames as one packed block: Feed, Next, New.
-/
set_option linter.unusedVariables false
set_option linter.unusedSimpArgs false
set_option maxRecDepth 10000
open Go Go.Am
namespace Go.Proofs.Ytfpnjpbdaniomaa

noncomputable def KB0 : Ctr := ctrOf E [(56, ptrA, rstep_k)]
theorem KB0_ok : KOk E KB0 := ctr_cons rstep_k_ok ctr_nil

abbrev rnext_R : Type := Int × Int × Bool × Int × ByteArray × Bool
noncomputable def rnext_V (masked : Bool) (state : Int) (inn : ByteArray) (hf : Bool) (hr ho : Int) (hm : Bool) (k0 k1 : Int) (k2 k3 hl : Int) (hlst : Bool) (told : Int) (r : Int × Int × Bool × Int × ByteArray × Bool) : Value := .tuple #[.agg #[.int .i64 r.1, .int .i64 r.2.1, .bool r.2.2.1, .int .i64 r.2.2.2.1, .string r.2.2.2.2.1], .bool r.2.2.2.2.2]
noncomputable def rnext_H (masked : Bool) (state : Int) (inn : ByteArray) (hf : Bool) (hr ho : Int) (hm : Bool) (k0 k1 : Int) (k2 k3 hl : Int) (hlst : Bool) (told : Int) (r : Int × Int × Bool × Int × ByteArray × Bool) : Heap := [some (.cells [.bool masked, .int .i64 (rstep_t0 masked state inn hf hr ho hm k0 k1 k2 k3 hl hlst told).2.2.2.2.2.2.1, .string (rstep_t0 masked state inn hf hr ho hm k0 k1 k2 k3 hl hlst told).2.2.2.2.2.2.2.1, .bool (rstep_t0 masked state inn hf hr ho hm k0 k1 k2 k3 hl hlst told).2.2.2.2.2.2.2.2.1, .int .i64 (rstep_t0 masked state inn hf hr ho hm k0 k1 k2 k3 hl hlst told).2.2.2.2.2.2.2.2.2.1, .int .i64 (rstep_t0 masked state inn hf hr ho hm k0 k1 k2 k3 hl hlst told).2.2.2.2.2.2.2.2.2.2.1, .bool (rstep_t0 masked state inn hf hr ho hm k0 k1 k2 k3 hl hlst told).2.2.2.2.2.2.2.2.2.2.2.1, .int .u8 (rstep_t0 masked state inn hf hr ho hm k0 k1 k2 k3 hl hlst told).2.2.2.2.2.2.2.2.2.2.2.2.1, .int .u8 (rstep_t0 masked state inn hf hr ho hm k0 k1 k2 k3 hl hlst told).2.2.2.2.2.2.2.2.2.2.2.2.2.1, .int .u8 (rstep_t0 masked state inn hf hr ho hm k0 k1 k2 k3 hl hlst told).2.2.2.2.2.2.2.2.2.2.2.2.2.2.1, .int .u8 (rstep_t0 masked state inn hf hr ho hm k0 k1 k2 k3 hl hlst told).2.2.2.2.2.2.2.2.2.2.2.2.2.2.2.1, .int .u64 (rstep_t0 masked state inn hf hr ho hm k0 k1 k2 k3 hl hlst told).2.2.2.2.2.2.2.2.2.2.2.2.2.2.2.2.1, .bool (rstep_t0 masked state inn hf hr ho hm k0 k1 k2 k3 hl hlst told).2.2.2.2.2.2.2.2.2.2.2.2.2.2.2.2.2.1, .int .i64 (rstep_t0 masked state inn hf hr ho hm k0 k1 k2 k3 hl hlst told).2.2.2.2.2.2.2.2.2.2.2.2.2.2.2.2.2.2] 117 none)]
noncomputable def rnext_Q (masked : Bool) (state : Int) (inn : ByteArray) (hf : Bool) (hr ho : Int) (hm : Bool) (k0 k1 : Int) (k2 k3 hl : Int) (hlst : Bool) (told : Int) (C : Cfg) (r : rnext_R) : Prop :=
 let p := r
 AEnds E 31 1 C (rnext_V masked state inn hf hr ho hm k0 k1 k2 k3 hl hlst told p) (rnext_H masked state inn hf hr ho hm k0 k1 k2 k3 hl hlst told p)
noncomputable def rnext_t0 (masked : Bool) (state : Int) (inn : ByteArray) (hf : Bool) (hr ho : Int) (hm : Bool) (k0 k1 : Int) (k2 k3 hl : Int) (hlst : Bool) (told : Int) : rnext_R :=
 bif (rstep_t0 masked state inn hf hr ho hm k0 k1 k2 k3 hl hlst told).2.2.2.2.2.1 then ((rstep_t0 masked state inn hf hr ho hm k0 k1 k2 k3 hl hlst told).1, (rstep_t0 masked state inn hf hr ho hm k0 k1 k2 k3 hl hlst told).2.1, (rstep_t0 masked state inn hf hr ho hm k0 k1 k2 k3 hl hlst told).2.2.1, (rstep_t0 masked state inn hf hr ho hm k0 k1 k2 k3 hl hlst told).2.2.2.1, (rstep_t0 masked state inn hf hr ho hm k0 k1 k2 k3 hl hlst told).2.2.2.2.1, true)
 else (0, 0, false, 0, { data := #[] }, false)
def rnext_S0 (masked : Bool) (state : Int) (inn : ByteArray) (hf : Bool) (hr ho : Int) (hm : Bool) (k0 k1 : Int) (k2 k3 hl : Int) (hlst : Bool) (told : Int) : Prop :=
 (((rstep_t0 masked state inn hf hr ho hm k0 k1 k2 k3 hl hlst told).2.2.2.2.2.1) = true → rstep_S0 masked state inn hf hr ho hm k0 k1 k2 k3 hl hlst told) ∧
 (((rstep_t0 masked state inn hf hr ho hm k0 k1 k2 k3 hl hlst told).2.2.2.2.2.1) = false → rstep_S0 masked state inn hf hr ho hm k0 k1 k2 k3 hl hlst told)
theorem rnext_ok0 (masked : Bool) (state : Int) (inn : ByteArray) (hf : Bool) (hr ho : Int) (hm : Bool) (k0 k1 : Int) (k2 k3 hl : Int) (hlst : Bool) (told : Int) (hS : rnext_S0 masked state inn hf hr ho hm k0 k1 k2 k3 hl hlst told) : rnext_Q masked state inn hf hr ho hm k0 k1 k2 k3 hl hlst told (startC E 31 ([.pointer (some ⟨0, 0, none⟩)]) ([some (.cells [.bool masked, .int .i64 state, .string inn, .bool hf, .int .i64 hr, .int .i64 ho, .bool hm, .int .u8 k0, .int .u8 k1, .int .u8 k2, .int .u8 k3, .int .u64 hl, .bool hlst, .int .i64 told] 117 none)])) (rnext_t0 masked state inn hf hr ho hm k0 k1 k2 k3 hl hlst told) := by
 unfold rnext_S0 at hS
 unfold rnext_t0
 refine cond_intro (P := rnext_Q masked state inn hf hr ho hm k0 k1 k2 k3 hl hlst told (startC E 31 ([.pointer (some ⟨0, 0, none⟩)]) ([some (.cells [.bool masked, .int .i64 state, .string inn, .bool hf, .int .i64 hr, .int .i64 ho, .bool hm, .int .u8 k0, .int .u8 k1, .int .u8 k2, .int .u8 k3, .int .u64 hl, .bool hlst, .int .i64 told] 117 none)]))) _ (fun h0 => ?_) (fun h0 => ?_)
 ·skip
  exact ends_q KB0_ok 2000 64 (bs 2 1) [0, 4, 1, 2] [2, 3] [0] (andI (dT h0) (andI (pdec_iff.2 (hS.1 h0)) rfl))
 ·skip
  exact ends_q KB0_ok 2000 58 (bs 2 0) [0, 4, 1, 2] [2, 3] [0] (andI (dF h0) (andI (pdec_iff.2 (hS.2 h0)) rfl))
theorem rnext_call (masked : Bool) (state : Int) (inn : ByteArray) (hf : Bool) (hr ho : Int) (hm : Bool) (k0 k1 : Int) (k2 k3 hl : Int) (hlst : Bool) (told : Int) (hS : rnext_S0 masked state inn hf hr ho hm k0 k1 k2 k3 hl hlst told) : CallOk E 31 ([.pointer (some ⟨0, 0, none⟩)]) ([some (.cells [.bool masked, .int .i64 state, .string inn, .bool hf, .int .i64 hr, .int .i64 ho, .bool hm, .int .u8 k0, .int .u8 k1, .int .u8 k2, .int .u8 k3, .int .u64 hl, .bool hlst, .int .i64 told] 117 none)]) (rnext_V masked state inn hf hr ho hm k0 k1 k2 k3 hl hlst told (rnext_t0 masked state inn hf hr ho hm k0 k1 k2 k3 hl hlst told)) (rnext_H masked state inn hf hr ho hm k0 k1 k2 k3 hl hlst told (rnext_t0 masked state inn hf hr ho hm k0 k1 k2 k3 hl hlst told)) := callOk_of_ends (rnext_ok0 masked state inn hf hr ho hm k0 k1 k2 k3 hl hlst told hS) (by kernel_rfl) (Nat.le_of_ble_eq_true (by kernel_rfl))
abbrev rfeed_R : Type := ByteArray
noncomputable def rfeed_V (masked : Bool) (state : Int) (inn : ByteArray) (hf : Bool) (hr ho : Int) (hm : Bool) (k0 k1 : Int) (k2 k3 hl : Int) (hlst : Bool) (told : Int) (s r : ByteArray) : Value := .tuple #[]
noncomputable def rfeed_H (masked : Bool) (state : Int) (inn : ByteArray) (hf : Bool) (hr ho : Int) (hm : Bool) (k0 k1 : Int) (k2 k3 hl : Int) (hlst : Bool) (told : Int) (s r : ByteArray) : Heap := [some (.cells [.bool masked, .int .i64 state, .string r, .bool hf, .int .i64 hr, .int .i64 ho, .bool hm, .int .u8 k0, .int .u8 k1, .int .u8 k2, .int .u8 k3, .int .u64 hl, .bool hlst, .int .i64 told] 117 none)]
noncomputable def rfeed_Q (masked : Bool) (state : Int) (inn : ByteArray) (hf : Bool) (hr ho : Int) (hm : Bool) (k0 k1 : Int) (k2 k3 hl : Int) (hlst : Bool) (told : Int) (s : ByteArray) (C : Cfg) (r : rfeed_R) : Prop :=
 let p := r
 AEnds E 30 1 C (rfeed_V masked state inn hf hr ho hm k0 k1 k2 k3 hl hlst told s p) (rfeed_H masked state inn hf hr ho hm k0 k1 k2 k3 hl hlst told s p)
noncomputable def rfeed_t0 (masked : Bool) (state : Int) (inn : ByteArray) (hf : Bool) (hr ho : Int) (hm : Bool) (k0 k1 : Int) (k2 k3 hl : Int) (hlst : Bool) (told : Int) (s : ByteArray) : rfeed_R :=
 bif state != 2 then cat inn s
 else inn
def rfeed_S0 (masked : Bool) (state : Int) (inn : ByteArray) (hf : Bool) (hr ho : Int) (hm : Bool) (k0 k1 : Int) (k2 k3 hl : Int) (hlst : Bool) (told : Int) (s : ByteArray) : Prop :=
 ((state != 2) = true → slen inn + slen s ≤ 9223372036854775807) ∧
 ((state != 2) = false → True)
theorem rfeed_ok0 (masked : Bool) (state : Int) (inn : ByteArray) (hf : Bool) (hr ho : Int) (hm : Bool) (k0 k1 : Int) (k2 k3 hl : Int) (hlst : Bool) (told : Int) (s : ByteArray) (hS : rfeed_S0 masked state inn hf hr ho hm k0 k1 k2 k3 hl hlst told s) : rfeed_Q masked state inn hf hr ho hm k0 k1 k2 k3 hl hlst told s (startC E 30 ([.pointer (some ⟨0, 0, none⟩), .string s]) ([some (.cells [.bool masked, .int .i64 state, .string inn, .bool hf, .int .i64 hr, .int .i64 ho, .bool hm, .int .u8 k0, .int .u8 k1, .int .u8 k2, .int .u8 k3, .int .u64 hl, .bool hlst, .int .i64 told] 117 none)])) (rfeed_t0 masked state inn hf hr ho hm k0 k1 k2 k3 hl hlst told s) := by
 unfold rfeed_S0 at hS
 unfold rfeed_t0
 refine cond_intro (P := rfeed_Q masked state inn hf hr ho hm k0 k1 k2 k3 hl hlst told s (startC E 30 ([.pointer (some ⟨0, 0, none⟩), .string s]) ([some (.cells [.bool masked, .int .i64 state, .string inn, .bool hf, .int .i64 hr, .int .i64 ho, .bool hm, .int .u8 k0, .int .u8 k1, .int .u8 k2, .int .u8 k3, .int .u64 hl, .bool hlst, .int .i64 told] 117 none)]))) _ (fun h1 => ?_) (fun h1 => ?_)
 ·skip
  exact ends_q noK_ok 2000 24 (bs 2 3) [0] [] [0] (andI (decide_eq_true (hS.1 h1)) (andI (dT h1) rfl))
 ·skip
  exact ends_q noK_ok 2000 14 (bs 2 1) [0] [] [0] (andI (dF h1) rfl)
theorem rfeed_call (masked : Bool) (state : Int) (inn : ByteArray) (hf : Bool) (hr ho : Int) (hm : Bool) (k0 k1 : Int) (k2 k3 hl : Int) (hlst : Bool) (told : Int) (s : ByteArray) (hS : rfeed_S0 masked state inn hf hr ho hm k0 k1 k2 k3 hl hlst told s) : CallOk E 30 ([.pointer (some ⟨0, 0, none⟩), .string s]) ([some (.cells [.bool masked, .int .i64 state, .string inn, .bool hf, .int .i64 hr, .int .i64 ho, .bool hm, .int .u8 k0, .int .u8 k1, .int .u8 k2, .int .u8 k3, .int .u64 hl, .bool hlst, .int .i64 told] 117 none)]) (rfeed_V masked state inn hf hr ho hm k0 k1 k2 k3 hl hlst told s (rfeed_t0 masked state inn hf hr ho hm k0 k1 k2 k3 hl hlst told s)) (rfeed_H masked state inn hf hr ho hm k0 k1 k2 k3 hl hlst told s (rfeed_t0 masked state inn hf hr ho hm k0 k1 k2 k3 hl hlst told s)) := callOk_of_ends (rfeed_ok0 masked state inn hf hr ho hm k0 k1 k2 k3 hl hlst told s hS) (by kernel_rfl) (Nat.le_of_ble_eq_true (by kernel_rfl))
noncomputable abbrev rnew_st (masked : Bool) : Cfg := startC E 29 ([.bool masked]) ([])
theorem rnew_w0_0 (masked : Bool) : AEnds E 29 0 (rnew_st masked) (.pointer (some ⟨0, 0, none⟩)) ([some (.cells [.bool masked, .int .i64 0, .string { data := #[] }, .bool false, .int .i64 0, .int .i64 0, .bool false, .int .u8 0, .int .u8 0, .int .u8 0, .int .u8 0, .int .u64 0, .bool false, .int .i64 0] 117 none)]) := by
 exact ends_q noK_ok 2000 11 (some []) [0] [2] [0] (rfl)


end Go.Proofs.Ytfpnjpbdaniomaa

/-
  A reader of masked frames as one packed block: the contracts.
-/
set_option linter.unusedVariables false
set_option linter.unusedSimpArgs false
set_option maxRecDepth 10000
open Go Go.Am
namespace Go.Proofs.Ytfpnjpbdaniomaa

noncomputable def encR (x : RX) : Heap := [some (.cells [.bool true, .int .i64 x.1, .string x.2.1, .bool x.2.2.1, .int .i64 x.2.2.2.1, .int .i64 x.2.2.2.2.1, .bool x.2.2.2.2.2.1, .int .u8 x.2.2.2.2.2.2.1, .int .u8 x.2.2.2.2.2.2.2.1, .int .u8 x.2.2.2.2.2.2.2.2.1, .int .u8 x.2.2.2.2.2.2.2.2.2.1, .int .u64 x.2.2.2.2.2.2.2.2.2.2.1, .bool x.2.2.2.2.2.2.2.2.2.2.2.1, .int .i64 x.2.2.2.2.2.2.2.2.2.2.2.2] 117 none)]
noncomputable def decRl (c : List Value) : RX := (toInt (c.getD 1 undef), toStr (c.getD 2 undef), toBool (c.getD 3 undef), toInt (c.getD 4 undef), toInt (c.getD 5 undef), toBool (c.getD 6 undef), toInt (c.getD 7 undef), toInt (c.getD 8 undef), toInt (c.getD 9 undef), toInt (c.getD 10 undef), toInt (c.getD 11 undef), toBool (c.getD 12 undef), toInt (c.getD 13 undef))
noncomputable def decR (J : Heap) : RX := decRl (cellsOf J 0)
theorem decR_enc (x : RX) : decR (encR x) = x := rfl
theorem ren_R (x : RX) : ∃ ok, AllT ok ∧ renH E (toNew [0]) (encR x) [0] = some (ok, encR x) := ⟨[true], AllT.cons.2 ⟨rfl, AllT.nil⟩, rfl⟩
theorem robj {g : FuncId} {args : List Value} {x x' : RX} {v : Value} (h : CallOk E g args (encR x) v (encR x')) (ha : args.all argO = true) (hv : plainV 3 v = true) : CallOk E g args [some (.obj (encR x))] v [some (.obj (encR x'))] := by
 obtain ⟨ok, hok, hr⟩ := ren_R x'
 exact callOk_obj (l := [0]) h ha hv rfl hr hok rfl rfl rfl
noncomputable def evR (r : rstep_R) : Int × Int × Bool × Int × ByteArray × Bool := (r.1, r.2.1, r.2.2.1, r.2.2.2.1, r.2.2.2.2.1, r.2.2.2.2.2.1)
theorem stepT_no {m : Bool} {x : RX} (h : rOk (stepT m x) = false) : evR (stepT m x) = (0, 0, false, 0, ⟨#[]⟩, false) ∧ rx (stepT m x) = x := by
 unfold stepT at h ⊢
 split at h
 ·rename_i c; rw [if_pos c]; exact ⟨rfl, rfl⟩
 ·rename_i c
  rw [if_neg c]
  split at h
  ·rename_i c2
   rw [if_pos c2]
   cases h1 : hOk (xIn x) with
   | false => exact ⟨rfl, rfl⟩
   | true =>
    rw [h1] at h
    cases h2 : mayS m (xIn x) <;> rw [h2] at h <;> cases h
  ·rename_i c2
   rw [if_neg c2]
   split at h
   ·cases h
   ·rename_i c3
    rw [if_neg c3]
    split at h
    ·rename_i c4; rw [if_pos c4]; exact ⟨rfl, rfl⟩
    ·cases h
theorem next_call (x : RX) (h : Inv x) : CallOk E 31 [.pointer (some ⟨0, 0, none⟩)] [some (.obj (encR x))] (.tuple #[.agg #[.int .i64 (evR (stepT true x)).1, .int .i64 (evR (stepT true x)).2.1, .bool (evR (stepT true x)).2.2.1, .int .i64 (evR (stepT true x)).2.2.2.1, .string (evR (stepT true x)).2.2.2.2.1], .bool (evR (stepT true x)).2.2.2.2.2]) [some (.obj (encR (rx (stepT true x))))] := by
 obtain ⟨h1, h2⟩ := step_val true x h
 have w := rnext_call true x.1 x.2.1 x.2.2.1 x.2.2.2.1 x.2.2.2.2.1 x.2.2.2.2.2.1 x.2.2.2.2.2.2.1 x.2.2.2.2.2.2.2.1 x.2.2.2.2.2.2.2.2.1 x.2.2.2.2.2.2.2.2.2.1 x.2.2.2.2.2.2.2.2.2.2.1 x.2.2.2.2.2.2.2.2.2.2.2.1 x.2.2.2.2.2.2.2.2.2.2.2.2 ⟨fun _ => h1, fun _ => h1⟩
 have hv : rnext_t0 true x.1 x.2.1 x.2.2.1 x.2.2.2.1 x.2.2.2.2.1 x.2.2.2.2.2.1 x.2.2.2.2.2.2.1 x.2.2.2.2.2.2.2.1 x.2.2.2.2.2.2.2.2.1 x.2.2.2.2.2.2.2.2.2.1 x.2.2.2.2.2.2.2.2.2.2.1 x.2.2.2.2.2.2.2.2.2.2.2.1 x.2.2.2.2.2.2.2.2.2.2.2.2 = evR (stepT true x) := by
  unfold rnext_t0
  show (bif (stp true x).2.2.2.2.2.1 then ((stp true x).1, (stp true x).2.1, (stp true x).2.2.1, (stp true x).2.2.2.1, (stp true x).2.2.2.2.1, true) else (0, 0, false, 0, ⟨#[]⟩, false)) = _
  rw [h2]
  cases hc : rOk (stepT true x) with
  | true =>
   have hc : (stepT true x).2.2.2.2.2.1 = true := hc
   rw [hc, cond_true]
   unfold evR
   rw [hc]
  | false =>
   have hc2 : (stepT true x).2.2.2.2.2.1 = false := hc
   rw [hc2, cond_false, (stepT_no hc).1]
 rw [hv] at w
 have hH : rnext_H true x.1 x.2.1 x.2.2.1 x.2.2.2.1 x.2.2.2.2.1 x.2.2.2.2.2.1 x.2.2.2.2.2.2.1 x.2.2.2.2.2.2.2.1 x.2.2.2.2.2.2.2.2.1 x.2.2.2.2.2.2.2.2.2.1 x.2.2.2.2.2.2.2.2.2.2.1 x.2.2.2.2.2.2.2.2.2.2.2.1 x.2.2.2.2.2.2.2.2.2.2.2.2 (evR (stepT true x)) = encR (rx (stepT true x)) := by
  show encR (rx (stp true x)) = _
  rw [h2]
 rw [hH] at w
 exact robj w rfl rfl
noncomputable def feedX (x : RX) (s : ByteArray) : RX := bif x.1 != 2 then xSet x x.1 (cat x.2.1 s) (xTold x) else x
theorem rfeed_all (x : RX) (s : ByteArray) (h : slen x.2.1 + slen s ≤ 1000000) : CallOk E 30 [.pointer (some ⟨0, 0, none⟩), .string s] [some (.obj (encR x))] (.tuple #[]) [some (.obj (encR (feedX x s)))] := by
 have w := rfeed_call true x.1 x.2.1 x.2.2.1 x.2.2.2.1 x.2.2.2.2.1 x.2.2.2.2.2.1 x.2.2.2.2.2.2.1 x.2.2.2.2.2.2.2.1 x.2.2.2.2.2.2.2.2.1 x.2.2.2.2.2.2.2.2.2.1 x.2.2.2.2.2.2.2.2.2.2.1 x.2.2.2.2.2.2.2.2.2.2.2.1 x.2.2.2.2.2.2.2.2.2.2.2.2 s (by unfold rfeed_S0; refine ⟨fun _ => by omega, fun _ => trivial⟩)
 have hH : rfeed_H true x.1 x.2.1 x.2.2.1 x.2.2.2.1 x.2.2.2.2.1 x.2.2.2.2.2.1 x.2.2.2.2.2.2.1 x.2.2.2.2.2.2.2.1 x.2.2.2.2.2.2.2.2.1 x.2.2.2.2.2.2.2.2.2.1 x.2.2.2.2.2.2.2.2.2.2.1 x.2.2.2.2.2.2.2.2.2.2.2.1 x.2.2.2.2.2.2.2.2.2.2.2.2 s (rfeed_t0 true x.1 x.2.1 x.2.2.1 x.2.2.2.1 x.2.2.2.2.1 x.2.2.2.2.2.1 x.2.2.2.2.2.2.1 x.2.2.2.2.2.2.2.1 x.2.2.2.2.2.2.2.2.1 x.2.2.2.2.2.2.2.2.2.1 x.2.2.2.2.2.2.2.2.2.2.1 x.2.2.2.2.2.2.2.2.2.2.2.1 x.2.2.2.2.2.2.2.2.2.2.2.2 s) = encR (feedX x s) := by
  unfold rfeed_t0 feedX
  cases hc : x.1 != 2 <;> rfl
 rw [hH] at w
 exact robj w rfl rfl
noncomputable def rx0 : RX := (0, ⟨#[]⟩, false, 0, 0, false, 0, 0, 0, 0, 0, false, 0)
theorem rnew_all : CallOk E 29 [.bool true] [] (.pointer (some ⟨0, 0, none⟩)) [some (.obj (encR rx0))] :=
 callOk_newObj (callOk_way (rnew_w0_0 true)) rfl rfl rfl

/-! contracts -/
def rnx_pre (R : Heap) : Prop := R = encR (decR R) ∧ Inv (decR R)
noncomputable def rnxE (R : Heap) : Int × Int × Bool × Int × ByteArray × Bool := seal1 (evR (stepT true (decR R)))
theorem rnxE_eq (R : Heap) : rnxE R = evR (stepT true (decR R)) := seal1_eq _
noncomputable def rnxR (R : Heap) : Heap := encR (rx (stepT true (decR R)))
noncomputable def rnx_v (R : Heap) : Value := .tuple #[.agg #[.int .i64 (rnxE R).1, .int .i64 (rnxE R).2.1, .bool (rnxE R).2.2.1, .int .i64 (rnxE R).2.2.2.1, .string (rnxE R).2.2.2.2.1], .bool (rnxE R).2.2.2.2.2]
noncomputable def rnx_h (R : Heap) : Heap := [some (.obj (rnxR R))]
theorem rnx_call (R : Heap) (h : rnx_pre R) : CallOk E 31 [.pointer (some ⟨0, 0, none⟩)] [some (.obj R)] (rnx_v R) (rnx_h R) := by
 have w := next_call (decR R) h.2
 rw [← h.1, ← rnxE_eq] at w
 exact w

def rnx_ex (a : List Value) (h : Heap) : Heap := (objOf h 0)
noncomputable def rnx_k : Ct := kS rnx_ex [.ptr 0 0] [.obj] (fun x => rnx_pre x) (fun x => rnx_v x) (fun x => rnx_h x)
theorem rnx_k_ok : KFor E 31 rnx_k := kS_ok (fun x hx => rnx_call x hx) (fun _ _ => rfl) (fun _ _ => rfl)


def rfd_pre (R : Heap) (s : ByteArray) : Prop := R = encR (decR R) ∧ slen (decR R).2.1 + slen s ≤ 1000000
noncomputable def rfdR (R : Heap) (s : ByteArray) : Heap := seal1 (encR (feedX (decR R) s))
theorem rfdR_eq (R : Heap) (s : ByteArray) : rfdR R s = encR (feedX (decR R) s) := seal1_eq _
noncomputable def rfd_v (R : Heap) (s : ByteArray) : Value := .tuple #[]
noncomputable def rfd_h (R : Heap) (s : ByteArray) : Heap := [some (.obj (rfdR R s))]
theorem rfd_call (R : Heap) (s : ByteArray) (h : rfd_pre R s) : CallOk E 30 [.pointer (some ⟨0, 0, none⟩), .string s] [some (.obj R)] (rfd_v R s) (rfd_h R s) := by
 have w := rfeed_all (decR R) s h.2
 rw [← h.1, ← rfdR_eq] at w
 exact w

def rfd_ex (a : List Value) (h : Heap) : Heap × ByteArray := ((objOf h 0), (toStr (a.getD 1 undef)))
noncomputable def rfd_k : Ct := kS rfd_ex [.ptr 0 0, .str] [.obj] (fun (a0, a1) => rfd_pre a0 a1) (fun (a0, a1) => rfd_v a0 a1) (fun (a0, a1) => rfd_h a0 a1)
theorem rfd_k_ok : KFor E 30 rfd_k := kS_ok (fun x hx => rfd_call (x.1) (x.2) hx) (fun _ _ => rfl) (fun _ _ => rfl)


def rnw_pre (b : Bool) : Prop := b = true
noncomputable def rnwR : Heap := seal1 (encR rx0)
theorem rnwR_eq : rnwR = encR rx0 := seal1_eq _
noncomputable def rnw_v (b : Bool) : Value := .pointer (some ⟨0, 0, none⟩)
noncomputable def rnw_h (b : Bool) : Heap := [some (.obj rnwR)]
theorem rnw_call (b : Bool) (h : rnw_pre b) : CallOk E 29 [.bool b] [] (rnw_v b) (rnw_h b) := by
 subst h
 have w := rnew_all
 rw [← rnwR_eq] at w
 exact w

def rnw_ex (a : List Value) (h : Heap) : Bool := (toBool (a.getD 0 undef))
noncomputable def rnw_k : Ct := kS rnw_ex [.bool] [] (fun x => rnw_pre x) (fun x => rnw_v x) (fun x => rnw_h x)
theorem rnw_k_ok : KFor E 29 rnw_k := kS_ok (fun x hx => rnw_call x hx) (fun _ _ => rfl) (fun _ _ => rfl)


end Go.Proofs.Ytfpnjpbdaniomaa
