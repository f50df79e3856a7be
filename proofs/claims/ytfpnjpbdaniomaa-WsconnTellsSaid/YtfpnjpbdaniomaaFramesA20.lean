/-
  A reader of frames: what it tells next, as plain functions.
-/
import Derived.Test.YtfpnjpbdaniomaaAmSlim
import Derived.Test.YtfpnjpbdaniomaaFrameE20
set_option linter.unusedVariables false
set_option linter.unusedSimpArgs false
open Go Go.Am
namespace Go.Proofs.Ytfpnjpbdaniomaa

abbrev op_R : Type := Bool
def op_V (n : Int) (r : Bool) : Value := .bool r
def op_H (n : Int) (r : Bool) : Heap := []
noncomputable def op_Q (n : Int) (C : Cfg) (r : op_R) : Prop :=
 let p := r
 AEnds E 80 0 C (op_V n p) (op_H n p)
noncomputable def op_t0 (n : Int) : op_R :=
 bif n == 0 then true
 else bif n == 1 then true
  else bif n == 2 then true
   else bif n == 8 then true
    else bif n == 9 then true
     else bif n == 10 then true
      else false
def op_S0 (n : Int) : Prop :=
 True
theorem op_ok0 (n : Int) (hS : op_S0 n) : op_Q n (startC E 80 ([.int .i64 n]) ([])) (op_t0 n) := by
 unfold op_S0 at hS
 unfold op_t0
 refine cond_intro (P := op_Q n (startC E 80 ([.int .i64 n]) ([]))) _ (fun h0 => ?_) (fun h0 => ?_)
 ·skip
  exact ends_q noK_ok 2000 23 (bs 2 3) [] [2] [] (andI (dT h0) (andI (dT h0) rfl))
 ·skip
  refine cond_intro (P := op_Q n (startC E 80 ([.int .i64 n]) ([]))) _ (fun h1 => ?_) (fun h1 => ?_)
  ·skip
   exact ends_q noK_ok 2000 29 (bs 3 6) [] [2] [] (andI (dT h1) (andI (dT h1) (andI (dF h0) rfl)))
  ·skip
   refine cond_intro (P := op_Q n (startC E 80 ([.int .i64 n]) ([]))) _ (fun h2 => ?_) (fun h2 => ?_)
   ·skip
    exact ends_q noK_ok 2000 35 (bs 4 12) [] [2] [] (and4 (dT h2) (dT h2) (dF h1) (dF h0) rfl)
   ·skip
    refine cond_intro (P := op_Q n (startC E 80 ([.int .i64 n]) ([]))) _ (fun h3 => ?_) (fun h3 => ?_)
    ·skip
     exact ends_q noK_ok 2000 41 (bs 5 24) [] [2] [] (andI (dT h3) (and4 (dT h3) (dF h2) (dF h1) (dF h0) rfl))
    ·skip
     refine cond_intro (P := op_Q n (startC E 80 ([.int .i64 n]) ([]))) _ (fun h4 => ?_) (fun h4 => ?_)
     ·skip
      exact ends_q noK_ok 2000 47 (bs 6 48) [] [2] [] (andI (dT h4) (andI (dT h4) (and4 (dF h3) (dF h2) (dF h1) (dF h0) rfl)))
     ·skip
      refine cond_intro (P := op_Q n (startC E 80 ([.int .i64 n]) ([]))) _ (fun h5 => ?_) (fun h5 => ?_)
      ·skip
       exact ends_q noK_ok 2000 50 (bs 6 32) [] [2] [] (andI (dT h5) (andI (dF h4) (and4 (dF h3) (dF h2) (dF h1) (dF h0) rfl)))
      ·skip
       exact ends_q noK_ok 2000 52 (bs 6 0) [] [2] [] (andI (dF h5) (andI (dF h4) (and4 (dF h3) (dF h2) (dF h1) (dF h0) rfl)))
theorem op_call (n : Int) (hS : op_S0 n) : CallOk E 80 ([.int .i64 n]) ([]) (op_V n (op_t0 n)) (op_H n (op_t0 n)) := callOk_of_ends (op_ok0 n hS) (by kernel_rfl) (Nat.le_of_ble_eq_true (by kernel_rfl))
def op_ex (a : List Value) (h : Heap) : Int := (toInt (a.getD 0 undef))
noncomputable def op_k : Ct := kS op_ex [.int .i64] [] (fun x => op_S0 x) (fun x => op_V x (op_t0 x)) (fun x => op_H x (op_t0 x))
theorem op_k_ok : KFor E 80 op_k := kS_ok (fun x hx => op_call x hx) (fun _ _ => rfl) (fun _ _ => rfl)


noncomputable def KFa : Ctr := ctrOf E [(80, anyA, op_k)]
theorem KFa_ok : KOk E KFa := ctr_cons op_k_ok ctr_nil

abbrev may_R : Type := Bool
def may_V (masked : Bool) (state : Int) (inn : ByteArray) (hf : Bool) (hr ho : Int) (hm : Bool) (k0 k1 : Int) (k2 k3 hl : Int) (hlst : Bool) (told : Int) (ff : Bool) (fr fo : Int) (fm : Bool) (f0 f1 : Int) (f2 f3 fl : Int) (flst r : Bool) : Value := .bool r
def may_H (masked : Bool) (state : Int) (inn : ByteArray) (hf : Bool) (hr ho : Int) (hm : Bool) (k0 k1 : Int) (k2 k3 hl : Int) (hlst : Bool) (told : Int) (ff : Bool) (fr fo : Int) (fm : Bool) (f0 f1 : Int) (f2 f3 fl : Int) (flst r : Bool) : Heap := [some (.cells [.bool masked, .int .i64 state, .string inn, .bool hf, .int .i64 hr, .int .i64 ho, .bool hm, .int .u8 k0, .int .u8 k1, .int .u8 k2, .int .u8 k3, .int .u64 hl, .bool hlst, .int .i64 told] 117 none)]
noncomputable def may_Q (masked : Bool) (state : Int) (inn : ByteArray) (hf : Bool) (hr ho : Int) (hm : Bool) (k0 k1 : Int) (k2 k3 hl : Int) (hlst : Bool) (told : Int) (ff : Bool) (fr fo : Int) (fm : Bool) (f0 f1 : Int) (f2 f3 fl : Int) (flst : Bool) (C : Cfg) (r : may_R) : Prop :=
 let p := r
 AEnds E 74 1 C (may_V masked state inn hf hr ho hm k0 k1 k2 k3 hl hlst told ff fr fo fm f0 f1 f2 f3 fl flst p) (may_H masked state inn hf hr ho hm k0 k1 k2 k3 hl hlst told ff fr fo fm f0 f1 f2 f3 fl flst p)
noncomputable def may_t0 (masked : Bool) (state : Int) (inn : ByteArray) (hf : Bool) (hr ho : Int) (hm : Bool) (k0 k1 : Int) (k2 k3 hl : Int) (hlst : Bool) (told : Int) (ff : Bool) (fr fo : Int) (fm : Bool) (f0 f1 : Int) (f2 f3 fl : Int) (flst : Bool) : may_R :=
 bif decide (fo < 8) then bif fr == 0 then bif op_t0 fo then bif fm == masked then bif flst then decide (fl ≤ 9223372036854775807)
     else false
    else false
   else false
  else false
 else bif ff then bif fr == 0 then bif op_t0 fo then bif fm == masked then bif decide (fl ≤ 125) then bif flst then decide (fl ≤ 9223372036854775807)
       else false
      else false
     else false
    else false
   else false
  else bif fr == 0 then bif op_t0 fo then bif fm == masked then false
     else false
    else false
   else false
def may_S0 (masked : Bool) (state : Int) (inn : ByteArray) (hf : Bool) (hr ho : Int) (hm : Bool) (k0 k1 : Int) (k2 k3 hl : Int) (hlst : Bool) (told : Int) (ff : Bool) (fr fo : Int) (fm : Bool) (f0 f1 : Int) (f2 f3 fl : Int) (flst : Bool) : Prop :=
 ((decide (fo < 8)) = true → ((fr == 0) = true → ((op_t0 fo) = true → ((fm == masked) = true → (flst = true → op_S0 fo) ∧
     (flst = false → op_S0 fo)) ∧
    ((fm == masked) = false → op_S0 fo)) ∧
   ((op_t0 fo) = false → op_S0 fo)) ∧
  ((fr == 0) = false → True)) ∧
 ((decide (fo < 8)) = false → (ff = true → ((fr == 0) = true → ((op_t0 fo) = true → ((fm == masked) = true → ((decide (fl ≤ 125)) = true → (flst = true → op_S0 fo) ∧
       (flst = false → op_S0 fo)) ∧
      ((decide (fl ≤ 125)) = false → op_S0 fo)) ∧
     ((fm == masked) = false → op_S0 fo)) ∧
    ((op_t0 fo) = false → op_S0 fo)) ∧
   ((fr == 0) = false → True)) ∧
  (ff = false → ((fr == 0) = true → ((op_t0 fo) = true → ((fm == masked) = true → op_S0 fo) ∧
     ((fm == masked) = false → op_S0 fo)) ∧
    ((op_t0 fo) = false → op_S0 fo)) ∧
   ((fr == 0) = false → True)))
theorem may_ok0 (masked : Bool) (state : Int) (inn : ByteArray) (hf : Bool) (hr ho : Int) (hm : Bool) (k0 k1 : Int) (k2 k3 hl : Int) (hlst : Bool) (told : Int) (ff : Bool) (fr fo : Int) (fm : Bool) (f0 f1 : Int) (f2 f3 fl : Int) (flst : Bool) (hS : may_S0 masked state inn hf hr ho hm k0 k1 k2 k3 hl hlst told ff fr fo fm f0 f1 f2 f3 fl flst) : may_Q masked state inn hf hr ho hm k0 k1 k2 k3 hl hlst told ff fr fo fm f0 f1 f2 f3 fl flst (startC E 74 ([.pointer (some ⟨0, 0, none⟩), .agg #[.bool ff, .int .i64 fr, .int .i64 fo, .bool fm, .int .u8 f0, .int .u8 f1, .int .u8 f2, .int .u8 f3, .int .u64 fl, .bool flst]]) ([some (.cells [.bool masked, .int .i64 state, .string inn, .bool hf, .int .i64 hr, .int .i64 ho, .bool hm, .int .u8 k0, .int .u8 k1, .int .u8 k2, .int .u8 k3, .int .u64 hl, .bool hlst, .int .i64 told] 117 none)])) (may_t0 masked state inn hf hr ho hm k0 k1 k2 k3 hl hlst told ff fr fo fm f0 f1 f2 f3 fl flst) := by
 unfold may_S0 at hS
 unfold may_t0
 refine cond_intro (P := may_Q masked state inn hf hr ho hm k0 k1 k2 k3 hl hlst told ff fr fo fm f0 f1 f2 f3 fl flst (startC E 74 ([.pointer (some ⟨0, 0, none⟩), .agg #[.bool ff, .int .i64 fr, .int .i64 fo, .bool fm, .int .u8 f0, .int .u8 f1, .int .u8 f2, .int .u8 f3, .int .u64 fl, .bool flst]]) ([some (.cells [.bool masked, .int .i64 state, .string inn, .bool hf, .int .i64 hr, .int .i64 ho, .bool hm, .int .u8 k0, .int .u8 k1, .int .u8 k2, .int .u8 k3, .int .u64 hl, .bool hlst, .int .i64 told] 117 none)]))) _ (fun h0 => ?_) (fun h0 => ?_)
 ·skip
  refine cond_intro (P := may_Q masked state inn hf hr ho hm k0 k1 k2 k3 hl hlst told ff fr fo fm f0 f1 f2 f3 fl flst (startC E 74 ([.pointer (some ⟨0, 0, none⟩), .agg #[.bool ff, .int .i64 fr, .int .i64 fo, .bool fm, .int .u8 f0, .int .u8 f1, .int .u8 f2, .int .u8 f3, .int .u64 fl, .bool flst]]) ([some (.cells [.bool masked, .int .i64 state, .string inn, .bool hf, .int .i64 hr, .int .i64 ho, .bool hm, .int .u8 k0, .int .u8 k1, .int .u8 k2, .int .u8 k3, .int .u64 hl, .bool hlst, .int .i64 told] 117 none)]))) _ (fun h1 => ?_) (fun h1 => ?_)
  ·skip
   refine cond_intro (P := may_Q masked state inn hf hr ho hm k0 k1 k2 k3 hl hlst told ff fr fo fm f0 f1 f2 f3 fl flst (startC E 74 ([.pointer (some ⟨0, 0, none⟩), .agg #[.bool ff, .int .i64 fr, .int .i64 fo, .bool fm, .int .u8 f0, .int .u8 f1, .int .u8 f2, .int .u8 f3, .int .u64 fl, .bool flst]]) ([some (.cells [.bool masked, .int .i64 state, .string inn, .bool hf, .int .i64 hr, .int .i64 ho, .bool hm, .int .u8 k0, .int .u8 k1, .int .u8 k2, .int .u8 k3, .int .u64 hl, .bool hlst, .int .i64 told] 117 none)]))) _ (fun h2 => ?_) (fun h2 => ?_)
   ·skip
    refine cond_intro (P := may_Q masked state inn hf hr ho hm k0 k1 k2 k3 hl hlst told ff fr fo fm f0 f1 f2 f3 fl flst (startC E 74 ([.pointer (some ⟨0, 0, none⟩), .agg #[.bool ff, .int .i64 fr, .int .i64 fo, .bool fm, .int .u8 f0, .int .u8 f1, .int .u8 f2, .int .u8 f3, .int .u64 fl, .bool flst]]) ([some (.cells [.bool masked, .int .i64 state, .string inn, .bool hf, .int .i64 hr, .int .i64 ho, .bool hm, .int .u8 k0, .int .u8 k1, .int .u8 k2, .int .u8 k3, .int .u64 hl, .bool hlst, .int .i64 told] 117 none)]))) _ (fun h3 => ?_) (fun h3 => ?_)
    ·skip
     refine cond_intro (P := may_Q masked state inn hf hr ho hm k0 k1 k2 k3 hl hlst told ff fr fo fm f0 f1 f2 f3 fl flst (startC E 74 ([.pointer (some ⟨0, 0, none⟩), .agg #[.bool ff, .int .i64 fr, .int .i64 fo, .bool fm, .int .u8 f0, .int .u8 f1, .int .u8 f2, .int .u8 f3, .int .u64 fl, .bool flst]]) ([some (.cells [.bool masked, .int .i64 state, .string inn, .bool hf, .int .i64 hr, .int .i64 ho, .bool hm, .int .u8 k0, .int .u8 k1, .int .u8 k2, .int .u8 k3, .int .u64 hl, .bool hlst, .int .i64 told] 117 none)]))) _ (fun h5 => ?_) (fun h5 => ?_)
     ·skip
      exact ends_q KFa_ok 2000 23 (bs 6 63) [0] [4] [0] (andI (dT h5) (andI (dT h3) (and4 (dT h2) (pdec_iff.2 (((((hS.1 h0).1 h1).1 h2).1 h3).1 h5)) (dT h1) (dT h0) rfl)))
     ·skip
      exact ends_q KFa_ok 2000 23 (bs 6 31) [0] [4] [0] (andI (dF h5) (andI (dT h3) (and4 (dT h2) (pdec_iff.2 (((((hS.1 h0).1 h1).1 h2).1 h3).2 h5)) (dT h1) (dT h0) rfl)))
    ·skip
     exact ends_q KFa_ok 2000 23 (bs 6 7) [0] [4] [0] (andI (dF h3) (and4 (dT h2) (pdec_iff.2 ((((hS.1 h0).1 h1).1 h2).2 h3)) (dT h1) (dT h0) rfl))
   ·skip
    exact ends_q KFa_ok 2000 23 (bs 6 3) [0] [4] [0] (and4 (dF h2) (pdec_iff.2 (((hS.1 h0).1 h1).2 h2)) (dT h1) (dT h0) rfl)
  ·skip
   exact ends_q KFa_ok 2000 23 (bs 6 1) [0] [4] [0] (andI (dF h1) (andI (dT h0) rfl))
 ·skip
  refine cond_intro (P := may_Q masked state inn hf hr ho hm k0 k1 k2 k3 hl hlst told ff fr fo fm f0 f1 f2 f3 fl flst (startC E 74 ([.pointer (some ⟨0, 0, none⟩), .agg #[.bool ff, .int .i64 fr, .int .i64 fo, .bool fm, .int .u8 f0, .int .u8 f1, .int .u8 f2, .int .u8 f3, .int .u64 fl, .bool flst]]) ([some (.cells [.bool masked, .int .i64 state, .string inn, .bool hf, .int .i64 hr, .int .i64 ho, .bool hm, .int .u8 k0, .int .u8 k1, .int .u8 k2, .int .u8 k3, .int .u64 hl, .bool hlst, .int .i64 told] 117 none)]))) _ (fun h1 => ?_) (fun h1 => ?_)
  ·skip
   refine cond_intro (P := may_Q masked state inn hf hr ho hm k0 k1 k2 k3 hl hlst told ff fr fo fm f0 f1 f2 f3 fl flst (startC E 74 ([.pointer (some ⟨0, 0, none⟩), .agg #[.bool ff, .int .i64 fr, .int .i64 fo, .bool fm, .int .u8 f0, .int .u8 f1, .int .u8 f2, .int .u8 f3, .int .u64 fl, .bool flst]]) ([some (.cells [.bool masked, .int .i64 state, .string inn, .bool hf, .int .i64 hr, .int .i64 ho, .bool hm, .int .u8 k0, .int .u8 k1, .int .u8 k2, .int .u8 k3, .int .u64 hl, .bool hlst, .int .i64 told] 117 none)]))) _ (fun h2 => ?_) (fun h2 => ?_)
   ·skip
    refine cond_intro (P := may_Q masked state inn hf hr ho hm k0 k1 k2 k3 hl hlst told ff fr fo fm f0 f1 f2 f3 fl flst (startC E 74 ([.pointer (some ⟨0, 0, none⟩), .agg #[.bool ff, .int .i64 fr, .int .i64 fo, .bool fm, .int .u8 f0, .int .u8 f1, .int .u8 f2, .int .u8 f3, .int .u64 fl, .bool flst]]) ([some (.cells [.bool masked, .int .i64 state, .string inn, .bool hf, .int .i64 hr, .int .i64 ho, .bool hm, .int .u8 k0, .int .u8 k1, .int .u8 k2, .int .u8 k3, .int .u64 hl, .bool hlst, .int .i64 told] 117 none)]))) _ (fun h3 => ?_) (fun h3 => ?_)
    ·skip
     refine cond_intro (P := may_Q masked state inn hf hr ho hm k0 k1 k2 k3 hl hlst told ff fr fo fm f0 f1 f2 f3 fl flst (startC E 74 ([.pointer (some ⟨0, 0, none⟩), .agg #[.bool ff, .int .i64 fr, .int .i64 fo, .bool fm, .int .u8 f0, .int .u8 f1, .int .u8 f2, .int .u8 f3, .int .u64 fl, .bool flst]]) ([some (.cells [.bool masked, .int .i64 state, .string inn, .bool hf, .int .i64 hr, .int .i64 ho, .bool hm, .int .u8 k0, .int .u8 k1, .int .u8 k2, .int .u8 k3, .int .u64 hl, .bool hlst, .int .i64 told] 117 none)]))) _ (fun h4 => ?_) (fun h4 => ?_)
     ·skip
      refine cond_intro (P := may_Q masked state inn hf hr ho hm k0 k1 k2 k3 hl hlst told ff fr fo fm f0 f1 f2 f3 fl flst (startC E 74 ([.pointer (some ⟨0, 0, none⟩), .agg #[.bool ff, .int .i64 fr, .int .i64 fo, .bool fm, .int .u8 f0, .int .u8 f1, .int .u8 f2, .int .u8 f3, .int .u64 fl, .bool flst]]) ([some (.cells [.bool masked, .int .i64 state, .string inn, .bool hf, .int .i64 hr, .int .i64 ho, .bool hm, .int .u8 k0, .int .u8 k1, .int .u8 k2, .int .u8 k3, .int .u64 hl, .bool hlst, .int .i64 told] 117 none)]))) _ (fun h5 => ?_) (fun h5 => ?_)
      ·skip
       refine cond_intro (P := may_Q masked state inn hf hr ho hm k0 k1 k2 k3 hl hlst told ff fr fo fm f0 f1 f2 f3 fl flst (startC E 74 ([.pointer (some ⟨0, 0, none⟩), .agg #[.bool ff, .int .i64 fr, .int .i64 fo, .bool fm, .int .u8 f0, .int .u8 f1, .int .u8 f2, .int .u8 f3, .int .u64 fl, .bool flst]]) ([some (.cells [.bool masked, .int .i64 state, .string inn, .bool hf, .int .i64 hr, .int .i64 ho, .bool hm, .int .u8 k0, .int .u8 k1, .int .u8 k2, .int .u8 k3, .int .u64 hl, .bool hlst, .int .i64 told] 117 none)]))) _ (fun h6 => ?_) (fun h6 => ?_)
       ·skip
        exact ends_q KFa_ok 2000 23 (bs 7 126) [0] [4] [0] (and8 (dT h6) (dT h5) (dT h4) (dT h3) (pdec_iff.2 (((((((hS.2 h0).1 h1).1 h2).1 h3).1 h4).1 h5).1 h6)) (dT h2) (dT h1) (dF h0) rfl)
       ·skip
        exact ends_q KFa_ok 2000 23 (bs 7 62) [0] [4] [0] (and8 (dF h6) (dT h5) (dT h4) (dT h3) (pdec_iff.2 (((((((hS.2 h0).1 h1).1 h2).1 h3).1 h4).1 h5).2 h6)) (dT h2) (dT h1) (dF h0) rfl)
      ·skip
       exact ends_q KFa_ok 2000 23 (bs 7 30) [0] [4] [0] (andI (dF h5) (andI (dT h4) (andI (dT h3) (and4 (pdec_iff.2 ((((((hS.2 h0).1 h1).1 h2).1 h3).1 h4).2 h5)) (dT h2) (dT h1) (dF h0) rfl))))
     ·skip
      exact ends_q KFa_ok 2000 23 (bs 7 14) [0] [4] [0] (andI (dF h4) (andI (dT h3) (and4 (pdec_iff.2 (((((hS.2 h0).1 h1).1 h2).1 h3).2 h4)) (dT h2) (dT h1) (dF h0) rfl)))
    ·skip
     exact ends_q KFa_ok 2000 23 (bs 7 6) [0] [4] [0] (andI (dF h3) (and4 (pdec_iff.2 ((((hS.2 h0).1 h1).1 h2).2 h3)) (dT h2) (dT h1) (dF h0) rfl))
   ·skip
    exact ends_q KFa_ok 2000 23 (bs 7 2) [0] [4] [0] (andI (dF h2) (andI (dT h1) (andI (dF h0) rfl)))
  ·skip
   refine cond_intro (P := may_Q masked state inn hf hr ho hm k0 k1 k2 k3 hl hlst told ff fr fo fm f0 f1 f2 f3 fl flst (startC E 74 ([.pointer (some ⟨0, 0, none⟩), .agg #[.bool ff, .int .i64 fr, .int .i64 fo, .bool fm, .int .u8 f0, .int .u8 f1, .int .u8 f2, .int .u8 f3, .int .u64 fl, .bool flst]]) ([some (.cells [.bool masked, .int .i64 state, .string inn, .bool hf, .int .i64 hr, .int .i64 ho, .bool hm, .int .u8 k0, .int .u8 k1, .int .u8 k2, .int .u8 k3, .int .u64 hl, .bool hlst, .int .i64 told] 117 none)]))) _ (fun h2 => ?_) (fun h2 => ?_)
   ·skip
    refine cond_intro (P := may_Q masked state inn hf hr ho hm k0 k1 k2 k3 hl hlst told ff fr fo fm f0 f1 f2 f3 fl flst (startC E 74 ([.pointer (some ⟨0, 0, none⟩), .agg #[.bool ff, .int .i64 fr, .int .i64 fo, .bool fm, .int .u8 f0, .int .u8 f1, .int .u8 f2, .int .u8 f3, .int .u64 fl, .bool flst]]) ([some (.cells [.bool masked, .int .i64 state, .string inn, .bool hf, .int .i64 hr, .int .i64 ho, .bool hm, .int .u8 k0, .int .u8 k1, .int .u8 k2, .int .u8 k3, .int .u64 hl, .bool hlst, .int .i64 told] 117 none)]))) _ (fun h3 => ?_) (fun h3 => ?_)
    ·skip
     refine cond_intro (P := may_Q masked state inn hf hr ho hm k0 k1 k2 k3 hl hlst told ff fr fo fm f0 f1 f2 f3 fl flst (startC E 74 ([.pointer (some ⟨0, 0, none⟩), .agg #[.bool ff, .int .i64 fr, .int .i64 fo, .bool fm, .int .u8 f0, .int .u8 f1, .int .u8 f2, .int .u8 f3, .int .u64 fl, .bool flst]]) ([some (.cells [.bool masked, .int .i64 state, .string inn, .bool hf, .int .i64 hr, .int .i64 ho, .bool hm, .int .u8 k0, .int .u8 k1, .int .u8 k2, .int .u8 k3, .int .u64 hl, .bool hlst, .int .i64 told] 117 none)]))) _ (fun h4 => ?_) (fun h4 => ?_)
     ·skip
      exact ends_q KFa_ok 2000 23 (bs 7 28) [0] [4] [0] (andI (dT h4) (andI (dT h3) (and4 (pdec_iff.2 (((((hS.2 h0).2 h1).1 h2).1 h3).1 h4)) (dT h2) (dF h1) (dF h0) rfl)))
     ·skip
      exact ends_q KFa_ok 2000 23 (bs 7 12) [0] [4] [0] (andI (dF h4) (andI (dT h3) (and4 (pdec_iff.2 (((((hS.2 h0).2 h1).1 h2).1 h3).2 h4)) (dT h2) (dF h1) (dF h0) rfl)))
    ·skip
     exact ends_q KFa_ok 2000 23 (bs 7 4) [0] [4] [0] (andI (dF h3) (and4 (pdec_iff.2 ((((hS.2 h0).2 h1).1 h2).2 h3)) (dT h2) (dF h1) (dF h0) rfl))
   ·skip
    exact ends_q KFa_ok 2000 23 (bs 7 0) [0] [4] [0] (andI (dF h2) (andI (dF h1) (andI (dF h0) rfl)))
theorem may_call (masked : Bool) (state : Int) (inn : ByteArray) (hf : Bool) (hr ho : Int) (hm : Bool) (k0 k1 : Int) (k2 k3 hl : Int) (hlst : Bool) (told : Int) (ff : Bool) (fr fo : Int) (fm : Bool) (f0 f1 : Int) (f2 f3 fl : Int) (flst : Bool) (hS : may_S0 masked state inn hf hr ho hm k0 k1 k2 k3 hl hlst told ff fr fo fm f0 f1 f2 f3 fl flst) : CallOk E 74 ([.pointer (some ⟨0, 0, none⟩), .agg #[.bool ff, .int .i64 fr, .int .i64 fo, .bool fm, .int .u8 f0, .int .u8 f1, .int .u8 f2, .int .u8 f3, .int .u64 fl, .bool flst]]) ([some (.cells [.bool masked, .int .i64 state, .string inn, .bool hf, .int .i64 hr, .int .i64 ho, .bool hm, .int .u8 k0, .int .u8 k1, .int .u8 k2, .int .u8 k3, .int .u64 hl, .bool hlst, .int .i64 told] 117 none)]) (may_V masked state inn hf hr ho hm k0 k1 k2 k3 hl hlst told ff fr fo fm f0 f1 f2 f3 fl flst (may_t0 masked state inn hf hr ho hm k0 k1 k2 k3 hl hlst told ff fr fo fm f0 f1 f2 f3 fl flst)) (may_H masked state inn hf hr ho hm k0 k1 k2 k3 hl hlst told ff fr fo fm f0 f1 f2 f3 fl flst (may_t0 masked state inn hf hr ho hm k0 k1 k2 k3 hl hlst told ff fr fo fm f0 f1 f2 f3 fl flst)) := callOk_of_ends (may_ok0 masked state inn hf hr ho hm k0 k1 k2 k3 hl hlst told ff fr fo fm f0 f1 f2 f3 fl flst hS) (by kernel_rfl) (Nat.le_of_ble_eq_true (by kernel_rfl))
def may_ex (a : List Value) (h : Heap) : Bool × Int × ByteArray × Bool × Int × Int × Bool × Int × Int × Int × Int × Int × Bool × Int × Bool × Int × Int × Bool × Int × Int × Int × Int × Int × Bool := ((toBool ((cellsOf h 0).getD 0 undef)), (toInt ((cellsOf h 0).getD 1 undef)), (toStr ((cellsOf h 0).getD 2 undef)), (toBool ((cellsOf h 0).getD 3 undef)), (toInt ((cellsOf h 0).getD 4 undef)), (toInt ((cellsOf h 0).getD 5 undef)), (toBool ((cellsOf h 0).getD 6 undef)), (toInt ((cellsOf h 0).getD 7 undef)), (toInt ((cellsOf h 0).getD 8 undef)), (toInt ((cellsOf h 0).getD 9 undef)), (toInt ((cellsOf h 0).getD 10 undef)), (toInt ((cellsOf h 0).getD 11 undef)), (toBool ((cellsOf h 0).getD 12 undef)), (toInt ((cellsOf h 0).getD 13 undef)), (toBool ((aggOf (a.getD 1 undef)).getD 0 undef)), (toInt ((aggOf (a.getD 1 undef)).getD 1 undef)), (toInt ((aggOf (a.getD 1 undef)).getD 2 undef)), (toBool ((aggOf (a.getD 1 undef)).getD 3 undef)), (toInt ((aggOf (a.getD 1 undef)).getD 4 undef)), (toInt ((aggOf (a.getD 1 undef)).getD 5 undef)), (toInt ((aggOf (a.getD 1 undef)).getD 6 undef)), (toInt ((aggOf (a.getD 1 undef)).getD 7 undef)), (toInt ((aggOf (a.getD 1 undef)).getD 8 undef)), (toBool ((aggOf (a.getD 1 undef)).getD 9 undef)))
noncomputable def may_k : Ct := kS may_ex [.ptr 0 0, .agg [.bool, .int .i64, .int .i64, .bool, .int .u8, .int .u8, .int .u8, .int .u8, .int .u64, .bool]] [.cells [.bool, .int .i64, .str, .bool, .int .i64, .int .i64, .bool, .int .u8, .int .u8, .int .u8, .int .u8, .int .u64, .bool, .int .i64] 117 none] (fun (a0, a1, a2, a3, a4, a5, a6, a7, a8, a9, a10, a11, a12, a13, a14, a15, a16, a17, a18, a19, a20, a21, a22, a23) => may_S0 a0 a1 a2 a3 a4 a5 a6 a7 a8 a9 a10 a11 a12 a13 a14 a15 a16 a17 a18 a19 a20 a21 a22 a23) (fun (a0, a1, a2, a3, a4, a5, a6, a7, a8, a9, a10, a11, a12, a13, a14, a15, a16, a17, a18, a19, a20, a21, a22, a23) => may_V a0 a1 a2 a3 a4 a5 a6 a7 a8 a9 a10 a11 a12 a13 a14 a15 a16 a17 a18 a19 a20 a21 a22 a23 (may_t0 a0 a1 a2 a3 a4 a5 a6 a7 a8 a9 a10 a11 a12 a13 a14 a15 a16 a17 a18 a19 a20 a21 a22 a23)) (fun (a0, a1, a2, a3, a4, a5, a6, a7, a8, a9, a10, a11, a12, a13, a14, a15, a16, a17, a18, a19, a20, a21, a22, a23) => may_H a0 a1 a2 a3 a4 a5 a6 a7 a8 a9 a10 a11 a12 a13 a14 a15 a16 a17 a18 a19 a20 a21 a22 a23 (may_t0 a0 a1 a2 a3 a4 a5 a6 a7 a8 a9 a10 a11 a12 a13 a14 a15 a16 a17 a18 a19 a20 a21 a22 a23))
theorem may_k_ok : KFor E 74 may_k := kS_ok (fun x hx => may_call (x.1) (x.2.1) (x.2.2.1) (x.2.2.2.1) (x.2.2.2.2.1) (x.2.2.2.2.2.1) (x.2.2.2.2.2.2.1) (x.2.2.2.2.2.2.2.1) (x.2.2.2.2.2.2.2.2.1) (x.2.2.2.2.2.2.2.2.2.1) (x.2.2.2.2.2.2.2.2.2.2.1) (x.2.2.2.2.2.2.2.2.2.2.2.1) (x.2.2.2.2.2.2.2.2.2.2.2.2.1) (x.2.2.2.2.2.2.2.2.2.2.2.2.2.1) (x.2.2.2.2.2.2.2.2.2.2.2.2.2.2.1) (x.2.2.2.2.2.2.2.2.2.2.2.2.2.2.2.1) (x.2.2.2.2.2.2.2.2.2.2.2.2.2.2.2.2.1) (x.2.2.2.2.2.2.2.2.2.2.2.2.2.2.2.2.2.1) (x.2.2.2.2.2.2.2.2.2.2.2.2.2.2.2.2.2.2.1) (x.2.2.2.2.2.2.2.2.2.2.2.2.2.2.2.2.2.2.2.1) (x.2.2.2.2.2.2.2.2.2.2.2.2.2.2.2.2.2.2.2.2.1) (x.2.2.2.2.2.2.2.2.2.2.2.2.2.2.2.2.2.2.2.2.2.1) (x.2.2.2.2.2.2.2.2.2.2.2.2.2.2.2.2.2.2.2.2.2.2.1) (x.2.2.2.2.2.2.2.2.2.2.2.2.2.2.2.2.2.2.2.2.2.2.2) hx) (fun _ _ => rfl) (fun _ _ => rfl)


noncomputable def KFa2 : Ctr := ctrOf E [(73, anyA, headc_k), (74, ptrA, may_k), (75, anyA, mask_k)]
theorem KFa2_ok : KOk E KFa2 := ctr_cons headc_k_ok (ctr_cons may_k_ok (ctr_cons mask_k_ok ctr_nil))

abbrev rstep_R : Type := Int × Int × Bool × Int × ByteArray × Bool × Int × ByteArray × Bool × Int × Int × Bool × Int × Int × Int × Int × Int × Bool × Int
def rstep_V (masked : Bool) (state : Int) (inn : ByteArray) (hf : Bool) (hr ho : Int) (hm : Bool) (k0 k1 : Int) (k2 k3 hl : Int) (hlst : Bool) (told : Int) (r : Int × Int × Bool × Int × ByteArray × Bool × Int × ByteArray × Bool × Int × Int × Bool × Int × Int × Int × Int × Int × Bool × Int) : Value := .tuple #[.agg #[.int .i64 r.1, .int .i64 r.2.1, .bool r.2.2.1, .int .i64 r.2.2.2.1, .string r.2.2.2.2.1], .bool r.2.2.2.2.2.1]
def rstep_H (masked : Bool) (state : Int) (inn : ByteArray) (hf : Bool) (hr ho : Int) (hm : Bool) (k0 k1 : Int) (k2 k3 hl : Int) (hlst : Bool) (told : Int) (r : Int × Int × Bool × Int × ByteArray × Bool × Int × ByteArray × Bool × Int × Int × Bool × Int × Int × Int × Int × Int × Bool × Int) : Heap := [some (.cells [.bool masked, .int .i64 r.2.2.2.2.2.2.1, .string r.2.2.2.2.2.2.2.1, .bool r.2.2.2.2.2.2.2.2.1, .int .i64 r.2.2.2.2.2.2.2.2.2.1, .int .i64 r.2.2.2.2.2.2.2.2.2.2.1, .bool r.2.2.2.2.2.2.2.2.2.2.2.1, .int .u8 r.2.2.2.2.2.2.2.2.2.2.2.2.1, .int .u8 r.2.2.2.2.2.2.2.2.2.2.2.2.2.1, .int .u8 r.2.2.2.2.2.2.2.2.2.2.2.2.2.2.1, .int .u8 r.2.2.2.2.2.2.2.2.2.2.2.2.2.2.2.1, .int .u64 r.2.2.2.2.2.2.2.2.2.2.2.2.2.2.2.2.1, .bool r.2.2.2.2.2.2.2.2.2.2.2.2.2.2.2.2.2.1, .int .i64 r.2.2.2.2.2.2.2.2.2.2.2.2.2.2.2.2.2.2] 117 none)]
noncomputable def rstep_Q (masked : Bool) (state : Int) (inn : ByteArray) (hf : Bool) (hr ho : Int) (hm : Bool) (k0 k1 : Int) (k2 k3 hl : Int) (hlst : Bool) (told : Int) (C : Cfg) (r : rstep_R) : Prop :=
 let p := r
 AEnds E 56 1 C (rstep_V masked state inn hf hr ho hm k0 k1 k2 k3 hl hlst told p) (rstep_H masked state inn hf hr ho hm k0 k1 k2 k3 hl hlst told p)
noncomputable def rstep_t0 (masked : Bool) (state : Int) (inn : ByteArray) (hf : Bool) (hr ho : Int) (hm : Bool) (k0 k1 : Int) (k2 k3 hl : Int) (hlst : Bool) (told : Int) : rstep_R :=
 bif state == 2 then (0, 0, false, 0, { data := #[] }, false, state, inn, hf, hr, ho, hm, k0, k1, k2, k3, hl, hlst, told)
 else bif state == 0 then bif !(headT inn).2.2.2.2.2.2.2.2.2.2.2 then (0, 0, false, 0, { data := #[] }, false, state, inn, hf, hr, ho, hm, k0, k1, k2, k3, hl, hlst, told)
   else bif !may_t0 masked state inn hf hr ho hm k0 k1 k2 k3 hl hlst told (headT inn).1 (headT inn).2.1 (headT inn).2.2.1 (headT inn).2.2.2.1 (headT inn).2.2.2.2.1 (headT inn).2.2.2.2.2.1 (headT inn).2.2.2.2.2.2.1 (headT inn).2.2.2.2.2.2.2.1 (headT inn).2.2.2.2.2.2.2.2.1 (headT inn).2.2.2.2.2.2.2.2.2.1 then (4, 0, false, 0, { data := #[] }, true, 2, { data := #[] }, hf, hr, ho, hm, k0, k1, k2, k3, hl, hlst, told)
    else (1, (headT inn).2.2.1, (headT inn).1, IntKind.i64.wrap (headT inn).2.2.2.2.2.2.2.2.1, { data := #[] }, true, 1, sub inn (headT inn).2.2.2.2.2.2.2.2.2.2.1.toNat (slen inn), (headT inn).1, (headT inn).2.1, (headT inn).2.2.1, (headT inn).2.2.2.1, (headT inn).2.2.2.2.1, (headT inn).2.2.2.2.2.1, (headT inn).2.2.2.2.2.2.1, (headT inn).2.2.2.2.2.2.2.1, (headT inn).2.2.2.2.2.2.2.2.1, (headT inn).2.2.2.2.2.2.2.2.2.1, 0)
  else bif IntKind.i64.wrap (IntKind.i64.wrap hl - told) == 0 then (3, 0, false, 0, { data := #[] }, true, 0, inn, hf, hr, ho, hm, k0, k1, k2, k3, hl, hlst, told)
   else bif (bif decide (((slen inn) : Int) < IntKind.i64.wrap (IntKind.i64.wrap hl - told)) then ((slen inn) : Int) else IntKind.i64.wrap (IntKind.i64.wrap hl - told)) == 0 then (0, 0, false, 0, { data := #[] }, false, state, inn, hf, hr, ho, hm, k0, k1, k2, k3, hl, hlst, told)
    else (2, 0, false, 0, maskD [k0, k1, k2, k3] told (sub inn 0 (bif decide (((slen inn) : Int) < IntKind.i64.wrap (IntKind.i64.wrap hl - told)) then ((slen inn) : Int) else IntKind.i64.wrap (IntKind.i64.wrap hl - told)).toNat), true, state, sub inn (bif decide (((slen inn) : Int) < IntKind.i64.wrap (IntKind.i64.wrap hl - told)) then ((slen inn) : Int) else IntKind.i64.wrap (IntKind.i64.wrap hl - told)).toNat (slen inn), hf, hr, ho, hm, k0, k1, k2, k3, hl, hlst, IntKind.i64.wrap (told + bif decide (((slen inn) : Int) < IntKind.i64.wrap (IntKind.i64.wrap hl - told)) then ((slen inn) : Int) else IntKind.i64.wrap (IntKind.i64.wrap hl - told)))
def rstep_S0 (masked : Bool) (state : Int) (inn : ByteArray) (hf : Bool) (hr ho : Int) (hm : Bool) (k0 k1 : Int) (k2 k3 hl : Int) (hlst : Bool) (told : Int) : Prop :=
 ((state == 2) = true → True) ∧
 ((state == 2) = false → ((state == 0) = true → ((!(headT inn).2.2.2.2.2.2.2.2.2.2.2) = true → headc_pre inn) ∧
   ((!(headT inn).2.2.2.2.2.2.2.2.2.2.2) = false → ((!may_t0 masked state inn hf hr ho hm k0 k1 k2 k3 hl hlst told (headT inn).1 (headT inn).2.1 (headT inn).2.2.1 (headT inn).2.2.2.1 (headT inn).2.2.2.2.1 (headT inn).2.2.2.2.2.1 (headT inn).2.2.2.2.2.2.1 (headT inn).2.2.2.2.2.2.2.1 (headT inn).2.2.2.2.2.2.2.2.1 (headT inn).2.2.2.2.2.2.2.2.2.1) = true → (may_S0 masked state inn hf hr ho hm k0 k1 k2 k3 hl hlst told (headT inn).1 (headT inn).2.1 (headT inn).2.2.1 (headT inn).2.2.2.1 (headT inn).2.2.2.2.1 (headT inn).2.2.2.2.2.1 (headT inn).2.2.2.2.2.2.1 (headT inn).2.2.2.2.2.2.2.1 (headT inn).2.2.2.2.2.2.2.2.1 (headT inn).2.2.2.2.2.2.2.2.2.1) ∧ (headc_pre inn)) ∧
    ((!may_t0 masked state inn hf hr ho hm k0 k1 k2 k3 hl hlst told (headT inn).1 (headT inn).2.1 (headT inn).2.2.1 (headT inn).2.2.2.1 (headT inn).2.2.2.2.1 (headT inn).2.2.2.2.2.1 (headT inn).2.2.2.2.2.2.1 (headT inn).2.2.2.2.2.2.2.1 (headT inn).2.2.2.2.2.2.2.2.1 (headT inn).2.2.2.2.2.2.2.2.2.1) = false → ((toL (sub inn (headT inn).2.2.2.2.2.2.2.2.2.2.1.toNat (slen inn)) == toL (sub inn (headT inn).2.2.2.2.2.2.2.2.2.2.1.toNat (slen inn))) = true) ∧ ((headT inn).2.2.2.2.2.2.2.2.2.2.1.toNat ≤ slen inn) ∧ (0 ≤ (headT inn).2.2.2.2.2.2.2.2.2.2.1) ∧ (((headT inn).1 == (headT inn).1) = true) ∧ (((headT inn).2.2.2.1 == (headT inn).2.2.2.1) = true) ∧ (((headT inn).2.2.2.2.2.2.2.2.2.1 == (headT inn).2.2.2.2.2.2.2.2.2.1) = true) ∧ (may_S0 masked state inn hf hr ho hm k0 k1 k2 k3 hl hlst told (headT inn).1 (headT inn).2.1 (headT inn).2.2.1 (headT inn).2.2.2.1 (headT inn).2.2.2.2.1 (headT inn).2.2.2.2.2.1 (headT inn).2.2.2.2.2.2.1 (headT inn).2.2.2.2.2.2.2.1 (headT inn).2.2.2.2.2.2.2.2.1 (headT inn).2.2.2.2.2.2.2.2.2.1) ∧ (headc_pre inn)))) ∧
  ((state == 0) = false → ((IntKind.i64.wrap (IntKind.i64.wrap hl - told) == 0) = true → True) ∧
   ((IntKind.i64.wrap (IntKind.i64.wrap hl - told) == 0) = false → (((bif decide (((slen inn) : Int) < IntKind.i64.wrap (IntKind.i64.wrap hl - told)) then ((slen inn) : Int) else IntKind.i64.wrap (IntKind.i64.wrap hl - told)) == 0) = true → True) ∧
    (((bif decide (((slen inn) : Int) < IntKind.i64.wrap (IntKind.i64.wrap hl - told)) then ((slen inn) : Int) else IntKind.i64.wrap (IntKind.i64.wrap hl - told)) == 0) = false → ((bif decide (((slen inn) : Int) < IntKind.i64.wrap (IntKind.i64.wrap hl - told)) then ((slen inn) : Int) else IntKind.i64.wrap (IntKind.i64.wrap hl - told)).toNat ≤ slen inn) ∧ (0 ≤ bif decide (((slen inn) : Int) < IntKind.i64.wrap (IntKind.i64.wrap hl - told)) then ((slen inn) : Int) else IntKind.i64.wrap (IntKind.i64.wrap hl - told)) ∧ (mask_pre k0 k1 k2 k3 told (sub inn 0 (bif decide (((slen inn) : Int) < IntKind.i64.wrap (IntKind.i64.wrap hl - told)) then ((slen inn) : Int) else IntKind.i64.wrap (IntKind.i64.wrap hl - told)).toNat)) ∧ ((bif decide (((slen inn) : Int) < IntKind.i64.wrap (IntKind.i64.wrap hl - told)) then ((slen inn) : Int) else IntKind.i64.wrap (IntKind.i64.wrap hl - told)) ≤ ((slen inn) : Int))))))
theorem rstep_ok0 (masked : Bool) (state : Int) (inn : ByteArray) (hf : Bool) (hr ho : Int) (hm : Bool) (k0 k1 : Int) (k2 k3 hl : Int) (hlst : Bool) (told : Int) (hS : rstep_S0 masked state inn hf hr ho hm k0 k1 k2 k3 hl hlst told) : rstep_Q masked state inn hf hr ho hm k0 k1 k2 k3 hl hlst told (startC E 56 ([.pointer (some ⟨0, 0, none⟩)]) ([some (.cells [.bool masked, .int .i64 state, .string inn, .bool hf, .int .i64 hr, .int .i64 ho, .bool hm, .int .u8 k0, .int .u8 k1, .int .u8 k2, .int .u8 k3, .int .u64 hl, .bool hlst, .int .i64 told] 117 none)])) (rstep_t0 masked state inn hf hr ho hm k0 k1 k2 k3 hl hlst told) := by
 unfold rstep_S0 at hS
 unfold rstep_t0
 refine cond_intro (P := rstep_Q masked state inn hf hr ho hm k0 k1 k2 k3 hl hlst told (startC E 56 ([.pointer (some ⟨0, 0, none⟩)]) ([some (.cells [.bool masked, .int .i64 state, .string inn, .bool hf, .int .i64 hr, .int .i64 ho, .bool hm, .int .u8 k0, .int .u8 k1, .int .u8 k2, .int .u8 k3, .int .u64 hl, .bool hlst, .int .i64 told] 117 none)]))) _ (fun h1 => ?_) (fun h1 => ?_)
 ·skip
  exact ends_q KFa2_ok 2000 27 (bs 2 2) [0, 1] [2, 3] [0] (andI (dT h1) rfl)
 ·skip
  refine cond_intro (P := rstep_Q masked state inn hf hr ho hm k0 k1 k2 k3 hl hlst told (startC E 56 ([.pointer (some ⟨0, 0, none⟩)]) ([some (.cells [.bool masked, .int .i64 state, .string inn, .bool hf, .int .i64 hr, .int .i64 ho, .bool hm, .int .u8 k0, .int .u8 k1, .int .u8 k2, .int .u8 k3, .int .u64 hl, .bool hlst, .int .i64 told] 117 none)]))) _ (fun h2 => ?_) (fun h2 => ?_)
  ·skip
   refine cond_intro (P := rstep_Q masked state inn hf hr ho hm k0 k1 k2 k3 hl hlst told (startC E 56 ([.pointer (some ⟨0, 0, none⟩)]) ([some (.cells [.bool masked, .int .i64 state, .string inn, .bool hf, .int .i64 hr, .int .i64 ho, .bool hm, .int .u8 k0, .int .u8 k1, .int .u8 k2, .int .u8 k3, .int .u64 hl, .bool hlst, .int .i64 told] 117 none)]))) _ (fun h3 => ?_) (fun h3 => ?_)
   ·skip
    exact ends_q KFa2_ok 2000 75 (bs 4 12) [0, 1] [2, 3] [0] (and4 (dT h3) (pdec_iff.2 (((hS.2 h1).1 h2).1 h3)) (dT h2) (dF h1) rfl)
   ·skip
    refine cond_intro (P := rstep_Q masked state inn hf hr ho hm k0 k1 k2 k3 hl hlst told (startC E 56 ([.pointer (some ⟨0, 0, none⟩)]) ([some (.cells [.bool masked, .int .i64 state, .string inn, .bool hf, .int .i64 hr, .int .i64 ho, .bool hm, .int .u8 k0, .int .u8 k1, .int .u8 k2, .int .u8 k3, .int .u64 hl, .bool hlst, .int .i64 told] 117 none)]))) _ (fun h4 => ?_) (fun h4 => ?_)
    ·skip
     have z0 := (((hS.2 h1).1 h2).2 h3).1 h4; exact ends_q KFa2_ok 2000 96 (bs 5 20) [0, 1] [2, 3] [0] (andI (dT h4) (andI (pdec_iff.2 z0.1) (and4 (dF h3) (pdec_iff.2 z0.2) (dT h2) (dF h1) rfl)))
    ·skip
     have z0 := (((hS.2 h1).1 h2).2 h3).2 h4; exact ends_q KFa2_ok 2000 95 (bs 5 4) [0, 1] [2, 3] [0] (and8 (beq_self_eq_true ((headT inn).2.2.2.2.2.2.2.2.2.2.1)) (z0.1) (decide_eq_true z0.2.1) (decide_eq_true z0.2.2.1) (z0.2.2.2.1) (beq_self_eq_true ((headT inn).2.1)) (beq_self_eq_true ((headT inn).2.2.1)) (z0.2.2.2.2.1) (and8 (beq_self_eq_true ((headT inn).2.2.2.2.1)) (beq_self_eq_true ((headT inn).2.2.2.2.2.1)) (beq_self_eq_true ((headT inn).2.2.2.2.2.2.1)) (beq_self_eq_true ((headT inn).2.2.2.2.2.2.2.1)) (beq_self_eq_true ((headT inn).2.2.2.2.2.2.2.2.1)) (z0.2.2.2.2.2.1) (z0.2.2.2.1) (beq_self_eq_true ((headT inn).2.1)) (and8 (beq_self_eq_true ((headT inn).2.2.1)) (z0.2.2.2.2.1) (beq_self_eq_true ((headT inn).2.2.2.2.1)) (beq_self_eq_true ((headT inn).2.2.2.2.2.1)) (beq_self_eq_true ((headT inn).2.2.2.2.2.2.1)) (beq_self_eq_true ((headT inn).2.2.2.2.2.2.2.1)) (beq_self_eq_true ((headT inn).2.2.2.2.2.2.2.2.1)) (z0.2.2.2.2.2.1) (and8 (decide_eq_true z0.2.1) (decide_eq_true z0.2.2.1) (dF h4) (pdec_iff.2 z0.2.2.2.2.2.2.1) (dF h3) (pdec_iff.2 z0.2.2.2.2.2.2.2) (dT h2) (dF h1) rfl))))
  ·skip
   refine cond_intro (P := rstep_Q masked state inn hf hr ho hm k0 k1 k2 k3 hl hlst told (startC E 56 ([.pointer (some ⟨0, 0, none⟩)]) ([some (.cells [.bool masked, .int .i64 state, .string inn, .bool hf, .int .i64 hr, .int .i64 ho, .bool hm, .int .u8 k0, .int .u8 k1, .int .u8 k2, .int .u8 k3, .int .u64 hl, .bool hlst, .int .i64 told] 117 none)]))) _ (fun h3 => ?_) (fun h3 => ?_)
   ·skip
    exact ends_q KFa2_ok 2000 70 (bs 4 8) [0, 1] [2, 3] [0] (andI (dT h3) (andI (dF h2) (andI (dF h1) rfl)))
   ·skip
    refine cond_intro (P := rstep_Q masked state inn hf hr ho hm k0 k1 k2 k3 hl hlst told (startC E 56 ([.pointer (some ⟨0, 0, none⟩)]) ([some (.cells [.bool masked, .int .i64 state, .string inn, .bool hf, .int .i64 hr, .int .i64 ho, .bool hm, .int .u8 k0, .int .u8 k1, .int .u8 k2, .int .u8 k3, .int .u64 hl, .bool hlst, .int .i64 told] 117 none)]))) _ (fun h4 => ?_) (fun h4 => ?_)
    ·skip
     exact ends_q KFa2_ok 2000 82 (bs 5 16) [0, 1] [2, 3] [0] (and4 (dT h4) (dF h3) (dF h2) (dF h1) rfl)
    ·skip
     have z0 := (((hS.2 h1).2 h2).2 h3).2 h4; exact ends_q (ok := and ((bif decide (((slen inn) : Int) < IntKind.i64.wrap (IntKind.i64.wrap hl - told)) then ((slen inn) : Int) else IntKind.i64.wrap (IntKind.i64.wrap hl - told)) == bif decide (((slen inn) : Int) < IntKind.i64.wrap (IntKind.i64.wrap hl - told)) then ((slen inn) : Int) else IntKind.i64.wrap (IntKind.i64.wrap hl - told)) (and (IntKind.i64.wrap (told + bif decide (((slen inn) : Int) < IntKind.i64.wrap (IntKind.i64.wrap hl - told)) then ((slen inn) : Int) else IntKind.i64.wrap (IntKind.i64.wrap hl - told)) == IntKind.i64.wrap (told + bif decide (((slen inn) : Int) < IntKind.i64.wrap (IntKind.i64.wrap hl - told)) then ((slen inn) : Int) else IntKind.i64.wrap (IntKind.i64.wrap hl - told))) (and (decide ((bif decide (((slen inn) : Int) < IntKind.i64.wrap (IntKind.i64.wrap hl - told)) then ((slen inn) : Int) else IntKind.i64.wrap (IntKind.i64.wrap hl - told)).toNat ≤ slen inn)) (and (decide (0 ≤ bif decide (((slen inn) : Int) < IntKind.i64.wrap (IntKind.i64.wrap hl - told)) then ((slen inn) : Int) else IntKind.i64.wrap (IntKind.i64.wrap hl - told))) (and (pdec (mask_pre k0 k1 k2 k3 told (sub inn 0 (bif decide (((slen inn) : Int) < IntKind.i64.wrap (IntKind.i64.wrap hl - told)) then ((slen inn) : Int) else IntKind.i64.wrap (IntKind.i64.wrap hl - told)).toNat))) (and (decide (0 ≤ bif decide (((slen inn) : Int) < IntKind.i64.wrap (IntKind.i64.wrap hl - told)) then ((slen inn) : Int) else IntKind.i64.wrap (IntKind.i64.wrap hl - told))) (and (decide ((bif decide (((slen inn) : Int) < IntKind.i64.wrap (IntKind.i64.wrap hl - told)) then ((slen inn) : Int) else IntKind.i64.wrap (IntKind.i64.wrap hl - told)) ≤ ((slen inn) : Int))) (and (((bif decide (((slen inn) : Int) < IntKind.i64.wrap (IntKind.i64.wrap hl - told)) then ((slen inn) : Int) else IntKind.i64.wrap (IntKind.i64.wrap hl - told)) == 0) == false) (and ((IntKind.i64.wrap (IntKind.i64.wrap hl - told) == 0) == false) (and ((state == 0) == false) (and ((state == 2) == false) (true)))))))))))) KFa2_ok 2000 88 (bs 5 0) [0, 1] [2, 3] [0] (and8 (beq_self_eq_true _) (beq_self_eq_true (IntKind.i64.wrap (told + bif decide (((slen inn) : Int) < IntKind.i64.wrap (IntKind.i64.wrap hl - told)) then ((slen inn) : Int) else IntKind.i64.wrap (IntKind.i64.wrap hl - told)))) (decide_eq_true z0.1) (decide_eq_true z0.2.1) (pdec_iff.2 z0.2.2.1) (decide_eq_true z0.2.1) (decide_eq_true z0.2.2.2) (dF h4) (andI (dF h3) (andI (dF h2) (andI (dF h1) rfl))))
theorem rstep_call (masked : Bool) (state : Int) (inn : ByteArray) (hf : Bool) (hr ho : Int) (hm : Bool) (k0 k1 : Int) (k2 k3 hl : Int) (hlst : Bool) (told : Int) (hS : rstep_S0 masked state inn hf hr ho hm k0 k1 k2 k3 hl hlst told) : CallOk E 56 ([.pointer (some ⟨0, 0, none⟩)]) ([some (.cells [.bool masked, .int .i64 state, .string inn, .bool hf, .int .i64 hr, .int .i64 ho, .bool hm, .int .u8 k0, .int .u8 k1, .int .u8 k2, .int .u8 k3, .int .u64 hl, .bool hlst, .int .i64 told] 117 none)]) (rstep_V masked state inn hf hr ho hm k0 k1 k2 k3 hl hlst told (rstep_t0 masked state inn hf hr ho hm k0 k1 k2 k3 hl hlst told)) (rstep_H masked state inn hf hr ho hm k0 k1 k2 k3 hl hlst told (rstep_t0 masked state inn hf hr ho hm k0 k1 k2 k3 hl hlst told)) := callOk_of_ends (rstep_ok0 masked state inn hf hr ho hm k0 k1 k2 k3 hl hlst told hS) (by kernel_rfl) (Nat.le_of_ble_eq_true (by kernel_rfl))
def rstep_ex (a : List Value) (h : Heap) : Bool × Int × ByteArray × Bool × Int × Int × Bool × Int × Int × Int × Int × Int × Bool × Int := ((toBool ((cellsOf h 0).getD 0 undef)), (toInt ((cellsOf h 0).getD 1 undef)), (toStr ((cellsOf h 0).getD 2 undef)), (toBool ((cellsOf h 0).getD 3 undef)), (toInt ((cellsOf h 0).getD 4 undef)), (toInt ((cellsOf h 0).getD 5 undef)), (toBool ((cellsOf h 0).getD 6 undef)), (toInt ((cellsOf h 0).getD 7 undef)), (toInt ((cellsOf h 0).getD 8 undef)), (toInt ((cellsOf h 0).getD 9 undef)), (toInt ((cellsOf h 0).getD 10 undef)), (toInt ((cellsOf h 0).getD 11 undef)), (toBool ((cellsOf h 0).getD 12 undef)), (toInt ((cellsOf h 0).getD 13 undef)))
noncomputable def rstep_k : Ct := kS rstep_ex [.ptr 0 0] [.cells [.bool, .int .i64, .str, .bool, .int .i64, .int .i64, .bool, .int .u8, .int .u8, .int .u8, .int .u8, .int .u64, .bool, .int .i64] 117 none] (fun (a0, a1, a2, a3, a4, a5, a6, a7, a8, a9, a10, a11, a12, a13) => rstep_S0 a0 a1 a2 a3 a4 a5 a6 a7 a8 a9 a10 a11 a12 a13) (fun (a0, a1, a2, a3, a4, a5, a6, a7, a8, a9, a10, a11, a12, a13) => rstep_V a0 a1 a2 a3 a4 a5 a6 a7 a8 a9 a10 a11 a12 a13 (rstep_t0 a0 a1 a2 a3 a4 a5 a6 a7 a8 a9 a10 a11 a12 a13)) (fun (a0, a1, a2, a3, a4, a5, a6, a7, a8, a9, a10, a11, a12, a13) => rstep_H a0 a1 a2 a3 a4 a5 a6 a7 a8 a9 a10 a11 a12 a13 (rstep_t0 a0 a1 a2 a3 a4 a5 a6 a7 a8 a9 a10 a11 a12 a13))
theorem rstep_k_ok : KFor E 56 rstep_k := kS_ok (fun x hx => rstep_call (x.1) (x.2.1) (x.2.2.1) (x.2.2.2.1) (x.2.2.2.2.1) (x.2.2.2.2.2.1) (x.2.2.2.2.2.2.1) (x.2.2.2.2.2.2.2.1) (x.2.2.2.2.2.2.2.2.1) (x.2.2.2.2.2.2.2.2.2.1) (x.2.2.2.2.2.2.2.2.2.2.1) (x.2.2.2.2.2.2.2.2.2.2.2.1) (x.2.2.2.2.2.2.2.2.2.2.2.2.1) (x.2.2.2.2.2.2.2.2.2.2.2.2.2) hx) (fun _ _ => rfl) (fun _ _ => rfl)


end Go.Proofs.Ytfpnjpbdaniomaa
