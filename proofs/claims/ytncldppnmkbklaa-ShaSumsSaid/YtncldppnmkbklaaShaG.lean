/-
  A text written: the unit.
-/
import Derived.Test.YtncldppnmkbklaaAmSlim
import Derived.Test.YtncldppnmkbklaaShaF
set_option linter.unusedVariables false
set_option linter.unusedSimpArgs false
open Go Go.Am
namespace Go.Proofs.Ytncldppnmkbklaa

noncomputable def KG : Ctr := ctrOf E [(13, anyA, afterc_k)]
theorem KG_ok : KOk E KG := ctr_cons afterc_k_ok ctr_nil

noncomputable def write_b1 (b : Bool) (a0 a1 : Int) (a2 a3 a4 : Int) (rest : ByteArray) (n : Int) (s : ByteArray) : Cfg := cfgOf (goNil E KG 2000 65 (some [false, true]) [] [] [0] [0, 1] [] [] [] (startC E 9 ([.pointer (some ⟨0, 0, none⟩), .string s]) ([some (.cells [.bool b, .int .u32 a0, .int .u32 a1, .int .u32 a2, .int .u32 a3, .int .u32 a4, .string rest, .int .i64 n] 39 none)])))
noncomputable def write_h1 (b : Bool) (a0 a1 : Int) (a2 a3 a4 : Int) (rest : ByteArray) (n : Int) (s : ByteArray) (c0_0 : Bool) (c0_1 c0_2 : Int) (c0_3 c0_4 c0_5 : Int) (t1 : ByteArray) : Cfg := wTmp 1 (.string t1) (wCell 0 5 (.int .u32 c0_5) (wCell 0 4 (.int .u32 c0_4) (wCell 0 3 (.int .u32 c0_3) (wCell 0 2 (.int .u32 c0_2) (wCell 0 1 (.int .u32 c0_1) (wCell 0 0 (.bool c0_0) (write_b1 b a0 a1 a2 a3 a4 rest n s)))))))
abbrev write_R : Type := (Bool × Int × Int × Int × Int × Int × ByteArray) ⊕ (Bool × Int × Int × Int × Int × Int × ByteArray)
noncomputable def write_V (b : Bool) (a0 a1 : Int) (a2 a3 a4 : Int) (rest : ByteArray) (n : Int) (s : ByteArray) (r : Bool × Int × Int × Int × Int × Int × ByteArray) : Value := .tuple #[]
noncomputable def write_H (b : Bool) (a0 a1 : Int) (a2 a3 a4 : Int) (rest : ByteArray) (n : Int) (s : ByteArray) (r : Bool × Int × Int × Int × Int × Int × ByteArray) : Heap := [some (.cells [.bool r.1, .int .u32 r.2.1, .int .u32 r.2.2.1, .int .u32 r.2.2.2.1, .int .u32 r.2.2.2.2.1, .int .u32 r.2.2.2.2.2.1, .string r.2.2.2.2.2.2, .int .i64 (IntKind.i64.wrap (n + (↑(slen s) : Int)))] 39 none)]
noncomputable def write_Q (b : Bool) (a0 a1 : Int) (a2 a3 a4 : Int) (rest : ByteArray) (n : Int) (s : ByteArray) (C : Cfg) (r : write_R) : Prop :=
  match r with
  | .inl (p) => Gets E 1 C (write_h1 b a0 a1 a2 a3 a4 rest n s (p.1) (p.2.1) (p.2.2.1) (p.2.2.2.1) (p.2.2.2.2.1) (p.2.2.2.2.2.1) (p.2.2.2.2.2.2))
  | .inr (p) => AEnds E 9 1 C (write_V b a0 a1 a2 a3 a4 rest n s p) (write_H b a0 a1 a2 a3 a4 rest n s p)
theorem write_go1 {b : Bool} {a0 : Int} {a1 : Int} {a2 : Int} {a3 : Int} {a4 : Int} {rest : ByteArray} {n : Int} {s : ByteArray} {C : Cfg} {c0_0 : Bool} {c0_1 : Int} {c0_2 : Int} {c0_3 : Int} {c0_4 : Int} {c0_5 : Int} {t1 : ByteArray} (h : write_Q b a0 a1 a2 a3 a4 rest n s C (.inl ((c0_0, c0_1, c0_2, c0_3, c0_4, c0_5, t1)))) : Gets E 1 C (write_h1 b a0 a1 a2 a3 a4 rest n s c0_0 c0_1 c0_2 c0_3 c0_4 c0_5 t1) := h
theorem write_end {b : Bool} {a0 : Int} {a1 : Int} {a2 : Int} {a3 : Int} {a4 : Int} {rest : ByteArray} {n : Int} {s : ByteArray} {C : Cfg} {r : Bool × Int × Int × Int × Int × Int × ByteArray} (h : write_Q b a0 a1 a2 a3 a4 rest n s C (.inr (r))) : AEnds E 9 1 C (write_V b a0 a1 a2 a3 a4 rest n s r) (write_H b a0 a1 a2 a3 a4 rest n s r) := h
noncomputable def write_t0 (b : Bool) (a0 a1 : Int) (a2 a3 a4 : Int) (rest : ByteArray) (n : Int) (s : ByteArray) : write_R :=
  bif !b then .inl ((true, 1732584193, 4023233417, 2562383102, 271733878, 3285377520, cat rest s))
  else .inl ((b, a0, a1, a2, a3, a4, cat rest s))
def write_S0 (b : Bool) (a0 a1 : Int) (a2 a3 a4 : Int) (rest : ByteArray) (n : Int) (s : ByteArray) : Prop :=
  ((!b) = true → slen rest + slen s ≤ 9223372036854775807) ∧
  ((!b) = false → slen rest + slen s ≤ 9223372036854775807)
theorem write_ok0 (b : Bool) (a0 a1 : Int) (a2 a3 a4 : Int) (rest : ByteArray) (n : Int) (s : ByteArray) (hS : write_S0 b a0 a1 a2 a3 a4 rest n s) : write_Q b a0 a1 a2 a3 a4 rest n s (startC E 9 ([.pointer (some ⟨0, 0, none⟩), .string s]) ([some (.cells [.bool b, .int .u32 a0, .int .u32 a1, .int .u32 a2, .int .u32 a3, .int .u32 a4, .string rest, .int .i64 n] 39 none)])) (write_t0 b a0 a1 a2 a3 a4 rest n s) := by
  unfold write_S0 at hS
  unfold write_t0
  refine cond_intro (P := write_Q b a0 a1 a2 a3 a4 rest n s (startC E 9 ([.pointer (some ⟨0, 0, none⟩), .string s]) ([some (.cells [.bool b, .int .u32 a0, .int .u32 a1, .int .u32 a2, .int .u32 a3, .int .u32 a4, .string rest, .int .i64 n] 39 none)]))) _ (fun h1 => ?_) (fun h1 => ?_)
  · skip
    show Gets E 1 _ (write_h1 b a0 a1 a2 a3 a4 rest n s true (1732584193) (4023233417) (2562383102) (271733878) (3285377520) (cat rest s))
    exact reach_q KG_ok 2000 65 (some [false, true]) [] [] [0] [0, 1] [] [] [] (andI (decide_eq_true (hS.1 h1)) (andI (dT h1) (rfl)))
  · skip
    show Gets E 1 _ (write_h1 b a0 a1 a2 a3 a4 rest n s b a0 a1 a2 a3 a4 (cat rest s))
    exact reach_q KG_ok 2000 45 (some [false, false]) [] [] [0] [0, 1] [] [] [] (andI (decide_eq_true (hS.2 h1)) (andI (dF h1) (rfl)))
noncomputable def write_t1 (b : Bool) (a0 a1 : Int) (a2 a3 a4 : Int) (rest : ByteArray) (n : Int) (s : ByteArray) (c0_0 : Bool) (c0_1 c0_2 : Int) (c0_3 c0_4 c0_5 : Int) (t1 : ByteArray) : write_R :=
  bif decide (64 ≤ (↑(slen t1) : Int)) then .inl ((c0_0, (aF (c0_1, c0_2, c0_3, c0_4, c0_5) (sub t1 0 64)).fst, (aF (c0_1, c0_2, c0_3, c0_4, c0_5) (sub t1 0 64)).snd.fst, (aF (c0_1, c0_2, c0_3, c0_4, c0_5) (sub t1 0 64)).snd.snd.fst, (aF (c0_1, c0_2, c0_3, c0_4, c0_5) (sub t1 0 64)).snd.snd.snd.fst, (aF (c0_1, c0_2, c0_3, c0_4, c0_5) (sub t1 0 64)).snd.snd.snd.snd, sub t1 64 (slen t1)))
  else .inr ((c0_0, c0_1, c0_2, c0_3, c0_4, c0_5, t1))
noncomputable def write_S1 (b : Bool) (a0 a1 : Int) (a2 a3 a4 : Int) (rest : ByteArray) (n : Int) (s : ByteArray) (c0_0 : Bool) (c0_1 c0_2 : Int) (c0_3 c0_4 c0_5 : Int) (t1 : ByteArray) : Prop :=
  ((decide (64 ≤ (↑(slen t1) : Int))) = true → (64 ≤ slen t1) ∧ (afterc_pre c0_1 c0_2 c0_3 c0_4 c0_5 (sub t1 0 64)) ∧ (64 ≤ (↑(slen t1) : Int))) ∧
  ((decide (64 ≤ (↑(slen t1) : Int))) = false → True)
theorem write_ok1 (b : Bool) (a0 a1 : Int) (a2 a3 a4 : Int) (rest : ByteArray) (n : Int) (s : ByteArray) (c0_0 : Bool) (c0_1 c0_2 : Int) (c0_3 c0_4 c0_5 : Int) (t1 : ByteArray) (hS : write_S1 b a0 a1 a2 a3 a4 rest n s c0_0 c0_1 c0_2 c0_3 c0_4 c0_5 t1) : write_Q b a0 a1 a2 a3 a4 rest n s (write_h1 b a0 a1 a2 a3 a4 rest n s c0_0 c0_1 c0_2 c0_3 c0_4 c0_5 t1) (write_t1 b a0 a1 a2 a3 a4 rest n s c0_0 c0_1 c0_2 c0_3 c0_4 c0_5 t1) := by
  unfold write_S1 at hS
  unfold write_t1
  refine cond_intro (P := write_Q b a0 a1 a2 a3 a4 rest n s (write_h1 b a0 a1 a2 a3 a4 rest n s c0_0 c0_1 c0_2 c0_3 c0_4 c0_5 t1)) _ (fun h0 => ?_) (fun h0 => ?_)
  · skip
    show Gets E 1 _ (write_h1 b a0 a1 a2 a3 a4 rest n s c0_0 ((aF (c0_1, c0_2, c0_3, c0_4, c0_5) (sub t1 0 64)).fst) ((aF (c0_1, c0_2, c0_3, c0_4, c0_5) (sub t1 0 64)).snd.fst) ((aF (c0_1, c0_2, c0_3, c0_4, c0_5) (sub t1 0 64)).snd.snd.fst) ((aF (c0_1, c0_2, c0_3, c0_4, c0_5) (sub t1 0 64)).snd.snd.snd.fst) ((aF (c0_1, c0_2, c0_3, c0_4, c0_5) (sub t1 0 64)).snd.snd.snd.snd) (sub t1 64 (slen t1)))
    exact reach_q KG_ok 2000 19 (some [true]) [] [] [0] [0, 1] [] [] [] (andI (decide_eq_true (hS.1 h0).1) (andI (eqA_self [.agg #[.int .u32 c0_1, .int .u32 c0_2, .int .u32 c0_3, .int .u32 c0_4, .int .u32 c0_5], .string (sub t1 0 64)]) (andI (eqH_self []) (andI (pdec_iff.2 (hS.1 h0).2.1) (andI (decide_eq_true (hS.1 h0).2.2) (andI (dT h0) (rfl)))))))
  · skip
    exact ends_q KG_ok 2000 16 (some [false]) [0] [] [0] (andI (dF h0) (rfl))


end Go.Proofs.Ytncldppnmkbklaa
