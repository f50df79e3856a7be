/-
  What a byte begins, what a byte does to a check, as plain functions; the calls of them.
-/
import Derived.Test.YtgaedhpeiamdfaaAmSlim
import Derived.Test.YtgaedhpeiamdfaaEnv
import Derived.Test.YtgaedhpeiamdfaaAmDt
set_option linter.unusedVariables false
open Go Go.Am
namespace Go.Proofs.Ytgaedhpeiamdfaa

abbrev width_R : Type := Int
def width_V (x r : Int) : Value := .int .i64 r
def width_H (x r : Int) : Heap := []
noncomputable def width_Q (x : Int) (C : Cfg) (r : width_R) : Prop :=
  let p := r
  AEnds E 35 0 C (width_V x p) (width_H x p)
def width_t0 (x : Int) : width_R :=
  bif decide (x < 128) then 1
  else bif decide (x < 2048) then 2
    else bif decide (x < 65536) then 3
      else 4
def width_S0 (x : Int) : Prop :=
  True
theorem width_ok0 (x : Int) (hS : width_S0 x) : width_Q x (startC E 35 ([.int .i32 x]) ([])) (width_t0 x) := by
  unfold width_S0 at hS
  unfold width_t0
  refine cond_intro (P := width_Q x (startC E 35 ([.int .i32 x]) ([]))) _ (fun h0 => ?_) (fun h0 => ?_)
  · skip
    exact ends_q noK_ok 2000 17 (some [true]) [] [2] [] (by kernel_rfl) (andI (dT h0) (rfl)) (by kernel_rfl)
  · skip
    refine cond_intro (P := width_Q x (startC E 35 ([.int .i32 x]) ([]))) _ (fun h1 => ?_) (fun h1 => ?_)
    · skip
      exact ends_q noK_ok 2000 24 (some [false, true]) [] [2] [] (by kernel_rfl) (andI (dT h1) (andI (dF h0) (rfl))) (by kernel_rfl)
    · skip
      refine cond_intro (P := width_Q x (startC E 35 ([.int .i32 x]) ([]))) _ (fun h2 => ?_) (fun h2 => ?_)
      · skip
        exact ends_q noK_ok 2000 31 (some [false, false, true]) [] [2] [] (by kernel_rfl) (andI (dT h2) (andI (dF h1) (andI (dF h0) (rfl)))) (by kernel_rfl)
      · skip
        exact ends_q noK_ok 2000 33 (some [false, false, false]) [] [2] [] (by kernel_rfl) (andI (dF h2) (andI (dF h1) (andI (dF h0) (rfl)))) (by kernel_rfl)
theorem width_call (x : Int) (hS : width_S0 x) : CallOk E 35 ([.int .i32 x]) ([]) (width_V x (width_t0 x)) (width_H x (width_t0 x)) := callOk_of_ends (width_ok0 x hS) (by kernel_rfl) (Nat.le_of_ble_eq_true (by kernel_rfl))
def width_ex (a : List Value) (h : Heap) : Int := (toInt (a.getD 0 undef))
noncomputable def width_k : Ct := kP width_ex (fun x => [.int .i32 x]) (fun x => []) (fun x => width_S0 x) (fun x => width_V x (width_t0 x)) (fun x => width_H x (width_t0 x))
theorem width_k_ok : KFor E 35 width_k := kP_ok (fun x hx => width_call x hx)


abbrev begins_R : Type := Int × Int × Int × Int
def begins_V (b : Int) (r : Int × Int × Int × Int) : Value := .tuple #[.int .i64 r.1, .int .u8 r.2.1, .int .u8 r.2.2.1, .int .i32 r.2.2.2]
def begins_H (b : Int) (r : Int × Int × Int × Int) : Heap := []
noncomputable def begins_Q (b : Int) (C : Cfg) (r : begins_R) : Prop :=
  let p := r
  AEnds E 40 0 C (begins_V b p) (begins_H b p)
def begins_t0 (b : Int) : begins_R :=
  bif decide (b < 128) then (0, 0, 0, IntKind.i32.wrap b)
  else bif decide (b < 194) then (-1, 0, 0, 0)
    else bif decide (244 < b) then (-1, 0, 0, 0)
      else bif decide (b < 224) then (1, 128, 191, IntKind.i32.wrap (iand IntKind.u8 b 31))
        else bif b == 224 then (2, 160, 191, 0)
          else bif b == 237 then (2, 128, 159, IntKind.i32.wrap (iand IntKind.u8 b 15))
            else bif decide (b < 240) then (2, 128, 191, IntKind.i32.wrap (iand IntKind.u8 b 15))
              else bif b == 240 then (3, 144, 191, 0)
                else bif b == 244 then (3, 128, 143, IntKind.i32.wrap (iand IntKind.u8 b 7))
                  else (3, 128, 191, IntKind.i32.wrap (iand IntKind.u8 b 7))
def begins_S0 (b : Int) : Prop :=
  True
theorem begins_ok0 (b : Int) (hS : begins_S0 b) : begins_Q b (startC E 40 ([.int .u8 b]) ([])) (begins_t0 b) := by
  unfold begins_S0 at hS
  unfold begins_t0
  refine cond_intro (P := begins_Q b (startC E 40 ([.int .u8 b]) ([]))) _ (fun h0 => ?_) (fun h0 => ?_)
  · skip
    exact ends_q noK_ok 2000 25 (some [true]) [] [2, 3, 4, 5] [] (by kernel_rfl) (andI (dT h0) (rfl)) (by kernel_rfl)
  · skip
    refine cond_intro (P := begins_Q b (startC E 40 ([.int .u8 b]) ([]))) _ (fun h1 => ?_) (fun h1 => ?_)
    · skip
      exact ends_q noK_ok 2000 34 (some [false, true, true]) [] [2, 3, 4, 5] [] (by kernel_rfl) (andI (dT h1) (andI (dF h0) (rfl))) (by kernel_rfl)
    · skip
      refine cond_intro (P := begins_Q b (startC E 40 ([.int .u8 b]) ([]))) _ (fun h2 => ?_) (fun h2 => ?_)
      · skip
        exact ends_q noK_ok 2000 34 (some [false, false, true]) [] [2, 3, 4, 5] [] (by kernel_rfl) (andI (dT h2) (andI (dF h1) (andI (dF h0) (rfl)))) (by kernel_rfl)
      · skip
        refine cond_intro (P := begins_Q b (startC E 40 ([.int .u8 b]) ([]))) _ (fun h3 => ?_) (fun h3 => ?_)
        · skip
          exact ends_q noK_ok 2000 44 (some [false, false, false, true]) [] [2, 3, 4, 5] [] (by kernel_rfl) (andI (dT h3) (andI (dF h2) (andI (dF h1) (andI (dF h0) (rfl))))) (by kernel_rfl)
        · skip
          refine cond_intro (P := begins_Q b (startC E 40 ([.int .u8 b]) ([]))) _ (fun h4 => ?_) (fun h4 => ?_)
          · skip
            exact ends_q noK_ok 2000 48 (some [false, false, false, false, true]) [] [2, 3, 4, 5] [] (by kernel_rfl) (andI (dT h4) (andI (dF h3) (andI (dF h2) (andI (dF h1) (andI (dF h0) (rfl)))))) (by kernel_rfl)
          · skip
            refine cond_intro (P := begins_Q b (startC E 40 ([.int .u8 b]) ([]))) _ (fun h5 => ?_) (fun h5 => ?_)
            · skip
              exact ends_q noK_ok 2000 58 (some [false, false, false, false, false, true]) [] [2, 3, 4, 5] [] (by kernel_rfl) (andI (dT h5) (andI (dF h4) (andI (dF h3) (andI (dF h2) (andI (dF h1) (andI (dF h0) (rfl))))))) (by kernel_rfl)
            · skip
              refine cond_intro (P := begins_Q b (startC E 40 ([.int .u8 b]) ([]))) _ (fun h6 => ?_) (fun h6 => ?_)
              · skip
                exact ends_q noK_ok 2000 65 (some [false, false, false, false, false, false, true]) [] [2, 3, 4, 5] [] (by kernel_rfl) (andI (dT h6) (andI (dF h5) (andI (dF h4) (andI (dF h3) (andI (dF h2) (andI (dF h1) (andI (dF h0) (rfl)))))))) (by kernel_rfl)
              · skip
                refine cond_intro (P := begins_Q b (startC E 40 ([.int .u8 b]) ([]))) _ (fun h7 => ?_) (fun h7 => ?_)
                · skip
                  exact ends_q noK_ok 2000 69 (some [false, false, false, false, false, false, false, true]) [] [2, 3, 4, 5] [] (by kernel_rfl) (andI (dT h7) (andI (dF h6) (andI (dF h5) (andI (dF h4) (andI (dF h3) (andI (dF h2) (andI (dF h1) (andI (dF h0) (rfl))))))))) (by kernel_rfl)
                · skip
                  refine cond_intro (P := begins_Q b (startC E 40 ([.int .u8 b]) ([]))) _ (fun h8 => ?_) (fun h8 => ?_)
                  · skip
                    exact ends_q noK_ok 2000 79 (some [false, false, false, false, false, false, false, false, true]) [] [2, 3, 4, 5] [] (by kernel_rfl) (andI (dT h8) (andI (dF h7) (andI (dF h6) (andI (dF h5) (andI (dF h4) (andI (dF h3) (andI (dF h2) (andI (dF h1) (andI (dF h0) (rfl)))))))))) (by kernel_rfl)
                  · skip
                    exact ends_q noK_ok 2000 81 (some [false, false, false, false, false, false, false, false, false]) [] [2, 3, 4, 5] [] (by kernel_rfl) (andI (dF h8) (andI (dF h7) (andI (dF h6) (andI (dF h5) (andI (dF h4) (andI (dF h3) (andI (dF h2) (andI (dF h1) (andI (dF h0) (rfl)))))))))) (by kernel_rfl)
theorem begins_call (b : Int) (hS : begins_S0 b) : CallOk E 40 ([.int .u8 b]) ([]) (begins_V b (begins_t0 b)) (begins_H b (begins_t0 b)) := callOk_of_ends (begins_ok0 b hS) (by kernel_rfl) (Nat.le_of_ble_eq_true (by kernel_rfl))
def begins_ex (a : List Value) (h : Heap) : Int := (toInt (a.getD 0 undef))
noncomputable def begins_k : Ct := kP begins_ex (fun x => [.int .u8 x]) (fun x => []) (fun x => begins_S0 x) (fun x => begins_V x (begins_t0 x)) (fun x => begins_H x (begins_t0 x))
theorem begins_k_ok : KFor E 40 begins_k := kP_ok (fun x hx => begins_call x hx)


noncomputable def K1 : Ctr := ctrOf E [(40, anyA, begins_k)]
theorem K1_ok : KOk E K1 := ctr_cons begins_k_ok ctr_nil

abbrev step_R : Type := Bool × Int × Int × Int × Int
def step_V (left low : Int) (high x at' : Int) (bad : Bool) (b : Int) (r : Bool × Int × Int × Int × Int) : Value := .bool r.1
def step_H (left low : Int) (high x at' : Int) (bad : Bool) (b : Int) (r : Bool × Int × Int × Int × Int) : Heap := [some (.cells [.int .i64 r.2.1, .int .u8 r.2.2.1, .int .u8 r.2.2.2.1, .int .i32 r.2.2.2.2, .int .i64 at', .bool bad] 77 none)]
noncomputable def step_Q (left low : Int) (high x at' : Int) (bad : Bool) (b : Int) (C : Cfg) (r : step_R) : Prop :=
  let p := r
  AEnds E 36 1 C (step_V left low high x at' bad b p) (step_H left low high x at' bad b p)
def step_t0 (left low : Int) (high x at' : Int) (bad : Bool) (b : Int) : step_R :=
  bif left == 0 then bif decide ((begins_t0 b).fst < 0) then (false, left, low, high, x)
    else (true, (begins_t0 b).fst, (begins_t0 b).snd.fst, (begins_t0 b).snd.snd.fst, (begins_t0 b).snd.snd.snd)
  else bif decide (b < low) then (false, left, low, high, x)
    else bif decide (high < b) then (false, left, low, high, x)
      else (true, IntKind.i64.wrap (left - 1), 128, 191, ior IntKind.i32 (ishl IntKind.i32 x 6) (IntKind.i32.wrap (iand IntKind.u8 b 63)))
def step_S0 (left low : Int) (high x at' : Int) (bad : Bool) (b : Int) : Prop :=
  ((left == 0) = true → ((decide ((begins_t0 b).fst < 0)) = true → begins_S0 b) ∧
    ((decide ((begins_t0 b).fst < 0)) = false → begins_S0 b)) ∧
  ((left == 0) = false → True)
theorem step_ok0 (left low : Int) (high x at' : Int) (bad : Bool) (b : Int) (hS : step_S0 left low high x at' bad b) : step_Q left low high x at' bad b (startC E 36 ([.pointer (some ⟨0, 0, none⟩), .int .u8 b]) ([some (.cells [.int .i64 left, .int .u8 low, .int .u8 high, .int .i32 x, .int .i64 at', .bool bad] 77 none)])) (step_t0 left low high x at' bad b) := by
  unfold step_S0 at hS
  unfold step_t0
  refine cond_intro (P := step_Q left low high x at' bad b (startC E 36 ([.pointer (some ⟨0, 0, none⟩), .int .u8 b]) ([some (.cells [.int .i64 left, .int .u8 low, .int .u8 high, .int .i32 x, .int .i64 at', .bool bad] 77 none)]))) _ (fun h0 => ?_) (fun h0 => ?_)
  · skip
    refine cond_intro (P := step_Q left low high x at' bad b (startC E 36 ([.pointer (some ⟨0, 0, none⟩), .int .u8 b]) ([some (.cells [.int .i64 left, .int .u8 low, .int .u8 high, .int .i32 x, .int .i64 at', .bool bad] 77 none)]))) _ (fun h1 => ?_) (fun h1 => ?_)
    · skip
      exact ends_q K1_ok 2000 39 (some [true, true]) [0] [4] [0] (by kernel_rfl) (andI (dT h1) (andI (eqA_self [.int .u8 b]) (andI (eqH_self []) (andI (pdec_iff.2 ((hS.1 h0).1 h1)) (andI (dT h0) (rfl)))))) (by kernel_rfl)
    · skip
      exact ends_q K1_ok 2000 63 (some [true, false]) [0] [4] [0] (by kernel_rfl) (andI (dF h1) (andI (eqA_self [.int .u8 b]) (andI (eqH_self []) (andI (pdec_iff.2 ((hS.1 h0).2 h1)) (andI (dT h0) (rfl)))))) (by kernel_rfl)
  · skip
    refine cond_intro (P := step_Q left low high x at' bad b (startC E 36 ([.pointer (some ⟨0, 0, none⟩), .int .u8 b]) ([some (.cells [.int .i64 left, .int .u8 low, .int .u8 high, .int .i32 x, .int .i64 at', .bool bad] 77 none)]))) _ (fun h1 => ?_) (fun h1 => ?_)
    · skip
      exact ends_q K1_ok 2000 38 (some [false, true, true]) [0] [4] [0] (by kernel_rfl) (andI (dT h1) (andI (dF h0) (rfl))) (by kernel_rfl)
    · skip
      refine cond_intro (P := step_Q left low high x at' bad b (startC E 36 ([.pointer (some ⟨0, 0, none⟩), .int .u8 b]) ([some (.cells [.int .i64 left, .int .u8 low, .int .u8 high, .int .i32 x, .int .i64 at', .bool bad] 77 none)]))) _ (fun h2 => ?_) (fun h2 => ?_)
      · skip
        exact ends_q K1_ok 2000 38 (some [false, false, true]) [0] [4] [0] (by kernel_rfl) (andI (dT h2) (andI (dF h1) (andI (dF h0) (rfl)))) (by kernel_rfl)
      · skip
        exact ends_q (ok := and (ishl IntKind.i32 x 6 == ishl IntKind.i32 x 6) (and (ishl IntKind.i32 x 6 == ishl IntKind.i32 x 6) (and (ishl IntKind.i32 x 6 == ishl IntKind.i32 x 6) (and (b == b) (and (b == b) (and (b == b) (and (iand IntKind.u8 b 63 == iand IntKind.u8 b 63) (and (iand IntKind.u8 b 63 == iand IntKind.u8 b 63) (and (iand IntKind.u8 b 63 == iand IntKind.u8 b 63) (and (IntKind.i32.wrap (iand IntKind.u8 b 63) == IntKind.i32.wrap (iand IntKind.u8 b 63)) (and (IntKind.i32.wrap (iand IntKind.u8 b 63) == IntKind.i32.wrap (iand IntKind.u8 b 63)) (and (IntKind.i32.wrap (iand IntKind.u8 b 63) == IntKind.i32.wrap (iand IntKind.u8 b 63)) (and (ior IntKind.i32 (ishl IntKind.i32 x 6) (IntKind.i32.wrap (iand IntKind.u8 b 63)) == ior IntKind.i32 (ishl IntKind.i32 x 6) (IntKind.i32.wrap (iand IntKind.u8 b 63))) (and (ior IntKind.i32 (ishl IntKind.i32 x 6) (IntKind.i32.wrap (iand IntKind.u8 b 63)) == ior IntKind.i32 (ishl IntKind.i32 x 6) (IntKind.i32.wrap (iand IntKind.u8 b 63))) (and (ior IntKind.i32 (ishl IntKind.i32 x 6) (IntKind.i32.wrap (iand IntKind.u8 b 63)) == ior IntKind.i32 (ishl IntKind.i32 x 6) (IntKind.i32.wrap (iand IntKind.u8 b 63))) (and ((decide (high < b)) == false) (and ((decide (b < low)) == false) (and ((left == 0) == false) (true))))))))))))))))))) K1_ok 2000 41 (some [false, false, false]) [0] [4] [0] (by kernel_rfl) (andI (beq_self_eq_true _) (andI (beq_self_eq_true _) (andI (beq_self_eq_true _) (andI (beq_self_eq_true _) (andI (beq_self_eq_true _) (andI (beq_self_eq_true _) (andI (beq_self_eq_true _) (andI (beq_self_eq_true _) (andI (beq_self_eq_true _) (andI (beq_self_eq_true _) (andI (beq_self_eq_true _) (andI (beq_self_eq_true _) (andI (beq_self_eq_true _) (andI (beq_self_eq_true _) (andI (beq_self_eq_true _) (andI (dF h2) (andI (dF h1) (andI (dF h0) (rfl))))))))))))))))))) (by kernel_rfl)
theorem step_call (left low : Int) (high x at' : Int) (bad : Bool) (b : Int) (hS : step_S0 left low high x at' bad b) : CallOk E 36 ([.pointer (some ⟨0, 0, none⟩), .int .u8 b]) ([some (.cells [.int .i64 left, .int .u8 low, .int .u8 high, .int .i32 x, .int .i64 at', .bool bad] 77 none)]) (step_V left low high x at' bad b (step_t0 left low high x at' bad b)) (step_H left low high x at' bad b (step_t0 left low high x at' bad b)) := callOk_of_ends (step_ok0 left low high x at' bad b hS) (by kernel_rfl) (Nat.le_of_ble_eq_true (by kernel_rfl))
def step_ex (a : List Value) (h : Heap) : Int × Int × Int × Int × Int × Bool × Int := ((toInt ((cellsOf h 0).getD 0 undef)), (toInt ((cellsOf h 0).getD 1 undef)), (toInt ((cellsOf h 0).getD 2 undef)), (toInt ((cellsOf h 0).getD 3 undef)), (toInt ((cellsOf h 0).getD 4 undef)), (toBool ((cellsOf h 0).getD 5 undef)), (toInt (a.getD 1 undef)))
noncomputable def step_k : Ct := kP step_ex (fun (a0, a1, a2, a3, a4, a5, a6) => [.pointer (some ⟨0, 0, none⟩), .int .u8 a6]) (fun (a0, a1, a2, a3, a4, a5, a6) => [some (.cells [.int .i64 a0, .int .u8 a1, .int .u8 a2, .int .i32 a3, .int .i64 a4, .bool a5] 77 none)]) (fun (a0, a1, a2, a3, a4, a5, a6) => step_S0 a0 a1 a2 a3 a4 a5 a6) (fun (a0, a1, a2, a3, a4, a5, a6) => step_V a0 a1 a2 a3 a4 a5 a6 (step_t0 a0 a1 a2 a3 a4 a5 a6)) (fun (a0, a1, a2, a3, a4, a5, a6) => step_H a0 a1 a2 a3 a4 a5 a6 (step_t0 a0 a1 a2 a3 a4 a5 a6))
theorem step_k_ok : KFor E 36 step_k := kP_ok (fun (a0, a1, a2, a3, a4, a5, a6) hx => step_call a0 a1 a2 a3 a4 a5 a6 hx)


end Go.Proofs.Ytgaedhpeiamdfaa

/-
  A check that is fed: the loop over a text's bytes.
-/
set_option linter.unusedVariables false
open Go Go.Am
namespace Go.Proofs.Ytgaedhpeiamdfaa
noncomputable def K2 : Ctr := ctrOf E [(40, anyA, begins_k), (36, ptrA, step_k), (35, anyA, width_k)]
theorem K2_ok : KOk E K2 := ctr_cons begins_k_ok (ctr_cons step_k_ok (ctr_cons width_k_ok ctr_nil))

abbrev Q := Int × Int × Int × Int
/-- What a byte does: whether it may be, how it stands. -/
def sst (q : Q) (b : Int) : Bool × Q := step_t0 q.1 q.2.1 q.2.2.1 q.2.2.2 0 false b
def feedL : Q → Int → Bool → List UInt8 → Q × Int × Bool
  | q, at', bad, [] => (q, at', bad)
  | q, at', bad, b :: r => bif bad then (q, at', bad) else feedL (sst q b.toNat).2 (bif (sst q b.toNat).1 then at' + 1 else at') (!(sst q b.toNat).1) r
theorem feedL_bad (q : Q) (at' : Int) : ∀ l, feedL q at' true l = (q, at', true)
  | [] => rfl
  | _ :: _ => rfl

theorem step_safe (a b c d e : Int) (f : Bool) (g : Int) : step_S0 a b c d e f g := by
  unfold step_S0 begins_S0
  simp

end Go.Proofs.Ytgaedhpeiamdfaa

/-
  A check that is fed: the loop over a text's bytes.
-/
set_option linter.unusedVariables false
open Go Go.Am
namespace Go.Proofs.Ytgaedhpeiamdfaa
noncomputable def feed_b1 (left low : Int) (high x at' : Int) (bad : Bool) (s : ByteArray) : Cfg := cfgOf (goNil E K2 2000 19 (some [false]) [] [] [0] [0, 1, 5] [] [] [] (startC E 28 ([.pointer (some ⟨0, 0, none⟩), .string s]) ([some (.cells [.int .i64 left, .int .u8 low, .int .u8 high, .int .i32 x, .int .i64 at', .bool bad] 77 none)])))
noncomputable def feed_h1 (left low : Int) (high x at' : Int) (bad : Bool) (s : ByteArray) (t5 c0_0 : Int) (c0_1 c0_2 : Int) (c0_3 c0_4 : Int) (c0_5 : Bool) : Cfg := wCell 0 5 (.bool c0_5) (wCell 0 4 (.int .i64 c0_4) (wCell 0 3 (.int .i32 c0_3) (wCell 0 2 (.int .u8 c0_2) (wCell 0 1 (.int .u8 c0_1) (wCell 0 0 (.int .i64 c0_0) (wTmp 5 (.int .i64 t5) (feed_b1 left low high x at' bad s)))))))
abbrev feed_R : Type := (Int × Int × Int × Int × Int × Int × Bool) ⊕ (Bool × Int × Int × Int × Int × Int × Bool)
def feed_V (left low : Int) (high x at' : Int) (bad : Bool) (s : ByteArray) (r : Bool × Int × Int × Int × Int × Int × Bool) : Value := .bool r.1
def feed_H (left low : Int) (high x at' : Int) (bad : Bool) (s : ByteArray) (r : Bool × Int × Int × Int × Int × Int × Bool) : Heap := [some (.cells [.int .i64 r.2.1, .int .u8 r.2.2.1, .int .u8 r.2.2.2.1, .int .i32 r.2.2.2.2.1, .int .i64 r.2.2.2.2.2.1, .bool r.2.2.2.2.2.2] 77 none)]
noncomputable def feed_Q (left low : Int) (high x at' : Int) (bad : Bool) (s : ByteArray) (C : Cfg) (r : feed_R) : Prop :=
  match r with
  | .inl (p) => Gets E 1 C (feed_h1 left low high x at' bad s (p.1) (p.2.1) (p.2.2.1) (p.2.2.2.1) (p.2.2.2.2.1) (p.2.2.2.2.2.1) (p.2.2.2.2.2.2))
  | .inr (p) => AEnds E 28 1 C (feed_V left low high x at' bad s p) (feed_H left low high x at' bad s p)
theorem feed_go1 {left : Int} {low : Int} {high : Int} {x : Int} {at' : Int} {bad : Bool} {s : ByteArray} {C : Cfg} {t5 : Int} {c0_0 : Int} {c0_1 : Int} {c0_2 : Int} {c0_3 : Int} {c0_4 : Int} {c0_5 : Bool} (h : feed_Q left low high x at' bad s C (.inl (t5, c0_0, c0_1, c0_2, c0_3, c0_4, c0_5))) : Gets E 1 C (feed_h1 left low high x at' bad s t5 c0_0 c0_1 c0_2 c0_3 c0_4 c0_5) := h
theorem feed_end {left : Int} {low : Int} {high : Int} {x : Int} {at' : Int} {bad : Bool} {s : ByteArray} {C : Cfg} {r : Bool × Int × Int × Int × Int × Int × Bool} (h : feed_Q left low high x at' bad s C (.inr (r))) : AEnds E 28 1 C (feed_V left low high x at' bad s r) (feed_H left low high x at' bad s r) := h
def feed_t0 (left low : Int) (high x at' : Int) (bad : Bool) (s : ByteArray) : feed_R :=
  .inl (0, left, low, high, x, at', bad)
def feed_S0 (left low : Int) (high x at' : Int) (bad : Bool) (s : ByteArray) : Prop :=
  True
theorem feed_ok0 (left low : Int) (high x at' : Int) (bad : Bool) (s : ByteArray) (hS : feed_S0 left low high x at' bad s) : feed_Q left low high x at' bad s (startC E 28 ([.pointer (some ⟨0, 0, none⟩), .string s]) ([some (.cells [.int .i64 left, .int .u8 low, .int .u8 high, .int .i32 x, .int .i64 at', .bool bad] 77 none)])) (feed_t0 left low high x at' bad s) := by
  unfold feed_S0 at hS
  unfold feed_t0
  show Gets E 1 _ (feed_h1 left low high x at' bad s (0) left low high x at' bad)
  exact reach_q K2_ok 2000 19 (some [false]) [] [] [0] [0, 1, 5] [] [] [] (by kernel_rfl) (rfl) (by kernel_rfl)
def feed_t1 (left low : Int) (high x at' : Int) (bad : Bool) (s : ByteArray) (t5 c0_0 : Int) (c0_1 c0_2 : Int) (c0_3 c0_4 : Int) (c0_5 : Bool) : feed_R :=
  bif decide (t5 < (↑(slen s) : Int)) then bif !c0_5 then bif !!(step_t0 c0_0 c0_1 c0_2 c0_3 c0_4 c0_5 (chr s t5.toNat)).fst then .inl (IntKind.i64.wrap (t5 + 1), (step_t0 c0_0 c0_1 c0_2 c0_3 c0_4 c0_5 (chr s t5.toNat)).snd.fst, (step_t0 c0_0 c0_1 c0_2 c0_3 c0_4 c0_5 (chr s t5.toNat)).snd.snd.fst, (step_t0 c0_0 c0_1 c0_2 c0_3 c0_4 c0_5 (chr s t5.toNat)).snd.snd.snd.fst, (step_t0 c0_0 c0_1 c0_2 c0_3 c0_4 c0_5 (chr s t5.toNat)).snd.snd.snd.snd, IntKind.i64.wrap (c0_4 + 1), !(step_t0 c0_0 c0_1 c0_2 c0_3 c0_4 c0_5 (chr s t5.toNat)).fst)
      else .inl (IntKind.i64.wrap (t5 + 1), (step_t0 c0_0 c0_1 c0_2 c0_3 c0_4 c0_5 (chr s t5.toNat)).snd.fst, (step_t0 c0_0 c0_1 c0_2 c0_3 c0_4 c0_5 (chr s t5.toNat)).snd.snd.fst, (step_t0 c0_0 c0_1 c0_2 c0_3 c0_4 c0_5 (chr s t5.toNat)).snd.snd.snd.fst, (step_t0 c0_0 c0_1 c0_2 c0_3 c0_4 c0_5 (chr s t5.toNat)).snd.snd.snd.snd, c0_4, !(step_t0 c0_0 c0_1 c0_2 c0_3 c0_4 c0_5 (chr s t5.toNat)).fst)
    else .inr (!c0_5, c0_0, c0_1, c0_2, c0_3, c0_4, c0_5)
  else .inr (!c0_5, c0_0, c0_1, c0_2, c0_3, c0_4, c0_5)
def feed_S1 (left low : Int) (high x at' : Int) (bad : Bool) (s : ByteArray) (t5 c0_0 : Int) (c0_1 c0_2 : Int) (c0_3 c0_4 : Int) (c0_5 : Bool) : Prop :=
  ((decide (t5 < (↑(slen s) : Int))) = true → ((!c0_5) = true → ((!!(step_t0 c0_0 c0_1 c0_2 c0_3 c0_4 c0_5 (chr s t5.toNat)).fst) = true → (step_S0 c0_0 c0_1 c0_2 c0_3 c0_4 c0_5 (chr s t5.toNat)) ∧ (0 ≤ t5) ∧ (t5 < (↑(slen s) : Int))) ∧
      ((!!(step_t0 c0_0 c0_1 c0_2 c0_3 c0_4 c0_5 (chr s t5.toNat)).fst) = false → (step_S0 c0_0 c0_1 c0_2 c0_3 c0_4 c0_5 (chr s t5.toNat)) ∧ (0 ≤ t5) ∧ (t5 < (↑(slen s) : Int)))) ∧
    ((!c0_5) = false → True)) ∧
  ((decide (t5 < (↑(slen s) : Int))) = false → True)
theorem feed_ok1 (left low : Int) (high x at' : Int) (bad : Bool) (s : ByteArray) (t5 c0_0 : Int) (c0_1 c0_2 : Int) (c0_3 c0_4 : Int) (c0_5 : Bool) (hS : feed_S1 left low high x at' bad s t5 c0_0 c0_1 c0_2 c0_3 c0_4 c0_5) : feed_Q left low high x at' bad s (feed_h1 left low high x at' bad s t5 c0_0 c0_1 c0_2 c0_3 c0_4 c0_5) (feed_t1 left low high x at' bad s t5 c0_0 c0_1 c0_2 c0_3 c0_4 c0_5) := by
  unfold feed_S1 at hS
  unfold feed_t1
  refine cond_intro (P := feed_Q left low high x at' bad s (feed_h1 left low high x at' bad s t5 c0_0 c0_1 c0_2 c0_3 c0_4 c0_5)) _ (fun h0 => ?_) (fun h0 => ?_)
  · skip
    refine cond_intro (P := feed_Q left low high x at' bad s (feed_h1 left low high x at' bad s t5 c0_0 c0_1 c0_2 c0_3 c0_4 c0_5)) _ (fun h1 => ?_) (fun h1 => ?_)
    · skip
      refine cond_intro (P := feed_Q left low high x at' bad s (feed_h1 left low high x at' bad s t5 c0_0 c0_1 c0_2 c0_3 c0_4 c0_5)) _ (fun h2 => ?_) (fun h2 => ?_)
      · skip
        show Gets E 1 _ (feed_h1 left low high x at' bad s (IntKind.i64.wrap (t5 + 1)) ((step_t0 c0_0 c0_1 c0_2 c0_3 c0_4 c0_5 (chr s t5.toNat)).snd.fst) ((step_t0 c0_0 c0_1 c0_2 c0_3 c0_4 c0_5 (chr s t5.toNat)).snd.snd.fst) ((step_t0 c0_0 c0_1 c0_2 c0_3 c0_4 c0_5 (chr s t5.toNat)).snd.snd.snd.fst) ((step_t0 c0_0 c0_1 c0_2 c0_3 c0_4 c0_5 (chr s t5.toNat)).snd.snd.snd.snd) (IntKind.i64.wrap (c0_4 + 1)) (!(step_t0 c0_0 c0_1 c0_2 c0_3 c0_4 c0_5 (chr s t5.toNat)).fst))
        exact reach_q K2_ok 2000 58 (some [true, true, true]) [] [] [0] [0, 1, 5] [] [] [] (by kernel_rfl) (andI (dT h2) (andI (eqA_self [.pointer (some ⟨0, 0, none⟩), .int .u8 (chr s t5.toNat)]) (andI (eqH_self [some (.cells [.int .i64 c0_0, .int .u8 c0_1, .int .u8 c0_2, .int .i32 c0_3, .int .i64 c0_4, .bool c0_5] 77 none)]) (andI (pdec_iff.2 (((hS.1 h0).1 h1).1 h2).1) (andI (decide_eq_true (((hS.1 h0).1 h1).1 h2).2.1) (andI (decide_eq_true (((hS.1 h0).1 h1).1 h2).2.2) (andI (dT h1) (andI (dT h0) (rfl))))))))) (by kernel_rfl)
      · skip
        show Gets E 1 _ (feed_h1 left low high x at' bad s (IntKind.i64.wrap (t5 + 1)) ((step_t0 c0_0 c0_1 c0_2 c0_3 c0_4 c0_5 (chr s t5.toNat)).snd.fst) ((step_t0 c0_0 c0_1 c0_2 c0_3 c0_4 c0_5 (chr s t5.toNat)).snd.snd.fst) ((step_t0 c0_0 c0_1 c0_2 c0_3 c0_4 c0_5 (chr s t5.toNat)).snd.snd.snd.fst) ((step_t0 c0_0 c0_1 c0_2 c0_3 c0_4 c0_5 (chr s t5.toNat)).snd.snd.snd.snd) c0_4 (!(step_t0 c0_0 c0_1 c0_2 c0_3 c0_4 c0_5 (chr s t5.toNat)).fst))
        exact reach_q K2_ok 2000 49 (some [true, true, false]) [] [] [0] [0, 1, 5] [] [] [] (by kernel_rfl) (andI (dF h2) (andI (eqA_self [.pointer (some ⟨0, 0, none⟩), .int .u8 (chr s t5.toNat)]) (andI (eqH_self [some (.cells [.int .i64 c0_0, .int .u8 c0_1, .int .u8 c0_2, .int .i32 c0_3, .int .i64 c0_4, .bool c0_5] 77 none)]) (andI (pdec_iff.2 (((hS.1 h0).1 h1).2 h2).1) (andI (decide_eq_true (((hS.1 h0).1 h1).2 h2).2.1) (andI (decide_eq_true (((hS.1 h0).1 h1).2 h2).2.2) (andI (dT h1) (andI (dT h0) (rfl))))))))) (by kernel_rfl)
    · skip
      exact ends_q K2_ok 2000 26 (some [true, false]) [0] [4] [0] (by kernel_rfl) (andI (dF h1) (andI (dT h0) (rfl))) (by kernel_rfl)
  · skip
    exact ends_q K2_ok 2000 26 (some [false, false]) [0] [4] [0] (by kernel_rfl) (andI (dF h0) (rfl)) (by kernel_rfl)


theorem feed_run (left low high x at0 : Int) (bad0 : Bool) (s : ByteArray) (hs : slen s ≤ 1000000) : ∀ (n i : Nat) (q : Q) (at' : Int) (bad : Bool), i + n = slen s → 0 ≤ at' → at' ≤ 1000000 * 1000000 + i →
    AEnds E 28 1 (feed_h1 left low high x at0 bad0 s i q.1 q.2.1 q.2.2.1 q.2.2.2 at' bad) (.bool !(feedL q at' bad ((toL s).drop i)).2.2)
      [some (.cells [.int .i64 (feedL q at' bad ((toL s).drop i)).1.1, .int .u8 (feedL q at' bad ((toL s).drop i)).1.2.1, .int .u8 (feedL q at' bad ((toL s).drop i)).1.2.2.1, .int .i32 (feedL q at' bad ((toL s).drop i)).1.2.2.2, .int .i64 (feedL q at' bad ((toL s).drop i)).2.1, .bool (feedL q at' bad ((toL s).drop i)).2.2] 77 none)]
  | 0, i, q, at', bad, hi, h1, h2 => by
    have h := feed_ok1 left low high x at0 bad0 s i q.1 q.2.1 q.2.2.1 q.2.2.2 at' bad (by
      unfold feed_S1; simp [show ¬ ((i : Int) < slen s) by omega])
    rw [show feed_t1 left low high x at0 bad0 s i q.1 q.2.1 q.2.2.1 q.2.2.2 at' bad = .inr (!bad, q.1, q.2.1, q.2.2.1, q.2.2.2, at', bad) by
      unfold feed_t1; simp [show ¬ ((i : Int) < slen s) by omega]] at h
    rw [show (toL s).drop i = [] from List.drop_eq_nil_of_le (by unfold slen at hi; omega)]
    exact h
  | n + 1, i, q, at', true, hi, h1, h2 => by
    have h := feed_ok1 left low high x at0 bad0 s i q.1 q.2.1 q.2.2.1 q.2.2.2 at' true (by
      unfold feed_S1; simp)
    rw [show feed_t1 left low high x at0 bad0 s i q.1 q.2.1 q.2.2.1 q.2.2.2 at' true = .inr (!true, q.1, q.2.1, q.2.2.1, q.2.2.2, at', true) by
      unfold feed_t1; simp] at h
    rw [feedL_bad]
    exact h
  | n + 1, i, q, at', false, hi, h1, h2 => by
    have hl : i < (toL s).length := by unfold slen at hi; omega
    have h := feed_ok1 left low high x at0 bad0 s i q.1 q.2.1 q.2.2.1 q.2.2.2 at' false (by
      unfold feed_S1; simp [show ((i : Int) < slen s) by omega, step_safe])
    have hc : chr s (i : Int).toNat = ((toL s)[i].toNat : Int) := by simp [chr, List.getD_eq_getElem?_getD, hl]
    have e : ∀ a b, step_t0 q.1 q.2.1 q.2.2.1 q.2.2.2 a b (chr s (i : Int).toNat) = sst q (toL s)[i].toNat := fun a b => by rw [hc]; rfl
    unfold feed_t1 at h
    simp only [e] at h
    rw [wrap64_in (by omega) (by omega), wrap64_in (by omega) (by omega)] at h
    rw [List.drop_eq_getElem_cons hl, feedL]
    have ih := feed_run left low high x at0 bad0 s hs n (i + 1) (sst q (toL s)[i].toNat).2 (bif (sst q (toL s)[i].toNat).1 then at' + 1 else at') (!(sst q (toL s)[i].toNat).1) (by omega) (by cases (sst q (toL s)[i].toNat).1 <;> simp <;> omega) (by cases (sst q (toL s)[i].toNat).1 <;> simp <;> omega)
    simp only [show decide ((i : Int) < slen s) = true by simp; omega, cond_true, Bool.not_false, Bool.not_not] at h
    simp only [cond_false]
    refine Gets.ends ?_ ih
    cases hb : (sst q (toL s)[i].toNat).1 <;> simp only [hb, cond_true, cond_false] at h ⊢ <;> exact h

def feed_pre (left low high x at' : Int) (bad : Bool) (s : ByteArray) : Prop := slen s ≤ 1000000 ∧ 0 ≤ at' ∧ at' ≤ 1000000 * 1000000
def feed_v (left low high x at' : Int) (bad : Bool) (s : ByteArray) : Value := .bool !(feedL (left, low, high, x) at' bad (toL s)).2.2
def feed_h (left low high x at' : Int) (bad : Bool) (s : ByteArray) : Heap :=
  [some (.cells [.int .i64 (feedL (left, low, high, x) at' bad (toL s)).1.1, .int .u8 (feedL (left, low, high, x) at' bad (toL s)).1.2.1, .int .u8 (feedL (left, low, high, x) at' bad (toL s)).1.2.2.1, .int .i32 (feedL (left, low, high, x) at' bad (toL s)).1.2.2.2, .int .i64 (feedL (left, low, high, x) at' bad (toL s)).2.1, .bool (feedL (left, low, high, x) at' bad (toL s)).2.2] 77 none)]
theorem feed_call (left low high x at' : Int) (bad : Bool) (s : ByteArray) (h : feed_pre left low high x at' bad s) :
    CallOk E 28 [.pointer (some ⟨0, 0, none⟩), .string s] [some (.cells [.int .i64 left, .int .u8 low, .int .u8 high, .int .i32 x, .int .i64 at', .bool bad] 77 none)] (feed_v left low high x at' bad s) (feed_h left low high x at' bad s) :=
  callOk_of_ends ((feed_ok0 left low high x at' bad s trivial).ends (feed_run left low high x at' bad s h.1 (slen s) 0 (left, low, high, x) at' bad (by omega) h.2.1 (by have := h.2.2; omega))) (by kernel_rfl) (Nat.le_of_ble_eq_true (by kernel_rfl))

def feed_ex (a : List Value) (h : Heap) : Int × Int × Int × Int × Int × Bool × ByteArray := ((toInt ((cellsOf h 0).getD 0 undef)), (toInt ((cellsOf h 0).getD 1 undef)), (toInt ((cellsOf h 0).getD 2 undef)), (toInt ((cellsOf h 0).getD 3 undef)), (toInt ((cellsOf h 0).getD 4 undef)), (toBool ((cellsOf h 0).getD 5 undef)), (toStr (a.getD 1 undef)))
noncomputable def feed_k : Ct := kP feed_ex (fun (a0, a1, a2, a3, a4, a5, a6) => [.pointer (some ⟨0, 0, none⟩), .string a6]) (fun (a0, a1, a2, a3, a4, a5, a6) => [some (.cells [.int .i64 a0, .int .u8 a1, .int .u8 a2, .int .i32 a3, .int .i64 a4, .bool a5] 77 none)]) (fun (a0, a1, a2, a3, a4, a5, a6) => feed_pre a0 a1 a2 a3 a4 a5 a6) (fun (a0, a1, a2, a3, a4, a5, a6) => feed_v a0 a1 a2 a3 a4 a5 a6) (fun (a0, a1, a2, a3, a4, a5, a6) => feed_h a0 a1 a2 a3 a4 a5 a6)
theorem feed_k_ok : KFor E 28 feed_k := kP_ok (fun (a0, a1, a2, a3, a4, a5, a6) hx => feed_call a0 a1 a2 a3 a4 a5 a6 hx)


end Go.Proofs.Ytgaedhpeiamdfaa
