/-
  What a byte begins, what a byte does to a check, as plain functions; the calls of them.
-/
import Derived.Test.YtgaedhpeiamdfaaAmSlim
import Derived.Test.YtgaedhpeiamdfaaEnv
import Derived.Test.YtgaedhpeiamdfaaAmDt
set_option linter.unusedVariables false
open Go Go.Am
namespace Go.Proofs.Ytgaedhpeiamdfaa

abbrev width_R : Type := Int
def width_V (x r : Int) : Value := .int .i64 r
def width_H (x r : Int) : Heap := []
noncomputable def width_Q (x : Int) (C : Cfg) (r : width_R) : Prop :=
  let p := r
  AEnds E 35 0 C (width_V x p) (width_H x p)
def width_t0 (x : Int) : width_R :=
  bif decide (x < 128) then 1
  else bif decide (x < 2048) then 2
    else bif decide (x < 65536) then 3
      else 4
def width_S0 (x : Int) : Prop :=
  True
theorem width_ok0 (x : Int) (hS : width_S0 x) : width_Q x (startC E 35 ([.int .i32 x]) ([])) (width_t0 x) := by
  unfold width_S0 at hS
  unfold width_t0
  refine cond_intro (P := width_Q x (startC E 35 ([.int .i32 x]) ([]))) _ (fun h0 => ?_) (fun h0 => ?_)
  · skip
    exact ends_q noK_ok 2000 17 (some [true]) [] [2] [] (by kernel_rfl) (andI (dT h0) (rfl)) (by kernel_rfl)
  · skip
    refine cond_intro (P := width_Q x (startC E 35 ([.int .i32 x]) ([]))) _ (fun h1 => ?_) (fun h1 => ?_)
    · skip
      exact ends_q noK_ok 2000 24 (some [false, true]) [] [2] [] (by kernel_rfl) (andI (dT h1) (andI (dF h0) (rfl))) (by kernel_rfl)
    · skip
      refine cond_intro (P := width_Q x (startC E 35 ([.int .i32 x]) ([]))) _ (fun h2 => ?_) (fun h2 => ?_)
      · skip
        exact ends_q noK_ok 2000 31 (some [false, false, true]) [] [2] [] (by kernel_rfl) (andI (dT h2) (andI (dF h1) (andI (dF h0) (rfl)))) (by kernel_rfl)
      · skip
        exact ends_q noK_ok 2000 33 (some [false, false, false]) [] [2] [] (by kernel_rfl) (andI (dF h2) (andI (dF h1) (andI (dF h0) (rfl)))) (by kernel_rfl)
theorem width_call (x : Int) (hS : width_S0 x) : CallOk E 35 ([.int .i32 x]) ([]) (width_V x (width_t0 x)) (width_H x (width_t0 x)) := callOk_of_ends (width_ok0 x hS) (by kernel_rfl) (Nat.le_of_ble_eq_true (by kernel_rfl))
def width_ex (a : List Value) (h : Heap) : Int := (toInt (a.getD 0 undef))
noncomputable def width_k : Ct := kP width_ex (fun x => [.int .i32 x]) (fun x => []) (fun x => width_S0 x) (fun x => width_V x (width_t0 x)) (fun x => width_H x (width_t0 x))
theorem width_k_ok : KFor E 35 width_k := kP_ok (fun x hx => width_call x hx)


abbrev begins_R : Type := Int × Int × Int × Int
def begins_V (b : Int) (r : Int × Int × Int × Int) : Value := .tuple #[.int .i64 r.1, .int .u8 r.2.1, .int .u8 r.2.2.1, .int .i32 r.2.2.2]
def begins_H (b : Int) (r : Int × Int × Int × Int) : Heap := []
noncomputable def begins_Q (b : Int) (C : Cfg) (r : begins_R) : Prop :=
  let p := r
  AEnds E 40 0 C (begins_V b p) (begins_H b p)
def begins_t0 (b : Int) : begins_R :=
  bif decide (b < 128) then (0, 0, 0, IntKind.i32.wrap b)
  else bif decide (b < 194) then (-1, 0, 0, 0)
    else bif decide (244 < b) then (-1, 0, 0, 0)
      else bif decide (b < 224) then (1, 128, 191, IntKind.i32.wrap (iand IntKind.u8 b 31))
        else bif b == 224 then (2, 160, 191, 0)
          else bif b == 237 then (2, 128, 159, IntKind.i32.wrap (iand IntKind.u8 b 15))
            else bif decide (b < 240) then (2, 128, 191, IntKind.i32.wrap (iand IntKind.u8 b 15))
              else bif b == 240 then (3, 144, 191, 0)
                else bif b == 244 then (3, 128, 143, IntKind.i32.wrap (iand IntKind.u8 b 7))
                  else (3, 128, 191, IntKind.i32.wrap (iand IntKind.u8 b 7))
def begins_S0 (b : Int) : Prop :=
  True
theorem begins_ok0 (b : Int) (hS : begins_S0 b) : begins_Q b (startC E 40 ([.int .u8 b]) ([])) (begins_t0 b) := by
  unfold begins_S0 at hS
  unfold begins_t0
  refine cond_intro (P := begins_Q b (startC E 40 ([.int .u8 b]) ([]))) _ (fun h0 => ?_) (fun h0 => ?_)
  · skip
    exact ends_q noK_ok 2000 25 (some [true]) [] [2, 3, 4, 5] [] (by kernel_rfl) (andI (dT h0) (rfl)) (by kernel_rfl)
  · skip
    refine cond_intro (P := begins_Q b (startC E 40 ([.int .u8 b]) ([]))) _ (fun h1 => ?_) (fun h1 => ?_)
    · skip
      exact ends_q noK_ok 2000 34 (some [false, true, true]) [] [2, 3, 4, 5] [] (by kernel_rfl) (andI (dT h1) (andI (dF h0) (rfl))) (by kernel_rfl)
    · skip
      refine cond_intro (P := begins_Q b (startC E 40 ([.int .u8 b]) ([]))) _ (fun h2 => ?_) (fun h2 => ?_)
      · skip
        exact ends_q noK_ok 2000 34 (some [false, false, true]) [] [2, 3, 4, 5] [] (by kernel_rfl) (andI (dT h2) (andI (dF h1) (andI (dF h0) (rfl)))) (by kernel_rfl)
      · skip
        refine cond_intro (P := begins_Q b (startC E 40 ([.int .u8 b]) ([]))) _ (fun h3 => ?_) (fun h3 => ?_)
        · skip
          exact ends_q noK_ok 2000 44 (some [false, false, false, true]) [] [2, 3, 4, 5] [] (by kernel_rfl) (andI (dT h3) (andI (dF h2) (andI (dF h1) (andI (dF h0) (rfl))))) (by kernel_rfl)
        · skip
          refine cond_intro (P := begins_Q b (startC E 40 ([.int .u8 b]) ([]))) _ (fun h4 => ?_) (fun h4 => ?_)
          · skip
            exact ends_q noK_ok 2000 48 (some [false, false, false, false, true]) [] [2, 3, 4, 5] [] (by kernel_rfl) (andI (dT h4) (andI (dF h3) (andI (dF h2) (andI (dF h1) (andI (dF h0) (rfl)))))) (by kernel_rfl)
          · skip
            refine cond_intro (P := begins_Q b (startC E 40 ([.int .u8 b]) ([]))) _ (fun h5 => ?_) (fun h5 => ?_)
            · skip
              exact ends_q noK_ok 2000 58 (some [false, false, false, false, false, true]) [] [2, 3, 4, 5] [] (by kernel_rfl) (andI (dT h5) (andI (dF h4) (andI (dF h3) (andI (dF h2) (andI (dF h1) (andI (dF h0) (rfl))))))) (by kernel_rfl)
            · skip
              refine cond_intro (P := begins_Q b (startC E 40 ([.int .u8 b]) ([]))) _ (fun h6 => ?_) (fun h6 => ?_)
              · skip
                exact ends_q noK_ok 2000 65 (some [false, false, false, false, false, false, true]) [] [2, 3, 4, 5] [] (by kernel_rfl) (andI (dT h6) (andI (dF h5) (andI (dF h4) (andI (dF h3) (andI (dF h2) (andI (dF h1) (andI (dF h0) (rfl)))))))) (by kernel_rfl)
              · skip
                refine cond_intro (P := begins_Q b (startC E 40 ([.int .u8 b]) ([]))) _ (fun h7 => ?_) (fun h7 => ?_)
                · skip
                  exact ends_q noK_ok 2000 69 (some [false, false, false, false, false, false, false, true]) [] [2, 3, 4, 5] [] (by kernel_rfl) (andI (dT h7) (andI (dF h6) (andI (dF h5) (andI (dF h4) (andI (dF h3) (andI (dF h2) (andI (dF h1) (andI (dF h0) (rfl))))))))) (by kernel_rfl)
                · skip
                  refine cond_intro (P := begins_Q b (startC E 40 ([.int .u8 b]) ([]))) _ (fun h8 => ?_) (fun h8 => ?_)
                  · skip
                    exact ends_q noK_ok 2000 79 (some [false, false, false, false, false, false, false, false, true]) [] [2, 3, 4, 5] [] (by kernel_rfl) (andI (dT h8) (andI (dF h7) (andI (dF h6) (andI (dF h5) (andI (dF h4) (andI (dF h3) (andI (dF h2) (andI (dF h1) (andI (dF h0) (rfl)))))))))) (by kernel_rfl)
                  · skip
                    exact ends_q noK_ok 2000 81 (some [false, false, false, false, false, false, false, false, false]) [] [2, 3, 4, 5] [] (by kernel_rfl) (andI (dF h8) (andI (dF h7) (andI (dF h6) (andI (dF h5) (andI (dF h4) (andI (dF h3) (andI (dF h2) (andI (dF h1) (andI (dF h0) (rfl)))))))))) (by kernel_rfl)
theorem begins_call (b : Int) (hS : begins_S0 b) : CallOk E 40 ([.int .u8 b]) ([]) (begins_V b (begins_t0 b)) (begins_H b (begins_t0 b)) := callOk_of_ends (begins_ok0 b hS) (by kernel_rfl) (Nat.le_of_ble_eq_true (by kernel_rfl))
def begins_ex (a : List Value) (h : Heap) : Int := (toInt (a.getD 0 undef))
noncomputable def begins_k : Ct := kP begins_ex (fun x => [.int .u8 x]) (fun x => []) (fun x => begins_S0 x) (fun x => begins_V x (begins_t0 x)) (fun x => begins_H x (begins_t0 x))
theorem begins_k_ok : KFor E 40 begins_k := kP_ok (fun x hx => begins_call x hx)


noncomputable def K1 : Ctr := ctrOf E [(40, anyA, begins_k)]
theorem K1_ok : KOk E K1 := ctr_cons begins_k_ok ctr_nil

abbrev step_R : Type := Bool × Int × Int × Int × Int
def step_V (left low : Int) (high x at' : Int) (bad : Bool) (b : Int) (r : Bool × Int × Int × Int × Int) : Value := .bool r.1
def step_H (left low : Int) (high x at' : Int) (bad : Bool) (b : Int) (r : Bool × Int × Int × Int × Int) : Heap := [some (.cells [.int .i64 r.2.1, .int .u8 r.2.2.1, .int .u8 r.2.2.2.1, .int .i32 r.2.2.2.2, .int .i64 at', .bool bad] 77 none)]
noncomputable def step_Q (left low : Int) (high x at' : Int) (bad : Bool) (b : Int) (C : Cfg) (r : step_R) : Prop :=
  let p := r
  AEnds E 36 1 C (step_V left low high x at' bad b p) (step_H left low high x at' bad b p)
def step_t0 (left low : Int) (high x at' : Int) (bad : Bool) (b : Int) : step_R :=
  bif left == 0 then bif decide ((begins_t0 b).fst < 0) then (false, left, low, high, x)
    else (true, (begins_t0 b).fst, (begins_t0 b).snd.fst, (begins_t0 b).snd.snd.fst, (begins_t0 b).snd.snd.snd)
  else bif decide (b < low) then (false, left, low, high, x)
    else bif decide (high < b) then (false, left, low, high, x)
      else (true, IntKind.i64.wrap (left - 1), 128, 191, ior IntKind.i32 (ishl IntKind.i32 x 6) (IntKind.i32.wrap (iand IntKind.u8 b 63)))
def step_S0 (left low : Int) (high x at' : Int) (bad : Bool) (b : Int) : Prop :=
  ((left == 0) = true → ((decide ((begins_t0 b).fst < 0)) = true → begins_S0 b) ∧
    ((decide ((begins_t0 b).fst < 0)) = false → begins_S0 b)) ∧
  ((left == 0) = false → True)
theorem step_ok0 (left low : Int) (high x at' : Int) (bad : Bool) (b : Int) (hS : step_S0 left low high x at' bad b) : step_Q left low high x at' bad b (startC E 36 ([.pointer (some ⟨0, 0, none⟩), .int .u8 b]) ([some (.cells [.int .i64 left, .int .u8 low, .int .u8 high, .int .i32 x, .int .i64 at', .bool bad] 77 none)])) (step_t0 left low high x at' bad b) := by
  unfold step_S0 at hS
  unfold step_t0
  refine cond_intro (P := step_Q left low high x at' bad b (startC E 36 ([.pointer (some ⟨0, 0, none⟩), .int .u8 b]) ([some (.cells [.int .i64 left, .int .u8 low, .int .u8 high, .int .i32 x, .int .i64 at', .bool bad] 77 none)]))) _ (fun h0 => ?_) (fun h0 => ?_)
  · skip
    refine cond_intro (P := step_Q left low high x at' bad b (startC E 36 ([.pointer (some ⟨0, 0, none⟩), .int .u8 b]) ([some (.cells [.int .i64 left, .int .u8 low, .int .u8 high, .int .i32 x, .int .i64 at', .bool bad] 77 none)]))) _ (fun h1 => ?_) (fun h1 => ?_)
    · skip
      exact ends_q K1_ok 2000 39 (some [true, true]) [0] [4] [0] (by kernel_rfl) (andI (dT h1) (andI (eqA_self [.int .u8 b]) (andI (eqH_self []) (andI (pdec_iff.2 ((hS.1 h0).1 h1)) (andI (dT h0) (rfl)))))) (by kernel_rfl)
    · skip
      exact ends_q K1_ok 2000 63 (some [true, false]) [0] [4] [0] (by kernel_rfl) (andI (dF h1) (andI (eqA_self [.int .u8 b]) (andI (eqH_self []) (andI (pdec_iff.2 ((hS.1 h0).2 h1)) (andI (dT h0) (rfl)))))) (by kernel_rfl)
  · skip
    refine cond_intro (P := step_Q left low high x at' bad b (startC E 36 ([.pointer (some ⟨0, 0, none⟩), .int .u8 b]) ([some (.cells [.int .i64 left, .int .u8 low, .int .u8 high, .int .i32 x, .int .i64 at', .bool bad] 77 none)]))) _ (fun h1 => ?_) (fun h1 => ?_)
    · skip
      exact ends_q K1_ok 2000 38 (some [false, true, true]) [0] [4] [0] (by kernel_rfl) (andI (dT h1) (andI (dF h0) (rfl))) (by kernel_rfl)
    · skip
      refine cond_intro (P := step_Q left low high x at' bad b (startC E 36 ([.pointer (some ⟨0, 0, none⟩), .int .u8 b]) ([some (.cells [.int .i64 left, .int .u8 low, .int .u8 high, .int .i32 x, .int .i64 at', .bool bad] 77 none)]))) _ (fun h2 => ?_) (fun h2 => ?_)
      · skip
        exact ends_q K1_ok 2000 38 (some [false, false, true]) [0] [4] [0] (by kernel_rfl) (andI (dT h2) (andI (dF h1) (andI (dF h0) (rfl)))) (by kernel_rfl)
      · skip
        exact ends_q (ok := and (ishl IntKind.i32 x 6 == ishl IntKind.i32 x 6) (and (ishl IntKind.i32 x 6 == ishl IntKind.i32 x 6) (and (ishl IntKind.i32 x 6 == ishl IntKind.i32 x 6) (and (b == b) (and (b == b) (and (b == b) (and (iand IntKind.u8 b 63 == iand IntKind.u8 b 63) (and (iand IntKind.u8 b 63 == iand IntKind.u8 b 63) (and (iand IntKind.u8 b 63 == iand IntKind.u8 b 63) (and (IntKind.i32.wrap (iand IntKind.u8 b 63) == IntKind.i32.wrap (iand IntKind.u8 b 63)) (and (IntKind.i32.wrap (iand IntKind.u8 b 63) == IntKind.i32.wrap (iand IntKind.u8 b 63)) (and (IntKind.i32.wrap (iand IntKind.u8 b 63) == IntKind.i32.wrap (iand IntKind.u8 b 63)) (and (ior IntKind.i32 (ishl IntKind.i32 x 6) (IntKind.i32.wrap (iand IntKind.u8 b 63)) == ior IntKind.i32 (ishl IntKind.i32 x 6) (IntKind.i32.wrap (iand IntKind.u8 b 63))) (and (ior IntKind.i32 (ishl IntKind.i32 x 6) (IntKind.i32.wrap (iand IntKind.u8 b 63)) == ior IntKind.i32 (ishl IntKind.i32 x 6) (IntKind.i32.wrap (iand IntKind.u8 b 63))) (and (ior IntKind.i32 (ishl IntKind.i32 x 6) (IntKind.i32.wrap (iand IntKind.u8 b 63)) == ior IntKind.i32 (ishl IntKind.i32 x 6) (IntKind.i32.wrap (iand IntKind.u8 b 63))) (and ((decide (high < b)) == false) (and ((decide (b < low)) == false) (and ((left == 0) == false) (true))))))))))))))))))) K1_ok 2000 41 (some [false, false, false]) [0] [4] [0] (by kernel_rfl) (andI (beq_self_eq_true _) (andI (beq_self_eq_true _) (andI (beq_self_eq_true _) (andI (beq_self_eq_true _) (andI (beq_self_eq_true _) (andI (beq_self_eq_true _) (andI (beq_self_eq_true _) (andI (beq_self_eq_true _) (andI (beq_self_eq_true _) (andI (beq_self_eq_true _) (andI (beq_self_eq_true _) (andI (beq_self_eq_true _) (andI (beq_self_eq_true _) (andI (beq_self_eq_true _) (andI (beq_self_eq_true _) (andI (dF h2) (andI (dF h1) (andI (dF h0) (rfl))))))))))))))))))) (by kernel_rfl)
theorem step_call (left low : Int) (high x at' : Int) (bad : Bool) (b : Int) (hS : step_S0 left low high x at' bad b) : CallOk E 36 ([.pointer (some ⟨0, 0, none⟩), .int .u8 b]) ([some (.cells [.int .i64 left, .int .u8 low, .int .u8 high, .int .i32 x, .int .i64 at', .bool bad] 77 none)]) (step_V left low high x at' bad b (step_t0 left low high x at' bad b)) (step_H left low high x at' bad b (step_t0 left low high x at' bad b)) := callOk_of_ends (step_ok0 left low high x at' bad b hS) (by kernel_rfl) (Nat.le_of_ble_eq_true (by kernel_rfl))
def step_ex (a : List Value) (h : Heap) : Int × Int × Int × Int × Int × Bool × Int := ((toInt ((cellsOf h 0).getD 0 undef)), (toInt ((cellsOf h 0).getD 1 undef)), (toInt ((cellsOf h 0).getD 2 undef)), (toInt ((cellsOf h 0).getD 3 undef)), (toInt ((cellsOf h 0).getD 4 undef)), (toBool ((cellsOf h 0).getD 5 undef)), (toInt (a.getD 1 undef)))
noncomputable def step_k : Ct := kP step_ex (fun (a0, a1, a2, a3, a4, a5, a6) => [.pointer (some ⟨0, 0, none⟩), .int .u8 a6]) (fun (a0, a1, a2, a3, a4, a5, a6) => [some (.cells [.int .i64 a0, .int .u8 a1, .int .u8 a2, .int .i32 a3, .int .i64 a4, .bool a5] 77 none)]) (fun (a0, a1, a2, a3, a4, a5, a6) => step_S0 a0 a1 a2 a3 a4 a5 a6) (fun (a0, a1, a2, a3, a4, a5, a6) => step_V a0 a1 a2 a3 a4 a5 a6 (step_t0 a0 a1 a2 a3 a4 a5 a6)) (fun (a0, a1, a2, a3, a4, a5, a6) => step_H a0 a1 a2 a3 a4 a5 a6 (step_t0 a0 a1 a2 a3 a4 a5 a6))
theorem step_k_ok : KFor E 36 step_k := kP_ok (fun (a0, a1, a2, a3, a4, a5, a6) hx => step_call a0 a1 a2 a3 a4 a5 a6 hx)


end Go.Proofs.Ytgaedhpeiamdfaa
