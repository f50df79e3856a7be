/-
  The small functions of the sum, as plain functions.
-/
import Derived.Test.YtncldppnmkbklaaAmSlim
import Derived.Test.YtncldppnmkbklaaEnv
import Derived.Test.YtncldppnmkbklaaAmDt
set_option linter.unusedVariables false
set_option linter.unusedSimpArgs false
open Go Go.Am
namespace Go.Proofs.Ytncldppnmkbklaa

abbrev rrot_R : Type := Unit
def rrot_V (x n : Int) (r : Unit) : Value := .int .u32 (ior IntKind.u32 (ishl IntKind.u32 x n) (ishr IntKind.u32 x (IntKind.u64.wrap (32 - n))))
def rrot_H (x n : Int) (r : Unit) : Heap := []
noncomputable def rrot_Q (x n : Int) (C : Cfg) (r : rrot_R) : Prop :=
  let p := r
  AEnds E 11 0 C (rrot_V x n p) (rrot_H x n p)
def rrot_t0 (x n : Int) : rrot_R :=
  ()
def rrot_S0 (x n : Int) : Prop :=
  (0 ≤ IntKind.u64.wrap (32 - n)) ∧ (0 ≤ n)
theorem rrot_ok0 (x n : Int) (hS : rrot_S0 x n) : rrot_Q x n (startC E 11 ([.int .u32 x, .int .u64 n]) ([])) (rrot_t0 x n) := by
  unfold rrot_S0 at hS
  unfold rrot_t0
  exact ends_q noK_ok 2000 16 (some []) [] [4] [] (andI (decide_eq_true hS.1) (andI (decide_eq_true hS.2) (rfl)))
theorem rrot_call (x n : Int) (hS : rrot_S0 x n) : CallOk E 11 ([.int .u32 x, .int .u64 n]) ([]) (rrot_V x n (rrot_t0 x n)) (rrot_H x n (rrot_t0 x n)) := callOk_of_ends (rrot_ok0 x n hS) (by kernel_rfl) (Nat.le_of_ble_eq_true (by kernel_rfl))
def rrot_ex (a : List Value) (h : Heap) : Int × Int := ((toInt (a.getD 0 undef)), (toInt (a.getD 1 undef)))
noncomputable def rrot_k : Ct := kP rrot_ex (fun (a0, a1) => [.int .u32 a0, .int .u64 a1]) (fun (a0, a1) => []) (fun (a0, a1) => rrot_S0 a0 a1) (fun (a0, a1) => rrot_V a0 a1 (rrot_t0 a0 a1)) (fun (a0, a1) => rrot_H a0 a1 (rrot_t0 a0 a1))
theorem rrot_k_ok : KFor E 11 rrot_k := kP_ok (fun (a0, a1) hx => rrot_call a0 a1 hx)


abbrev rotl_R : Type := Unit
def rotl_V (x n : Int) (r : Unit) : Value := .int .u32 (ior IntKind.u32 (ishl IntKind.u32 x (iand IntKind.u64 (IntKind.u64.wrap n) 31)) (ishr IntKind.u32 x (IntKind.u64.wrap (32 - iand IntKind.u64 (IntKind.u64.wrap n) 31))))
def rotl_H (x n : Int) (r : Unit) : Heap := []
noncomputable def rotl_Q (x n : Int) (C : Cfg) (r : rotl_R) : Prop :=
  let p := r
  AEnds E 18 0 C (rotl_V x n p) (rotl_H x n p)
def rotl_t0 (x n : Int) : rotl_R :=
  ()
def rotl_S0 (x n : Int) : Prop :=
  0 ≤ IntKind.u64.wrap (32 - iand IntKind.u64 (IntKind.u64.wrap n) 31)
theorem rotl_ok0 (x n : Int) (hS : rotl_S0 x n) : rotl_Q x n (startC E 18 ([.int .u32 x, .int .i64 n]) ([])) (rotl_t0 x n) := by
  unfold rotl_S0 at hS
  unfold rotl_t0
  exact ends_q noK_ok 2000 23 (some []) [] [4] [] (andI (decide_eq_true hS) (rfl))
theorem rotl_call (x n : Int) (hS : rotl_S0 x n) : CallOk E 18 ([.int .u32 x, .int .i64 n]) ([]) (rotl_V x n (rotl_t0 x n)) (rotl_H x n (rotl_t0 x n)) := callOk_of_ends (rotl_ok0 x n hS) (by kernel_rfl) (Nat.le_of_ble_eq_true (by kernel_rfl))
def rotl_ex (a : List Value) (h : Heap) : Int × Int := ((toInt (a.getD 0 undef)), (toInt (a.getD 1 undef)))
noncomputable def rotl_k : Ct := kP rotl_ex (fun (a0, a1) => [.int .u32 a0, .int .i64 a1]) (fun (a0, a1) => []) (fun (a0, a1) => rotl_S0 a0 a1) (fun (a0, a1) => rotl_V a0 a1 (rotl_t0 a0 a1)) (fun (a0, a1) => rotl_H a0 a1 (rotl_t0 a0 a1))
theorem rotl_k_ok : KFor E 18 rotl_k := kP_ok (fun (a0, a1) hx => rotl_call a0 a1 hx)


abbrev mixed_R : Type := Int × Int
def mixed_V (t b : Int) (c d : Int) (r : Int × Int) : Value := .tuple #[.int .u32 r.1, .int .u32 r.2]
def mixed_H (t b : Int) (c d : Int) (r : Int × Int) : Heap := []
noncomputable def mixed_Q (t b : Int) (c d : Int) (C : Cfg) (r : mixed_R) : Prop :=
  let p := r
  AEnds E 17 0 C (mixed_V t b c d p) (mixed_H t b c d p)
def mixed_t0 (t b : Int) (c d : Int) : mixed_R :=
  bif decide (t < 20) then (ixor IntKind.u32 (iand IntKind.u32 b c) (iand IntKind.u32 (inot IntKind.u32 b) d), 1518500249)
  else bif decide (t < 40) then (ixor IntKind.u32 (ixor IntKind.u32 b c) d, 1859775393)
    else bif decide (t < 60) then (ixor IntKind.u32 (ixor IntKind.u32 (iand IntKind.u32 b c) (iand IntKind.u32 b d)) (iand IntKind.u32 c d), 2400959708)
      else (ixor IntKind.u32 (ixor IntKind.u32 b c) d, 3395469782)
def mixed_S0 (t b : Int) (c d : Int) : Prop :=
  True
theorem mixed_ok0 (t b : Int) (c d : Int) (hS : mixed_S0 t b c d) : mixed_Q t b c d (startC E 17 ([.int .i64 t, .int .u32 b, .int .u32 c, .int .u32 d]) ([])) (mixed_t0 t b c d) := by
  unfold mixed_S0 at hS
  unfold mixed_t0
  refine cond_intro (P := mixed_Q t b c d (startC E 17 ([.int .i64 t, .int .u32 b, .int .u32 c, .int .u32 d]) ([]))) _ (fun h0 => ?_) (fun h0 => ?_)
  · skip
    exact ends_q noK_ok 2000 27 (some [true]) [] [8, 9] [] (andI (dT h0) (rfl))
  · skip
    refine cond_intro (P := mixed_Q t b c d (startC E 17 ([.int .i64 t, .int .u32 b, .int .u32 c, .int .u32 d]) ([]))) _ (fun h1 => ?_) (fun h1 => ?_)
    · skip
      exact ends_q noK_ok 2000 31 (some [false, true]) [] [8, 9] [] (andI (dT h1) (andI (dF h0) (rfl)))
    · skip
      refine cond_intro (P := mixed_Q t b c d (startC E 17 ([.int .i64 t, .int .u32 b, .int .u32 c, .int .u32 d]) ([]))) _ (fun h2 => ?_) (fun h2 => ?_)
      · skip
        exact ends_q noK_ok 2000 44 (some [false, false, true]) [] [8, 9] [] (andI (dT h2) (andI (dF h1) (andI (dF h0) (rfl))))
      · skip
        exact ends_q noK_ok 2000 40 (some [false, false, false]) [] [8, 9] [] (andI (dF h2) (andI (dF h1) (andI (dF h0) (rfl))))
theorem mixed_call (t b : Int) (c d : Int) (hS : mixed_S0 t b c d) : CallOk E 17 ([.int .i64 t, .int .u32 b, .int .u32 c, .int .u32 d]) ([]) (mixed_V t b c d (mixed_t0 t b c d)) (mixed_H t b c d (mixed_t0 t b c d)) := callOk_of_ends (mixed_ok0 t b c d hS) (by kernel_rfl) (Nat.le_of_ble_eq_true (by kernel_rfl))
def mixed_ex (a : List Value) (h : Heap) : Int × Int × Int × Int := ((toInt (a.getD 0 undef)), (toInt (a.getD 1 undef)), (toInt (a.getD 2 undef)), (toInt (a.getD 3 undef)))
noncomputable def mixed_k : Ct := kP mixed_ex (fun (a0, a1, a2, a3) => [.int .i64 a0, .int .u32 a1, .int .u32 a2, .int .u32 a3]) (fun (a0, a1, a2, a3) => []) (fun (a0, a1, a2, a3) => mixed_S0 a0 a1 a2 a3) (fun (a0, a1, a2, a3) => mixed_V a0 a1 a2 a3 (mixed_t0 a0 a1 a2 a3)) (fun (a0, a1, a2, a3) => mixed_H a0 a1 a2 a3 (mixed_t0 a0 a1 a2 a3))
theorem mixed_k_ok : KFor E 17 mixed_k := kP_ok (fun (a0, a1, a2, a3) hx => mixed_call a0 a1 a2 a3 hx)


noncomputable def big_b1 (s : ByteArray) (n : Int) : Cfg := cfgOf (goNil E noK 2000 12 (some []) [] [] [] [0, 4, 6, 7] [] [] [] (startC E 25 ([.string s, .int .i64 n]) ([])))
noncomputable def big_h1 (s : ByteArray) (n t4 t7 : Int) : Cfg := wTmp 7 (.int .i64 t7) (wTmp 4 (.int .u64 t4) (big_b1 s n))
abbrev big_R : Type := (Int × Int) ⊕ (Int)
def big_V (s : ByteArray) (n r : Int) : Value := .int .u64 r
def big_H (s : ByteArray) (n r : Int) : Heap := []
noncomputable def big_Q (s : ByteArray) (n : Int) (C : Cfg) (r : big_R) : Prop :=
  match r with
  | .inl (p) => Gets E 0 C (big_h1 s n (p.1) (p.2))
  | .inr (p) => AEnds E 25 0 C (big_V s n p) (big_H s n p)
theorem big_go1 {s : ByteArray} {n : Int} {C : Cfg} {t4 : Int} {t7 : Int} (h : big_Q s n C (.inl ((t4, t7)))) : Gets E 0 C (big_h1 s n t4 t7) := h
theorem big_end {s : ByteArray} {n : Int} {C : Cfg} {r : Int} (h : big_Q s n C (.inr (r))) : AEnds E 25 0 C (big_V s n r) (big_H s n r) := h
def big_t0 (s : ByteArray) (n : Int) : big_R :=
  .inl ((0, 0))
def big_S0 (s : ByteArray) (n : Int) : Prop :=
  True
theorem big_ok0 (s : ByteArray) (n : Int) (hS : big_S0 s n) : big_Q s n (startC E 25 ([.string s, .int .i64 n]) ([])) (big_t0 s n) := by
  unfold big_S0 at hS
  unfold big_t0
  show Gets E 0 _ (big_h1 s n (0) (0))
  exact reach_q noK_ok 2000 12 (some []) [] [] [] [0, 4, 6, 7] [] [] [] (rfl)
def big_t1 (s : ByteArray) (n t4 t7 : Int) : big_R :=
  bif decide (t7 < n) then .inl ((ior IntKind.u64 (ishl IntKind.u64 t4 8) (IntKind.u64.wrap (chr s t7.toNat)), IntKind.i64.wrap (t7 + 1)))
  else .inr (t4)
def big_S1 (s : ByteArray) (n t4 t7 : Int) : Prop :=
  ((decide (t7 < n)) = true → (0 ≤ t7) ∧ (t7 < (↑(slen s) : Int))) ∧
  ((decide (t7 < n)) = false → True)
theorem big_ok1 (s : ByteArray) (n t4 t7 : Int) (hS : big_S1 s n t4 t7) : big_Q s n (big_h1 s n t4 t7) (big_t1 s n t4 t7) := by
  unfold big_S1 at hS
  unfold big_t1
  refine cond_intro (P := big_Q s n (big_h1 s n t4 t7)) _ (fun h0 => ?_) (fun h0 => ?_)
  · skip
    show Gets E 0 _ (big_h1 s n (ior IntKind.u64 (ishl IntKind.u64 t4 8) (IntKind.u64.wrap (chr s t7.toNat))) (IntKind.i64.wrap (t7 + 1)))
    exact reach_q noK_ok 2000 30 (some [true]) [] [] [] [0, 4, 6, 7] [] [] [] (andI (decide_eq_true (hS.1 h0).1) (andI (decide_eq_true (hS.1 h0).2) (andI (dT h0) (rfl))))
  · skip
    exact ends_q noK_ok 2000 12 (some [false]) [] [4] [] (andI (dF h0) (rfl))


abbrev big4_R : Type := Unit
def big4_V (s : ByteArray) (r : Unit) : Value := .int .u64 (ior IntKind.u64 (ishl IntKind.u64 (ior IntKind.u64 (ishl IntKind.u64 (ior IntKind.u64 (ishl IntKind.u64 (ior IntKind.u64 0 (IntKind.u64.wrap (chr s 0))) 8) (IntKind.u64.wrap (chr s 1))) 8) (IntKind.u64.wrap (chr s 2))) 8) (IntKind.u64.wrap (chr s 3)))
def big4_H (s : ByteArray) (r : Unit) : Heap := []
noncomputable def big4_Q (s : ByteArray) (C : Cfg) (r : big4_R) : Prop :=
  let p := r
  AEnds E 25 0 C (big4_V s p) (big4_H s p)
def big4_t0 (s : ByteArray) : big4_R :=
  ()
def big4_S0 (s : ByteArray) : Prop :=
  (3 < (↑(slen s) : Int)) ∧ (2 < (↑(slen s) : Int)) ∧ (1 < (↑(slen s) : Int)) ∧ (0 < (↑(slen s) : Int))
theorem big4_ok0 (s : ByteArray) (hS : big4_S0 s) : big4_Q s (startC E 25 ([.string s, .int .i64 4]) ([])) (big4_t0 s) := by
  unfold big4_S0 at hS
  unfold big4_t0
  exact ends_q noK_ok 2000 144 (some [true, true, true, true, false]) [] [4] [] (andI (decide_eq_true hS.1) (andI (decide_eq_true hS.2.1) (andI (decide_eq_true hS.2.2.1) (andI (decide_eq_true hS.2.2.2) (rfl)))))
theorem big4_call (s : ByteArray) (hS : big4_S0 s) : CallOk E 25 ([.string s, .int .i64 4]) ([]) (big4_V s (big4_t0 s)) (big4_H s (big4_t0 s)) := callOk_of_ends (big4_ok0 s hS) (by kernel_rfl) (Nat.le_of_ble_eq_true (by kernel_rfl))
def big4_ex (a : List Value) (h : Heap) : ByteArray := (toStr (a.getD 0 undef))
noncomputable def big4_k : Ct := kP big4_ex (fun x => [.string x, .int .i64 4]) (fun x => []) (fun x => big4_S0 x) (fun x => big4_V x (big4_t0 x)) (fun x => big4_H x (big4_t0 x))
theorem big4_k_ok : KFor E 25 big4_k := kP_ok (fun x hx => big4_call x hx)


end Go.Proofs.Ytncldppnmkbklaa
