/-
  What a byte begins, what a byte does to a check, as plain functions; the calls of them.
-/
import Derived.Test.YtfpnjpbdaniomaaAmSlim
import Derived.Test.YtfpnjpbdaniomaaEnv
set_option linter.unusedVariables false
open Go Go.Am
namespace Go.Proofs.Ytfpnjpbdaniomaa

abbrev width_R : Type := Int
def width_V (x r : Int) : Value := .int .i64 r
def width_H (x r : Int) : Heap := []
noncomputable def width_Q (x : Int) (C : Cfg) (r : width_R) : Prop :=
 let p := r
 AEnds E 27 0 C (width_V x p) (width_H x p)
noncomputable def width_t0 (x : Int) : width_R :=
 bif decide (x < 128) then 1
 else bif decide (x < 2048) then 2
  else bif decide (x < 65536) then 3
   else 4
def width_S0 (x : Int) : Prop :=
 True
theorem width_ok0 (x : Int) (hS : width_S0 x) : width_Q x (startC E 27 ([.int .i32 x]) ([])) (width_t0 x) := by
 unfold width_S0 at hS
 unfold width_t0
 refine cond_intro (P := width_Q x (startC E 27 ([.int .i32 x]) ([]))) _ (fun h0 => ?_) (fun h0 => ?_)
 ·skip
  exact ends_q noK_ok 2000 17 (bs 1 1) [] [2] [] (andI (dT h0) rfl)
 ·skip
  refine cond_intro (P := width_Q x (startC E 27 ([.int .i32 x]) ([]))) _ (fun h1 => ?_) (fun h1 => ?_)
  ·skip
   exact ends_q noK_ok 2000 24 (bs 2 2) [] [2] [] (andI (dT h1) (andI (dF h0) rfl))
  ·skip
   refine cond_intro (P := width_Q x (startC E 27 ([.int .i32 x]) ([]))) _ (fun h2 => ?_) (fun h2 => ?_)
   ·skip
    exact ends_q noK_ok 2000 31 (bs 3 4) [] [2] [] (andI (dT h2) (andI (dF h1) (andI (dF h0) rfl)))
   ·skip
    exact ends_q noK_ok 2000 33 (bs 3 0) [] [2] [] (andI (dF h2) (andI (dF h1) (andI (dF h0) rfl)))
theorem width_call (x : Int) (hS : width_S0 x) : CallOk E 27 ([.int .i32 x]) ([]) (width_V x (width_t0 x)) (width_H x (width_t0 x)) := callOk_of_ends (width_ok0 x hS) (by kernel_rfl) (Nat.le_of_ble_eq_true (by kernel_rfl))
def width_ex (a : List Value) (h : Heap) : Int := (toInt (a.getD 0 undef))
noncomputable def width_k : Ct := kS width_ex [.int .i32] [] (fun x => width_S0 x) (fun x => width_V x (width_t0 x)) (fun x => width_H x (width_t0 x))
theorem width_k_ok : KFor E 27 width_k := kS_ok (fun x hx => width_call x hx) (fun _ _ => rfl) (fun _ _ => rfl)


abbrev begins_R : Type := Int × Int × Int × Int
def begins_V (b : Int) (r : Int × Int × Int × Int) : Value := .tuple #[.int .i64 r.1, .int .u8 r.2.1, .int .u8 r.2.2.1, .int .i32 r.2.2.2]
def begins_H (b : Int) (r : Int × Int × Int × Int) : Heap := []
noncomputable def begins_Q (b : Int) (C : Cfg) (r : begins_R) : Prop :=
 let p := r
 AEnds E 54 0 C (begins_V b p) (begins_H b p)
noncomputable def begins_t0 (b : Int) : begins_R :=
 bif decide (b < 128) then (0, 0, 0, IntKind.i32.wrap b)
 else bif decide (b < 194) then (-1, 0, 0, 0)
  else bif decide (244 < b) then (-1, 0, 0, 0)
   else bif decide (b < 224) then (1, 128, 191, IntKind.i32.wrap (iand IntKind.u8 b 31))
    else bif b == 224 then (2, 160, 191, 0)
     else bif b == 237 then (2, 128, 159, IntKind.i32.wrap (iand IntKind.u8 b 15))
      else bif decide (b < 240) then (2, 128, 191, IntKind.i32.wrap (iand IntKind.u8 b 15))
       else bif b == 240 then (3, 144, 191, 0)
        else bif b == 244 then (3, 128, 143, IntKind.i32.wrap (iand IntKind.u8 b 7))
         else (3, 128, 191, IntKind.i32.wrap (iand IntKind.u8 b 7))
def begins_S0 (b : Int) : Prop :=
 True
theorem begins_ok0 (b : Int) (hS : begins_S0 b) : begins_Q b (startC E 54 ([.int .u8 b]) ([])) (begins_t0 b) := by
 unfold begins_S0 at hS
 unfold begins_t0
 refine cond_intro (P := begins_Q b (startC E 54 ([.int .u8 b]) ([]))) _ (fun h0 => ?_) (fun h0 => ?_)
 ·skip
  exact ends_q noK_ok 2000 25 (bs 1 1) [] [2, 3, 4, 5] [] (andI (dT h0) rfl)
 ·skip
  refine cond_intro (P := begins_Q b (startC E 54 ([.int .u8 b]) ([]))) _ (fun h1 => ?_) (fun h1 => ?_)
  ·skip
   exact ends_q noK_ok 2000 34 (bs 3 6) [] [2, 3, 4, 5] [] (andI (dT h1) (andI (dF h0) rfl))
  ·skip
   refine cond_intro (P := begins_Q b (startC E 54 ([.int .u8 b]) ([]))) _ (fun h2 => ?_) (fun h2 => ?_)
   ·skip
    exact ends_q noK_ok 2000 34 (bs 3 4) [] [2, 3, 4, 5] [] (andI (dT h2) (andI (dF h1) (andI (dF h0) rfl)))
   ·skip
    refine cond_intro (P := begins_Q b (startC E 54 ([.int .u8 b]) ([]))) _ (fun h3 => ?_) (fun h3 => ?_)
    ·skip
     exact ends_q noK_ok 2000 44 (bs 4 8) [] [2, 3, 4, 5] [] (and4 (dT h3) (dF h2) (dF h1) (dF h0) rfl)
    ·skip
     refine cond_intro (P := begins_Q b (startC E 54 ([.int .u8 b]) ([]))) _ (fun h4 => ?_) (fun h4 => ?_)
     ·skip
      exact ends_q noK_ok 2000 48 (bs 5 16) [] [2, 3, 4, 5] [] (andI (dT h4) (and4 (dF h3) (dF h2) (dF h1) (dF h0) rfl))
     ·skip
      refine cond_intro (P := begins_Q b (startC E 54 ([.int .u8 b]) ([]))) _ (fun h5 => ?_) (fun h5 => ?_)
      ·skip
       exact ends_q noK_ok 2000 58 (bs 6 32) [] [2, 3, 4, 5] [] (andI (dT h5) (andI (dF h4) (and4 (dF h3) (dF h2) (dF h1) (dF h0) rfl)))
      ·skip
       refine cond_intro (P := begins_Q b (startC E 54 ([.int .u8 b]) ([]))) _ (fun h6 => ?_) (fun h6 => ?_)
       ·skip
        exact ends_q noK_ok 2000 65 (bs 7 64) [] [2, 3, 4, 5] [] (andI (dT h6) (andI (dF h5) (andI (dF h4) (and4 (dF h3) (dF h2) (dF h1) (dF h0) rfl))))
       ·skip
        refine cond_intro (P := begins_Q b (startC E 54 ([.int .u8 b]) ([]))) _ (fun h7 => ?_) (fun h7 => ?_)
        ·skip
         exact ends_q noK_ok 2000 69 (bs 8 128) [] [2, 3, 4, 5] [] (and8 (dT h7) (dF h6) (dF h5) (dF h4) (dF h3) (dF h2) (dF h1) (dF h0) rfl)
        ·skip
         refine cond_intro (P := begins_Q b (startC E 54 ([.int .u8 b]) ([]))) _ (fun h8 => ?_) (fun h8 => ?_)
         ·skip
          exact ends_q noK_ok 2000 79 (bs 9 256) [] [2, 3, 4, 5] [] (and8 (dT h8) (dF h7) (dF h6) (dF h5) (dF h4) (dF h3) (dF h2) (dF h1) (andI (dF h0) rfl))
         ·skip
          exact ends_q noK_ok 2000 81 (bs 9 0) [] [2, 3, 4, 5] [] (and8 (dF h8) (dF h7) (dF h6) (dF h5) (dF h4) (dF h3) (dF h2) (dF h1) (andI (dF h0) rfl))
theorem begins_call (b : Int) (hS : begins_S0 b) : CallOk E 54 ([.int .u8 b]) ([]) (begins_V b (begins_t0 b)) (begins_H b (begins_t0 b)) := callOk_of_ends (begins_ok0 b hS) (by kernel_rfl) (Nat.le_of_ble_eq_true (by kernel_rfl))
def begins_ex (a : List Value) (h : Heap) : Int := (toInt (a.getD 0 undef))
noncomputable def begins_k : Ct := kS begins_ex [.int .u8] [] (fun x => begins_S0 x) (fun x => begins_V x (begins_t0 x)) (fun x => begins_H x (begins_t0 x))
theorem begins_k_ok : KFor E 54 begins_k := kS_ok (fun x hx => begins_call x hx) (fun _ _ => rfl) (fun _ _ => rfl)


noncomputable def K1 : Ctr := ctrOf E [(54, anyA, begins_k)]
theorem K1_ok : KOk E K1 := ctr_cons begins_k_ok ctr_nil

abbrev step_R : Type := Bool × Int × Int × Int × Int
def step_V (left low : Int) (high x at' : Int) (bad : Bool) (b : Int) (r : Bool × Int × Int × Int × Int) : Value := .bool r.1
def step_H (left low : Int) (high x at' : Int) (bad : Bool) (b : Int) (r : Bool × Int × Int × Int × Int) : Heap := [some (.cells [.int .i64 r.2.1, .int .u8 r.2.2.1, .int .u8 r.2.2.2.1, .int .i32 r.2.2.2.2, .int .i64 at', .bool bad] 106 none)]
noncomputable def step_Q (left low : Int) (high x at' : Int) (bad : Bool) (b : Int) (C : Cfg) (r : step_R) : Prop :=
 let p := r
 AEnds E 44 1 C (step_V left low high x at' bad b p) (step_H left low high x at' bad b p)
noncomputable def step_t0 (left low : Int) (high x at' : Int) (bad : Bool) (b : Int) : step_R :=
 bif left == 0 then bif decide ((begins_t0 b).1 < 0) then (false, left, low, high, x)
  else (true, (begins_t0 b).1, (begins_t0 b).2.1, (begins_t0 b).2.2.1, (begins_t0 b).2.2.2)
 else bif decide (b < low) then (false, left, low, high, x)
  else bif decide (high < b) then (false, left, low, high, x)
   else (true, IntKind.i64.wrap (left - 1), 128, 191, ior IntKind.i32 (ishl IntKind.i32 x 6) (IntKind.i32.wrap (iand IntKind.u8 b 63)))
def step_S0 (left low : Int) (high x at' : Int) (bad : Bool) (b : Int) : Prop :=
 ((left == 0) = true → ((decide ((begins_t0 b).1 < 0)) = true → begins_S0 b) ∧
  ((decide ((begins_t0 b).1 < 0)) = false → begins_S0 b)) ∧
 ((left == 0) = false → True)
theorem step_ok0 (left low : Int) (high x at' : Int) (bad : Bool) (b : Int) (hS : step_S0 left low high x at' bad b) : step_Q left low high x at' bad b (startC E 44 ([.pointer (some ⟨0, 0, none⟩), .int .u8 b]) ([some (.cells [.int .i64 left, .int .u8 low, .int .u8 high, .int .i32 x, .int .i64 at', .bool bad] 106 none)])) (step_t0 left low high x at' bad b) := by
 unfold step_S0 at hS
 unfold step_t0
 refine cond_intro (P := step_Q left low high x at' bad b (startC E 44 ([.pointer (some ⟨0, 0, none⟩), .int .u8 b]) ([some (.cells [.int .i64 left, .int .u8 low, .int .u8 high, .int .i32 x, .int .i64 at', .bool bad] 106 none)]))) _ (fun h0 => ?_) (fun h0 => ?_)
 ·skip
  refine cond_intro (P := step_Q left low high x at' bad b (startC E 44 ([.pointer (some ⟨0, 0, none⟩), .int .u8 b]) ([some (.cells [.int .i64 left, .int .u8 low, .int .u8 high, .int .i32 x, .int .i64 at', .bool bad] 106 none)]))) _ (fun h1 => ?_) (fun h1 => ?_)
  ·skip
   exact ends_q K1_ok 2000 39 (bs 2 3) [0] [4] [0] (andI (dT h1) (andI (pdec_iff.2 ((hS.1 h0).1 h1)) (andI (dT h0) rfl)))
  ·skip
   exact ends_q K1_ok 2000 63 (bs 2 1) [0] [4] [0] (andI (dF h1) (andI (pdec_iff.2 ((hS.1 h0).2 h1)) (andI (dT h0) rfl)))
 ·skip
  refine cond_intro (P := step_Q left low high x at' bad b (startC E 44 ([.pointer (some ⟨0, 0, none⟩), .int .u8 b]) ([some (.cells [.int .i64 left, .int .u8 low, .int .u8 high, .int .i32 x, .int .i64 at', .bool bad] 106 none)]))) _ (fun h1 => ?_) (fun h1 => ?_)
  ·skip
   exact ends_q K1_ok 2000 38 (bs 3 6) [0] [4] [0] (andI (dT h1) (andI (dF h0) rfl))
  ·skip
   refine cond_intro (P := step_Q left low high x at' bad b (startC E 44 ([.pointer (some ⟨0, 0, none⟩), .int .u8 b]) ([some (.cells [.int .i64 left, .int .u8 low, .int .u8 high, .int .i32 x, .int .i64 at', .bool bad] 106 none)]))) _ (fun h2 => ?_) (fun h2 => ?_)
   ·skip
    exact ends_q K1_ok 2000 38 (bs 3 4) [0] [4] [0] (andI (dT h2) (andI (dF h1) (andI (dF h0) rfl)))
   ·skip
    exact ends_q K1_ok 2000 41 (bs 3 0) [0] [4] [0] (and8 (beq_self_eq_true (ishl IntKind.i32 x 6)) (beq_self_eq_true (ishl IntKind.i32 x 6)) (beq_self_eq_true (ishl IntKind.i32 x 6)) (beq_self_eq_true (b)) (beq_self_eq_true (b)) (beq_self_eq_true (b)) (beq_self_eq_true (iand IntKind.u8 b 63)) (beq_self_eq_true (iand IntKind.u8 b 63)) (and8 (beq_self_eq_true (iand IntKind.u8 b 63)) (beq_self_eq_true (IntKind.i32.wrap (iand IntKind.u8 b 63))) (beq_self_eq_true (IntKind.i32.wrap (iand IntKind.u8 b 63))) (beq_self_eq_true (IntKind.i32.wrap (iand IntKind.u8 b 63))) (beq_self_eq_true (ior IntKind.i32 (ishl IntKind.i32 x 6) (IntKind.i32.wrap (iand IntKind.u8 b 63)))) (beq_self_eq_true (ior IntKind.i32 (ishl IntKind.i32 x 6) (IntKind.i32.wrap (iand IntKind.u8 b 63)))) (beq_self_eq_true (ior IntKind.i32 (ishl IntKind.i32 x 6) (IntKind.i32.wrap (iand IntKind.u8 b 63)))) (dF h2) (andI (dF h1) (andI (dF h0) rfl))))
theorem step_call (left low : Int) (high x at' : Int) (bad : Bool) (b : Int) (hS : step_S0 left low high x at' bad b) : CallOk E 44 ([.pointer (some ⟨0, 0, none⟩), .int .u8 b]) ([some (.cells [.int .i64 left, .int .u8 low, .int .u8 high, .int .i32 x, .int .i64 at', .bool bad] 106 none)]) (step_V left low high x at' bad b (step_t0 left low high x at' bad b)) (step_H left low high x at' bad b (step_t0 left low high x at' bad b)) := callOk_of_ends (step_ok0 left low high x at' bad b hS) (by kernel_rfl) (Nat.le_of_ble_eq_true (by kernel_rfl))
def step_ex (a : List Value) (h : Heap) : Int × Int × Int × Int × Int × Bool × Int := ((toInt ((cellsOf h 0).getD 0 undef)), (toInt ((cellsOf h 0).getD 1 undef)), (toInt ((cellsOf h 0).getD 2 undef)), (toInt ((cellsOf h 0).getD 3 undef)), (toInt ((cellsOf h 0).getD 4 undef)), (toBool ((cellsOf h 0).getD 5 undef)), (toInt (a.getD 1 undef)))
noncomputable def step_k : Ct := kS step_ex [.ptr 0 0, .int .u8] [.cells [.int .i64, .int .u8, .int .u8, .int .i32, .int .i64, .bool] 106 none] (fun (a0, a1, a2, a3, a4, a5, a6) => step_S0 a0 a1 a2 a3 a4 a5 a6) (fun (a0, a1, a2, a3, a4, a5, a6) => step_V a0 a1 a2 a3 a4 a5 a6 (step_t0 a0 a1 a2 a3 a4 a5 a6)) (fun (a0, a1, a2, a3, a4, a5, a6) => step_H a0 a1 a2 a3 a4 a5 a6 (step_t0 a0 a1 a2 a3 a4 a5 a6))
theorem step_k_ok : KFor E 44 step_k := kS_ok (fun x hx => step_call (x.1) (x.2.1) (x.2.2.1) (x.2.2.2.1) (x.2.2.2.2.1) (x.2.2.2.2.2.1) (x.2.2.2.2.2.2) hx) (fun _ _ => rfl) (fun _ _ => rfl)


end Go.Proofs.Ytfpnjpbdaniomaa

/-
  A check that is fed: the loop over a text's bytes.
-/
set_option linter.unusedVariables false
open Go Go.Am
namespace Go.Proofs.Ytfpnjpbdaniomaa
noncomputable def K2 : Ctr := ctrOf E [(54, anyA, begins_k), (44, ptrA, step_k), (27, anyA, width_k)]
theorem K2_ok : KOk E K2 := ctr_cons begins_k_ok (ctr_cons step_k_ok (ctr_cons width_k_ok ctr_nil))

abbrev Q := Int × Int × Int × Int
noncomputable def sst (q : Q) (b : Int) : Bool × Q := step_t0 q.1 q.2.1 q.2.2.1 q.2.2.2 0 false b
noncomputable def feedL : Q → Int → Bool → List UInt8 → Q × Int × Bool
 | q, at', bad, [] => (q, at', bad)
 | q, at', bad, b :: r => bif bad then (q, at', bad) else feedL (sst q b.toNat).2 (bif (sst q b.toNat).1 then at' + 1 else at') (!(sst q b.toNat).1) r
theorem feedL_bad (q : Q) (at' : Int) : ∀ l, feedL q at' true l = (q, at', true)
 | [] => rfl
 | _ :: _ => rfl

theorem step_safe (a b c d e : Int) (f : Bool) (g : Int) : step_S0 a b c d e f g := by
 unfold step_S0 begins_S0
 simp

end Go.Proofs.Ytfpnjpbdaniomaa

/-
  Plain laws of the check: what a byte does, character by character.
-/
set_option linter.unusedVariables false
set_option linter.unusedSimpArgs false
open Go Go.Am
namespace Go.Proofs.Ytfpnjpbdaniomaa

theorem and31 (b : Int) (h0 : 0 ≤ b) (h1 : b < 256) : iand .u8 b 31 = b % 32 := by
 have : ∀ n : Fin 256, iand .u8 ((n.val : Nat) : Int) 31 = ((n.val : Nat) : Int) % 32 := by decide +kernel
 have := this ⟨b.toNat, by omega⟩
 simpa [Int.toNat_of_nonneg h0] using this
theorem and15 (b : Int) (h0 : 0 ≤ b) (h1 : b < 256) : iand .u8 b 15 = b % 16 := by
 have : ∀ n : Fin 256, iand .u8 ((n.val : Nat) : Int) 15 = ((n.val : Nat) : Int) % 16 := by decide +kernel
 have := this ⟨b.toNat, by omega⟩
 simpa [Int.toNat_of_nonneg h0] using this
theorem and7 (b : Int) (h0 : 0 ≤ b) (h1 : b < 256) : iand .u8 b 7 = b % 8 := by
 have : ∀ n : Fin 256, iand .u8 ((n.val : Nat) : Int) 7 = ((n.val : Nat) : Int) % 8 := by decide +kernel
 have := this ⟨b.toNat, by omega⟩
 simpa [Int.toNat_of_nonneg h0] using this
theorem and63 (b : Int) (h0 : 0 ≤ b) (h1 : b < 256) : iand .u8 b 63 = b % 64 := by
 have : ∀ n : Fin 256, iand .u8 ((n.val : Nat) : Int) 63 = ((n.val : Nat) : Int) % 64 := by decide +kernel
 have := this ⟨b.toNat, by omega⟩
 simpa [Int.toNat_of_nonneg h0] using this
theorem wrap32_in {x : Int} (h1 : -2147483648 ≤ x) (h2 : x < 2147483648) : IntKind.i32.wrap x = x := by
 have h : IntKind.i32.wrap x = if x % 4294967296 ≥ 2147483648 then x % 4294967296 - 4294967296 else x % 4294967296 := by
  simp [IntKind.wrap, IntKind.bits, IntKind.signed]
 rw [h]
 split <;> omega
theorem shl6 (x : Int) (h0 : 0 ≤ x) (h1 : x < 1048576) : ishl .i32 x 6 = x * 64 := by
 have e : ishl .i32 x 6 = IntKind.i32.wrap (x * 64) := by
  unfold ishl
  rfl
 rw [e, wrap32_in (by omega) (by omega)]
theorem or6 (x y : Int) (h0 : 0 ≤ x) (h1 : x < 1048576) (h2 : 0 ≤ y) (h3 : y < 64) : ior .i32 (x * 64) y = x * 64 + y := by
 obtain ⟨a, rfl⟩ := Int.eq_ofNat_of_zero_le h0
 obtain ⟨b, rfl⟩ := Int.eq_ofNat_of_zero_le h2
 have e1 : (BitVec.ofInt 32 ((a : Int) * 64)) = BitVec.ofNat 32 (2 ^ 6 * a) := by
  rw [show (a : Int) * 64 = ((2 ^ 6 * a : Nat) : Int) by omega, BitVec.ofInt_natCast]
 have e2 : (BitVec.ofInt 32 (b : Int)) = BitVec.ofNat 32 b := BitVec.ofInt_natCast 32 b
 have e : ior .i32 ((a : Int) * 64) b = IntKind.i32.wrap (BitVec.ofInt 32 ((a : Int) * 64) ||| BitVec.ofInt 32 (b : Int)).toNat := rfl
 rw [e, e1, e2, BitVec.toNat_or, BitVec.toNat_ofNat, BitVec.toNat_ofNat, Nat.mod_eq_of_lt (by omega), Nat.mod_eq_of_lt (by omega), ← Nat.two_pow_add_eq_or_of_lt (by omega)]
 rw [wrap32_in (by omega) (by omega)]
 omega

theorem sst_start (lo hi x b : Int) : sst (0, lo, hi, x) b = if (begins_t0 b).1 < 0 then (false, 0, lo, hi, x) else (true, begins_t0 b) := by
 unfold sst step_t0
 simp only [beq_self_eq_true, cond_true, Bool.cond_decide]
theorem sst_in (l lo hi x b : Int) (h : l ≠ 0) : sst (l, lo, hi, x) b = if b < lo ∨ hi < b then (false, l, lo, hi, x) else (true, IntKind.i64.wrap (l - 1), 128, 191, ior IntKind.i32 (ishl IntKind.i32 x 6) (IntKind.i32.wrap (iand IntKind.u8 b 63))) := by
 unfold sst step_t0
 have : (l == 0) = false := by simpa using h
 simp only [this, cond_false, Bool.cond_decide]
 by_cases h1 : b < lo
 ·simp [h1]
 ·by_cases h2 : hi < b <;> simp [h1, h2]

theorem sst_false {q : Q} {b : Int} (h : (sst q b).1 = false) : (sst q b).2 = q := by
 obtain ⟨l, lo, hi, x⟩ := q
 by_cases hl : l = 0
 ·subst hl
  rw [sst_start] at h ⊢
  split at h <;> simp_all
 ·rw [sst_in _ _ _ _ _ hl] at h ⊢
  split at h <;> simp_all
def bg (b : Int) : Option Q :=
 if b < 128 then some (0, 0, 0, b)
 else if b < 194 then none
 else if b < 224 then some (1, 128, 191, b % 32)
 else if b = 224 then some (2, 160, 191, 0)
 else if b = 237 then some (2, 128, 159, 13)
 else if b < 240 then some (2, 128, 191, b % 16)
 else if b = 240 then some (3, 144, 191, 0)
 else if b = 244 then some (3, 128, 143, 4)
 else if b < 244 then some (3, 128, 191, b % 8)
 else none
theorem begins_bg (b : Int) (h0 : 0 ≤ b) (h1 : b < 256) : (match bg b with | some q => (begins_t0 b = q ∧ 0 ≤ q.1) | none => (begins_t0 b).1 < 0) := by
 unfold begins_t0 bg
 simp only [Bool.cond_decide, Bool.cond_eq_ite, beq_iff_eq]
 rw [and31 b h0 h1, and15 b h0 h1, and7 b h0 h1]
 by_cases c1 : b < 128
 ·simp [c1]; exact wrap32_in (by omega) (by omega)
 by_cases c2 : b < 194
 ·simp [c1, c2]
 by_cases c3 : b < 224
 ·have : ¬ 244 < b := by omega
  simp [c1, c2, c3, this]; exact wrap32_in (by omega) (by omega)
 by_cases c4 : b = 224
 ·subst c4; simp
 by_cases c5 : b = 237
 ·subst c5; simp; decide
 by_cases c6 : b < 240
 ·have : ¬ 244 < b := by omega
  simp [c1, c2, c3, c4, c5, c6, this]; exact wrap32_in (by omega) (by omega)
 by_cases c7 : b = 240
 ·subst c7; simp
 by_cases c8 : b = 244
 ·subst c8; simp; decide
 by_cases c9 : b < 244
 ·have : ¬ 244 < b := by omega
  simp [c1, c2, c3, c4, c5, c6, c7, c8, c9, this]; exact wrap32_in (by omega) (by omega)
 ·have : 244 < b := by omega
  simp [c1, c2, c3, c4, c5, c6, c7, c8, c9, this]

noncomputable def runC : Q → List UInt8 → Nat × Nat × Q
 | q, [] => (0, 1, q)
 | q, b :: r => match (sst q b.toNat).1 with
  | true => if (sst q b.toNat).2.1 = 0 then (1, 0, (sst q b.toNat).2) else ((runC (sst q b.toNat).2 r).1 + 1, (runC (sst q b.toNat).2 r).2)
  | false => (0, 2, q)
theorem runC_le : ∀ (l : List UInt8) (q : Q), (runC q l).1 ≤ l.length
 | [], q => Nat.le_refl _
 | b :: r, q => by
  unfold runC
  split
  ·split
   ·simp
   ·have := runC_le r (sst q b.toNat).2
    simp only [List.length_cons]; omega
  ·simp
theorem runC_pos : ∀ (l : List UInt8) (q : Q), (runC q l).2.1 = 0 → 0 < (runC q l).1 ∧ (runC q l).2.2.1 = 0
 | [], q, h => by simp [runC] at h
 | b :: r, q, h => by
  unfold runC at h ⊢
  split at h
  ·split at h
   ·rename_i h1; simp [h1]
   ·rename_i h1 h2
    simp only [h2, if_false] at h ⊢
    have := runC_pos r _ h
    exact ⟨by omega, this.2⟩
  ·simp at h
theorem runC_st : ∀ (l : List UInt8) (q : Q), (runC q l).2.1 ≤ 2
 | [], q => by simp [runC]
 | b :: r, q => by
  unfold runC
  split
  ·split
   ·simp
   ·exact runC_st r _
  ·simp
theorem feedL_run : ∀ (l : List UInt8) (q : Q) (at' : Int), feedL q at' false l =
  (if (runC q l).2.1 = 0 then feedL (runC q l).2.2 (at' + (runC q l).1) false (l.drop (runC q l).1) else ((runC q l).2.2, at' + (runC q l).1, (runC q l).2.1 == 2))
 | [], q, at' => by simp [feedL, runC]
 | b :: r, q, at' => by
  rw [feedL]
  unfold runC
  cases h : (sst q b.toNat).1 with
  | false => simp [feedL_bad, h, sst_false h]
  | true =>
   simp only [h, cond_false, cond_true, Bool.not_true]
   by_cases h2 : (sst q b.toNat).2.1 = 0
   ·simp [h2]
   ·simp only [h2, if_false]
    rw [feedL_run r]
    simp only [List.drop_succ_cons]
    have e : at' + 1 + ((runC (sst q b.toNat).2 r).1 : Int) = at' + (((runC (sst q b.toNat).2 r).1 + 1 : Nat) : Int) := by omega
    rw [e]
end Go.Proofs.Ytfpnjpbdaniomaa

/-
  Whether bytes are a text: the walk over characters.
-/
set_option linter.unusedVariables false
open Go Go.Am
namespace Go.Proofs.Ytfpnjpbdaniomaa

noncomputable def valid_b1 (s : ByteArray) : Cfg := cfgOf (goNil E K2 2000 44 (some []) [[0, 3]] [(3, [3])] [3, 2, 0, 1, 4] [0, 1, 3, 4, 7, 8] [] [] [] (startC E 11 ([.string s]) ([])))
noncomputable def valid_h1 (s : ByteArray) (t8 c2_0 : Int) (c4_0 c4_1 : Int) (c4_2 c4_3 t4 : Int) : Cfg := wTmp 4 (.int .i64 t4) (wCell 4 3 (.int .i32 c4_3) (wCell 4 2 (.int .u8 c4_2) (wCell 4 1 (.int .u8 c4_1) (wCell 4 0 (.int .i64 c4_0) (wCell 2 0 (.int .i64 c2_0) (wTmp 8 (.int .i64 t8) (valid_b1 s)))))))
abbrev valid_R : Type := (Int × Int × Int × Int × Int × Int × Int) ⊕ (Bool)
def valid_V (s : ByteArray) (r : Bool) : Value := .bool r
def valid_H (s : ByteArray) (r : Bool) : Heap := []
noncomputable def valid_Q (s : ByteArray) (C : Cfg) (r : valid_R) : Prop :=
 match r with
 | .inl (p) => Gets E 0 C (valid_h1 s (p.1) (p.2.1) (p.2.2.1) (p.2.2.2.1) (p.2.2.2.2.1) (p.2.2.2.2.2.1) (p.2.2.2.2.2.2))
 | .inr (p) => AEnds E 11 0 C (valid_V s p) (valid_H s p)
theorem valid_go1 {s : ByteArray} {C : Cfg} {t8 : Int} {c2_0 : Int} {c4_0 : Int} {c4_1 : Int} {c4_2 : Int} {c4_3 : Int} {t4 : Int} (h : valid_Q s C (.inl ((t8, c2_0, c4_0, c4_1, c4_2, c4_3, t4)))) : Gets E 0 C (valid_h1 s t8 c2_0 c4_0 c4_1 c4_2 c4_3 t4) := h
theorem valid_end {s : ByteArray} {C : Cfg} {r : Bool} (h : valid_Q s C (.inr (r))) : AEnds E 11 0 C (valid_V s r) (valid_H s r) := h
noncomputable def valid_t0 (s : ByteArray) : valid_R :=
 .inl ((0, 0, 0, 0, 0, 0, 0))
def valid_S0 (s : ByteArray) : Prop :=
 True
theorem valid_ok0 (s : ByteArray) (hS : valid_S0 s) : valid_Q s (startC E 11 ([.string s]) ([])) (valid_t0 s) := by
 unfold valid_S0 at hS
 unfold valid_t0
 show Gets E 0 _ (valid_h1 s (0) (0) (0) (0) (0) (0) (0))
 exact reach_q K2_ok 2000 44 (some []) [[0, 3]] [(3, [3])] [3, 2, 0, 1, 4] [0, 1, 3, 4, 7, 8] [] [] [] (rfl)
noncomputable def valid_t1 (s : ByteArray) (t8 c2_0 : Int) (c4_0 c4_1 : Int) (c4_2 c4_3 t4 : Int) : valid_R :=
 bif decide (t8 < ((slen s) : Int)) then bif c4_0 == 0 then bif !(step_t0 c4_0 c4_1 c4_2 c4_3 0 false (chr s t8.toNat)).1 then .inr (c2_0 == ((slen s) : Int))
   else bif (step_t0 c4_0 c4_1 c4_2 c4_3 0 false (chr s t8.toNat)).2.1 == 0 then .inl ((IntKind.i64.wrap (t8 + 1), IntKind.i64.wrap (t8 + width_t0 (step_t0 c4_0 c4_1 c4_2 c4_3 0 false (chr s t8.toNat)).2.2.2.2), (step_t0 c4_0 c4_1 c4_2 c4_3 0 false (chr s t8.toNat)).2.1, (step_t0 c4_0 c4_1 c4_2 c4_3 0 false (chr s t8.toNat)).2.2.1, (step_t0 c4_0 c4_1 c4_2 c4_3 0 false (chr s t8.toNat)).2.2.2.1, (step_t0 c4_0 c4_1 c4_2 c4_3 0 false (chr s t8.toNat)).2.2.2.2, t8))
    else .inl ((IntKind.i64.wrap (t8 + 1), c2_0, (step_t0 c4_0 c4_1 c4_2 c4_3 0 false (chr s t8.toNat)).2.1, (step_t0 c4_0 c4_1 c4_2 c4_3 0 false (chr s t8.toNat)).2.2.1, (step_t0 c4_0 c4_1 c4_2 c4_3 0 false (chr s t8.toNat)).2.2.2.1, (step_t0 c4_0 c4_1 c4_2 c4_3 0 false (chr s t8.toNat)).2.2.2.2, t8))
  else bif !(step_t0 c4_0 c4_1 c4_2 c4_3 0 false (chr s t8.toNat)).1 then .inr (c2_0 == ((slen s) : Int))
   else bif (step_t0 c4_0 c4_1 c4_2 c4_3 0 false (chr s t8.toNat)).2.1 == 0 then .inl ((IntKind.i64.wrap (t8 + 1), IntKind.i64.wrap (t4 + width_t0 (step_t0 c4_0 c4_1 c4_2 c4_3 0 false (chr s t8.toNat)).2.2.2.2), (step_t0 c4_0 c4_1 c4_2 c4_3 0 false (chr s t8.toNat)).2.1, (step_t0 c4_0 c4_1 c4_2 c4_3 0 false (chr s t8.toNat)).2.2.1, (step_t0 c4_0 c4_1 c4_2 c4_3 0 false (chr s t8.toNat)).2.2.2.1, (step_t0 c4_0 c4_1 c4_2 c4_3 0 false (chr s t8.toNat)).2.2.2.2, t4))
    else .inl ((IntKind.i64.wrap (t8 + 1), c2_0, (step_t0 c4_0 c4_1 c4_2 c4_3 0 false (chr s t8.toNat)).2.1, (step_t0 c4_0 c4_1 c4_2 c4_3 0 false (chr s t8.toNat)).2.2.1, (step_t0 c4_0 c4_1 c4_2 c4_3 0 false (chr s t8.toNat)).2.2.2.1, (step_t0 c4_0 c4_1 c4_2 c4_3 0 false (chr s t8.toNat)).2.2.2.2, t4))
 else .inr (c2_0 == ((slen s) : Int))
def valid_S1 (s : ByteArray) (t8 c2_0 : Int) (c4_0 c4_1 : Int) (c4_2 c4_3 t4 : Int) : Prop :=
 ((decide (t8 < ((slen s) : Int))) = true → ((c4_0 == 0) = true → ((!(step_t0 c4_0 c4_1 c4_2 c4_3 0 false (chr s t8.toNat)).1) = true → (step_S0 c4_0 c4_1 c4_2 c4_3 0 false (chr s t8.toNat)) ∧ (0 ≤ t8) ∧ (t8 < ((slen s) : Int))) ∧
   ((!(step_t0 c4_0 c4_1 c4_2 c4_3 0 false (chr s t8.toNat)).1) = false → (((step_t0 c4_0 c4_1 c4_2 c4_3 0 false (chr s t8.toNat)).2.1 == 0) = true → (width_S0 (step_t0 c4_0 c4_1 c4_2 c4_3 0 false (chr s t8.toNat)).2.2.2.2) ∧ (step_S0 c4_0 c4_1 c4_2 c4_3 0 false (chr s t8.toNat)) ∧ (0 ≤ t8) ∧ (t8 < ((slen s) : Int))) ∧
    (((step_t0 c4_0 c4_1 c4_2 c4_3 0 false (chr s t8.toNat)).2.1 == 0) = false → (step_S0 c4_0 c4_1 c4_2 c4_3 0 false (chr s t8.toNat)) ∧ (0 ≤ t8) ∧ (t8 < ((slen s) : Int))))) ∧
  ((c4_0 == 0) = false → ((!(step_t0 c4_0 c4_1 c4_2 c4_3 0 false (chr s t8.toNat)).1) = true → (step_S0 c4_0 c4_1 c4_2 c4_3 0 false (chr s t8.toNat)) ∧ (0 ≤ t8) ∧ (t8 < ((slen s) : Int))) ∧
   ((!(step_t0 c4_0 c4_1 c4_2 c4_3 0 false (chr s t8.toNat)).1) = false → (((step_t0 c4_0 c4_1 c4_2 c4_3 0 false (chr s t8.toNat)).2.1 == 0) = true → (width_S0 (step_t0 c4_0 c4_1 c4_2 c4_3 0 false (chr s t8.toNat)).2.2.2.2) ∧ (step_S0 c4_0 c4_1 c4_2 c4_3 0 false (chr s t8.toNat)) ∧ (0 ≤ t8) ∧ (t8 < ((slen s) : Int))) ∧
    (((step_t0 c4_0 c4_1 c4_2 c4_3 0 false (chr s t8.toNat)).2.1 == 0) = false → (step_S0 c4_0 c4_1 c4_2 c4_3 0 false (chr s t8.toNat)) ∧ (0 ≤ t8) ∧ (t8 < ((slen s) : Int)))))) ∧
 ((decide (t8 < ((slen s) : Int))) = false → True)
theorem valid_ok1 (s : ByteArray) (t8 c2_0 : Int) (c4_0 c4_1 : Int) (c4_2 c4_3 t4 : Int) (hS : valid_S1 s t8 c2_0 c4_0 c4_1 c4_2 c4_3 t4) : valid_Q s (valid_h1 s t8 c2_0 c4_0 c4_1 c4_2 c4_3 t4) (valid_t1 s t8 c2_0 c4_0 c4_1 c4_2 c4_3 t4) := by
 unfold valid_S1 at hS
 unfold valid_t1
 refine cond_intro (P := valid_Q s (valid_h1 s t8 c2_0 c4_0 c4_1 c4_2 c4_3 t4)) _ (fun h0 => ?_) (fun h0 => ?_)
 ·skip
  refine cond_intro (P := valid_Q s (valid_h1 s t8 c2_0 c4_0 c4_1 c4_2 c4_3 t4)) _ (fun h1 => ?_) (fun h1 => ?_)
  ·skip
   refine cond_intro (P := valid_Q s (valid_h1 s t8 c2_0 c4_0 c4_1 c4_2 c4_3 t4)) _ (fun h2 => ?_) (fun h2 => ?_)
   ·skip
    have z0 := ((hS.1 h0).1 h1).1 h2; exact ends_q K2_ok 2000 59 (bs 4 15) [1] [2] [] (andI (dT h2) (andI (pdec_iff.2 z0.1) (and4 (decide_eq_true z0.2.1) (decide_eq_true z0.2.2) (dT h1) (dT h0) rfl)))
   ·skip
    refine cond_intro (P := valid_Q s (valid_h1 s t8 c2_0 c4_0 c4_1 c4_2 c4_3 t4)) _ (fun h3 => ?_) (fun h3 => ?_)
    ·skip
     show Gets E 0 _ (valid_h1 s (IntKind.i64.wrap (t8 + 1)) (IntKind.i64.wrap (t8 + width_t0 (step_t0 c4_0 c4_1 c4_2 c4_3 0 false (chr s t8.toNat)).2.2.2.2)) ((step_t0 c4_0 c4_1 c4_2 c4_3 0 false (chr s t8.toNat)).2.1) ((step_t0 c4_0 c4_1 c4_2 c4_3 0 false (chr s t8.toNat)).2.2.1) ((step_t0 c4_0 c4_1 c4_2 c4_3 0 false (chr s t8.toNat)).2.2.2.1) ((step_t0 c4_0 c4_1 c4_2 c4_3 0 false (chr s t8.toNat)).2.2.2.2) t8)
     have z0 := (((hS.1 h0).1 h1).2 h2).1 h3; exact reach_q K2_ok 2000 73 (bs 5 11) [[0, 3]] [(0, [3])] [0, 1, 2, 3, 4] [0, 1, 3, 4, 7, 8] [] [] [] (and8 (pdec_iff.2 z0.1) (dT h3) (dF h2) (pdec_iff.2 z0.2.1) (decide_eq_true z0.2.2.1) (decide_eq_true z0.2.2.2) (dT h1) (dT h0) rfl)
    ·skip
     show Gets E 0 _ (valid_h1 s (IntKind.i64.wrap (t8 + 1)) c2_0 ((step_t0 c4_0 c4_1 c4_2 c4_3 0 false (chr s t8.toNat)).2.1) ((step_t0 c4_0 c4_1 c4_2 c4_3 0 false (chr s t8.toNat)).2.2.1) ((step_t0 c4_0 c4_1 c4_2 c4_3 0 false (chr s t8.toNat)).2.2.2.1) ((step_t0 c4_0 c4_1 c4_2 c4_3 0 false (chr s t8.toNat)).2.2.2.2) t8)
     have z0 := (((hS.1 h0).1 h1).2 h2).2 h3; exact reach_q K2_ok 2000 55 (bs 5 3) [[0, 3]] [(0, [3])] [0, 1, 2, 3, 4] [0, 1, 3, 4, 7, 8] [] [] [] (andI (dF h3) (andI (dF h2) (andI (pdec_iff.2 z0.1) (and4 (decide_eq_true z0.2.1) (decide_eq_true z0.2.2) (dT h1) (dT h0) rfl))))
  ·skip
   refine cond_intro (P := valid_Q s (valid_h1 s t8 c2_0 c4_0 c4_1 c4_2 c4_3 t4)) _ (fun h2 => ?_) (fun h2 => ?_)
   ·skip
    have z0 := ((hS.1 h0).2 h1).1 h2; exact ends_q K2_ok 2000 56 (bs 4 13) [1] [2] [] (andI (dT h2) (andI (pdec_iff.2 z0.1) (and4 (decide_eq_true z0.2.1) (decide_eq_true z0.2.2) (dF h1) (dT h0) rfl)))
   ·skip
    refine cond_intro (P := valid_Q s (valid_h1 s t8 c2_0 c4_0 c4_1 c4_2 c4_3 t4)) _ (fun h3 => ?_) (fun h3 => ?_)
    ·skip
     show Gets E 0 _ (valid_h1 s (IntKind.i64.wrap (t8 + 1)) (IntKind.i64.wrap (t4 + width_t0 (step_t0 c4_0 c4_1 c4_2 c4_3 0 false (chr s t8.toNat)).2.2.2.2)) ((step_t0 c4_0 c4_1 c4_2 c4_3 0 false (chr s t8.toNat)).2.1) ((step_t0 c4_0 c4_1 c4_2 c4_3 0 false (chr s t8.toNat)).2.2.1) ((step_t0 c4_0 c4_1 c4_2 c4_3 0 false (chr s t8.toNat)).2.2.2.1) ((step_t0 c4_0 c4_1 c4_2 c4_3 0 false (chr s t8.toNat)).2.2.2.2) t4)
     have z0 := (((hS.1 h0).2 h1).2 h2).1 h3; exact reach_q K2_ok 2000 70 (bs 5 9) [[0, 3]] [(0, [3])] [0, 1, 2, 3, 4] [0, 1, 3, 4, 7, 8] [] [] [] (and8 (pdec_iff.2 z0.1) (dT h3) (dF h2) (pdec_iff.2 z0.2.1) (decide_eq_true z0.2.2.1) (decide_eq_true z0.2.2.2) (dF h1) (dT h0) rfl)
    ·skip
     show Gets E 0 _ (valid_h1 s (IntKind.i64.wrap (t8 + 1)) c2_0 ((step_t0 c4_0 c4_1 c4_2 c4_3 0 false (chr s t8.toNat)).2.1) ((step_t0 c4_0 c4_1 c4_2 c4_3 0 false (chr s t8.toNat)).2.2.1) ((step_t0 c4_0 c4_1 c4_2 c4_3 0 false (chr s t8.toNat)).2.2.2.1) ((step_t0 c4_0 c4_1 c4_2 c4_3 0 false (chr s t8.toNat)).2.2.2.2) t4)
     have z0 := (((hS.1 h0).2 h1).2 h2).2 h3; exact reach_q K2_ok 2000 52 (bs 5 1) [[0, 3]] [(0, [3])] [0, 1, 2, 3, 4] [0, 1, 3, 4, 7, 8] [] [] [] (andI (dF h3) (andI (dF h2) (andI (pdec_iff.2 z0.1) (and4 (decide_eq_true z0.2.1) (decide_eq_true z0.2.2) (dF h1) (dT h0) rfl))))
 ·skip
  exact ends_q K2_ok 2000 18 (bs 1 0) [1] [2] [] (andI (dF h0) rfl)


end Go.Proofs.Ytfpnjpbdaniomaa

/-
  Whether bytes are a text: the walk over characters, as a contract.
-/
set_option linter.unusedVariables false
set_option linter.unusedSimpArgs false
open Go Go.Am
namespace Go.Proofs.Ytfpnjpbdaniomaa

noncomputable def CI (n : Nat) (q : Q) : Prop :=
  128 ≤ q.2.1 ∧ q.2.2.1 ≤ 191 ∧
  ((n = 1 ∧ q.1 = 1 ∧ 2 ≤ q.2.2.2 ∧ q.2.2.2 ≤ 31) ∨ (n = 1 ∧ q.1 = 2 ∧ 0 ≤ q.2.2.2 ∧ q.2.2.2 ≤ 15 ∧ (q.2.2.2 = 0 → q.2.1 = 160)) ∨ (n = 2 ∧ q.1 = 1 ∧ 32 ≤ q.2.2.2 ∧ q.2.2.2 ≤ 1023) ∨
   (n = 1 ∧ q.1 = 3 ∧ 0 ≤ q.2.2.2 ∧ q.2.2.2 ≤ 7 ∧ (q.2.2.2 = 0 → q.2.1 = 144)) ∨ (n = 2 ∧ q.1 = 2 ∧ 16 ≤ q.2.2.2 ∧ q.2.2.2 ≤ 511) ∨ (n = 3 ∧ q.1 = 1 ∧ 1024 ≤ q.2.2.2 ∧ q.2.2.2 ≤ 32767))
theorem CI_left {n : Nat} {q : Q} (h : CI n q) : q.1 ≠ 0 ∧ 1 ≤ n := by
  unfold CI at h
  omega
theorem bg_CI {b : Int} {q : Q} (h0 : 0 ≤ b) (h : bg b = some q) : (q.1 = 0 ∧ width_t0 q.2.2.2 = 1) ∨ CI 1 q := by
  unfold bg at h
  unfold CI
  repeat' split at h
  all_goals first
    | (cases h; done)
    | (cases h; left; constructor; · rfl
       · unfold width_t0; simp only [Bool.cond_decide]; rw [if_pos (by omega)])
    | (cases h; right; dsimp only; omega)
theorem start_CI {lo hi x b : Int} (h0 : 0 ≤ b) (h1 : b < 256) (h : (sst (0, lo, hi, x) b).1 = true) : ((sst (0, lo, hi, x) b).2.1 = 0 ∧ width_t0 (sst (0, lo, hi, x) b).2.2.2.2 = 1) ∨ CI 1 (sst (0, lo, hi, x) b).2 := by
  have hb := begins_bg b h0 h1
  rw [sst_start] at h ⊢
  split at h
  · cases h
  · rename_i hn
    rw [if_neg hn]
    split at hb
    · rename_i q hq
      rw [hb.1]
      exact bg_CI h0 hq
    · exact absurd hb hn
theorem cont_val {l lo hi x b : Int} (hl : l = 1 ∨ l = 2 ∨ l = 3) (hx0 : 0 ≤ x) (hx1 : x ≤ 32767) (h0 : 0 ≤ b) (h1 : b < 256) (h : (sst (l, lo, hi, x) b).1 = true) :
    lo ≤ b ∧ b ≤ hi ∧ (sst (l, lo, hi, x) b).2 = (l - 1, 128, 191, x * 64 + b % 64) := by
  rw [sst_in _ _ _ _ _ (by omega)] at h ⊢
  split at h
  · cases h
  · rename_i hn
    rw [if_neg hn]
    refine ⟨by omega, by omega, ?_⟩
    rw [and63 b h0 h1, wrap32_in (by omega) (by omega), shl6 x hx0 (by omega), or6 x (b % 64) hx0 (by omega) (by omega) (by omega), wrap64_in (by omega) (by omega)]
theorem cont_CI {n : Nat} {q : Q} {b : Int} (hq : CI n q) (h0 : 0 ≤ b) (h1 : b < 256) (h : (sst q b).1 = true) :
    ((sst q b).2.1 = 0 ∧ width_t0 (sst q b).2.2.2.2 = n + 1) ∨ CI (n + 1) (sst q b).2 := by
  obtain ⟨l, lo, hi, x⟩ := q
  unfold CI at hq
  dsimp only at hq
  obtain ⟨c1, c2, c3⟩ := cont_val (by omega) (by omega) (by omega) h0 h1 h
  rw [c3]
  unfold CI width_t0
  simp only [Bool.cond_decide]
  rcases hq with ⟨g1, g2, hq | hq | hq | hq | hq | hq⟩
  · left; refine ⟨by omega, ?_⟩
    rw [if_neg (by omega), if_pos (by omega)]; show (2 : Int) = _; omega
  · right; omega
  · left; refine ⟨by omega, ?_⟩
    rw [if_neg (by omega), if_neg (by omega), if_pos (by omega)]; show (3 : Int) = _; omega
  · right; omega
  · right; omega
  · left; refine ⟨by omega, ?_⟩
    rw [if_neg (by omega), if_neg (by omega), if_neg (by omega)]; show (4 : Int) = _; omega

noncomputable def wholeD : Q → List UInt8 → Bool
  | q, [] => q.1 == 0
  | q, b :: r => (sst q b.toNat).1 && wholeD (sst q b.toNat).2 r
theorem wholeD_feed : ∀ (l : List UInt8) (q : Q) (at' : Int), wholeD q l = (!(feedL q at' false l).2.2 && (feedL q at' false l).1.1 == 0)
  | [], q, at' => by simp [wholeD, feedL]
  | b :: r, q, at' => by
    rw [wholeD, feedL]
    cases h : (sst q b.toNat).1 with
    | false => simp [feedL_bad]
    | true => simp only [Bool.true_and, cond_false, cond_true, Bool.not_true]; exact wholeD_feed r _ _

theorem u8_lt (b : UInt8) : (0 : Int) ≤ (b.toNat : Int) ∧ (b.toNat : Int) < 256 := by
  have := b.toNat_lt
  omega

theorem valid_run (s : ByteArray) (hs : slen s ≤ 1000000) : ∀ (n i : Nat) (q : Q) (fr e : Nat), i + n = slen s → ((q.1 = 0 ∧ e = i) ∨ (e = fr ∧ fr ≤ i ∧ CI (i - fr) q)) → (q.1 = 0 → True) →
    AEnds E 11 0 (valid_h1 s i e q.1 q.2.1 q.2.2.1 q.2.2.2 fr) (.bool (wholeD q ((toL s).drop i))) []
  | 0, i, q, fr, e, hi, hq, _ => by
    have h := valid_ok1 s i e q.1 q.2.1 q.2.2.1 q.2.2.2 fr (by unfold valid_S1; simp [show ¬ ((i : Int) < slen s) by omega])
    rw [show valid_t1 s i e q.1 q.2.1 q.2.2.1 q.2.2.2 fr = .inr ((e : Int) == (slen s : Int)) by unfold valid_t1; simp [show ¬ ((i : Int) < slen s) by omega]] at h
    rw [show (toL s).drop i = [] from List.drop_eq_nil_of_le (by unfold slen at hi; omega), wholeD]
    have e1 : (((e : Int) == (slen s : Int)) : Bool) = (q.1 == 0) := by
      rw [Bool.eq_iff_iff]
      simp only [beq_iff_eq]
      rcases hq with ⟨h1, h2⟩ | ⟨h1, h2, h3⟩
      · omega
      · have := CI_left h3; omega
    rw [e1] at h
    exact valid_end h
  | n + 1, i, q, fr, e, hi, hq, _ => by
    have hl : i < (toL s).length := by unfold slen at hi; omega
    have hc : chr s (i : Int).toNat = ((toL s)[i].toNat : Int) := by simp [chr, List.getD_eq_getElem?_getD, hl]
    obtain ⟨u0, u1⟩ := u8_lt (toL s)[i]
    have h := valid_ok1 s i e q.1 q.2.1 q.2.2.1 q.2.2.2 fr (by
      unfold valid_S1; simp [show ((i : Int) < slen s) by omega, step_safe, width_S0])
    have e0 : step_t0 q.1 q.2.1 q.2.2.1 q.2.2.2 0 false (chr s (i : Int).toNat) = sst q (toL s)[i].toNat := by rw [hc]; rfl
    unfold valid_t1 at h
    simp only [e0, show decide ((i : Int) < slen s) = true by simp; omega, cond_true] at h
    rw [List.drop_eq_getElem_cons hl, wholeD]
    have hlt : ((e : Int) == (slen s : Int)) = false := by
      rw [beq_eq_false_iff_ne]
      rcases hq with ⟨h1, h2⟩ | ⟨h1, h2, h3⟩ <;> omega
    clear hc e0
    generalize (toL s)[i] = b at h u0 u1 ⊢
    cases hb : (sst q b.toNat).1 with
    | false =>
      simp only [hb, Bool.not_false, cond_true, Bool.cond_self] at h
      rw [hlt] at h
      exact valid_end h
    | true =>
      simp only [hb, Bool.not_true, cond_false] at h
      rw [Bool.true_and]
      rw [wrap64_in (x := (i : Int) + 1) (by omega) (by omega), show (i : Int) + 1 = ((i + 1 : Nat) : Int) by omega] at h
      rcases hq with ⟨h1, h2⟩ | ⟨h1, h2, h3⟩
      · -- ahead of a character
        subst h2
        obtain ⟨l, lo, hi2, x⟩ := q
        dsimp only at h1
        subst h1
        simp only [beq_self_eq_true, cond_true] at h
        dsimp only
        have hs0 := start_CI u0 u1 hb
        generalize sst (0, lo, hi2, x) b.toNat = r at h hb hs0 ⊢
        rcases hs0 with ⟨g1, g2⟩ | g
        · simp only [g1, g2, beq_self_eq_true, cond_true] at h
          rw [wrap64_in (by omega) (by omega), show (e : Int) + 1 = ((e + 1 : Nat) : Int) by omega] at h
          have ih := valid_run s hs n (e + 1) r.2 e (e + 1) (by omega) (.inl ⟨g1, rfl⟩) (fun _ => trivial)
          rw [g1] at ih
          exact (valid_go1 h).ends ih
        · have g1 := (CI_left g).1
          have g2 : (r.2.1 == 0) = false := by simpa using g1
          simp only [g2, cond_false] at h
          exact (valid_go1 h).ends (valid_run s hs n (e + 1) _ e e (by omega) (.inr ⟨rfl, by omega, by rw [show e + 1 - e = 1 by omega]; exact g⟩) (fun _ => trivial))
      · subst h1
        have hq0 : (q.1 == 0) = false := by simpa using (CI_left h3).1
        simp only [hq0, cond_false] at h
        rcases cont_CI h3 u0 u1 hb with ⟨g1, g2⟩ | g
        · simp only [g1, g2, beq_self_eq_true, cond_true] at h
          have e2 : IntKind.i64.wrap ((e : Int) + (((i - e : Nat) : Int) + 1)) = ((i + 1 : Nat) : Int) := by rw [wrap64_in (by omega) (by omega)]; omega
          rw [e2] at h
          have ih := valid_run s hs n (i + 1) (sst q b.toNat).2 e (i + 1) (by omega) (.inl ⟨g1, rfl⟩) (fun _ => trivial)
          rw [g1] at ih
          exact (valid_go1 h).ends ih
        · have g1 := (CI_left g).1
          have g2 : ((sst q b.toNat).2.1 == 0) = false := by simpa using g1
          simp only [g2, cond_false] at h
          exact (valid_go1 h).ends (valid_run s hs n (i + 1) _ e e (by omega) (.inr ⟨rfl, by omega, by rw [show i + 1 - e = i - e + 1 by omega]; exact g⟩) (fun _ => trivial))

noncomputable def valid_pre (s : ByteArray) : Prop := slen s ≤ 1000000
noncomputable def valid_v (s : ByteArray) : Value := .bool (wholeD (0, 0, 0, 0) (toL s))
noncomputable def valid_h (s : ByteArray) : Heap := []
theorem valid_call (s : ByteArray) (h : valid_pre s) : CallOk E 11 [.string s] [] (valid_v s) (valid_h s) :=
  callOk_of_ends (Gets.ends (valid_ok0 s trivial) (valid_run s h (slen s) 0 (0, 0, 0, 0) 0 0 (by omega) (.inl ⟨rfl, rfl⟩) (fun _ => trivial))) (by kernel_rfl) (Nat.le_of_ble_eq_true (by kernel_rfl))

end Go.Proofs.Ytfpnjpbdaniomaa

/-
  A check that is fed: the loop over a text's bytes.
-/
set_option linter.unusedVariables false
open Go Go.Am
namespace Go.Proofs.Ytfpnjpbdaniomaa
noncomputable def feed_b1 (left low : Int) (high x at' : Int) (bad : Bool) (s : ByteArray) : Cfg := cfgOf (goNil E K2 2000 19 (bs 1 0) [] [] [0] [0, 1, 5] [] [] [] (startC E 67 ([.pointer (some ⟨0, 0, none⟩), .string s]) ([some (.cells [.int .i64 left, .int .u8 low, .int .u8 high, .int .i32 x, .int .i64 at', .bool bad] 106 none)])))
noncomputable def feed_h1 (left low : Int) (high x at' : Int) (bad : Bool) (s : ByteArray) (t5 c0_0 : Int) (c0_1 c0_2 : Int) (c0_3 c0_4 : Int) (c0_5 : Bool) : Cfg := wCell 0 5 (.bool c0_5) (wCell 0 4 (.int .i64 c0_4) (wCell 0 3 (.int .i32 c0_3) (wCell 0 2 (.int .u8 c0_2) (wCell 0 1 (.int .u8 c0_1) (wCell 0 0 (.int .i64 c0_0) (wTmp 5 (.int .i64 t5) (feed_b1 left low high x at' bad s)))))))
abbrev feed_R : Type := (Int × Int × Int × Int × Int × Int × Bool) ⊕ (Bool × Int × Int × Int × Int × Int × Bool)
def feed_V (left low : Int) (high x at' : Int) (bad : Bool) (s : ByteArray) (r : Bool × Int × Int × Int × Int × Int × Bool) : Value := .bool r.1
def feed_H (left low : Int) (high x at' : Int) (bad : Bool) (s : ByteArray) (r : Bool × Int × Int × Int × Int × Int × Bool) : Heap := [some (.cells [.int .i64 r.2.1, .int .u8 r.2.2.1, .int .u8 r.2.2.2.1, .int .i32 r.2.2.2.2.1, .int .i64 r.2.2.2.2.2.1, .bool r.2.2.2.2.2.2] 106 none)]
noncomputable def feed_Q (left low : Int) (high x at' : Int) (bad : Bool) (s : ByteArray) (C : Cfg) (r : feed_R) : Prop :=
 match r with
 | .inl (p) => Gets E 1 C (feed_h1 left low high x at' bad s (p.1) (p.2.1) (p.2.2.1) (p.2.2.2.1) (p.2.2.2.2.1) (p.2.2.2.2.2.1) (p.2.2.2.2.2.2))
 | .inr (p) => AEnds E 67 1 C (feed_V left low high x at' bad s p) (feed_H left low high x at' bad s p)
noncomputable def feed_t0 (left low : Int) (high x at' : Int) (bad : Bool) (s : ByteArray) : feed_R :=
 .inl ((0, left, low, high, x, at', bad))
def feed_S0 (left low : Int) (high x at' : Int) (bad : Bool) (s : ByteArray) : Prop :=
 True
theorem feed_ok0 (left low : Int) (high x at' : Int) (bad : Bool) (s : ByteArray) (hS : feed_S0 left low high x at' bad s) : feed_Q left low high x at' bad s (startC E 67 ([.pointer (some ⟨0, 0, none⟩), .string s]) ([some (.cells [.int .i64 left, .int .u8 low, .int .u8 high, .int .i32 x, .int .i64 at', .bool bad] 106 none)])) (feed_t0 left low high x at' bad s) := by
 unfold feed_S0 at hS
 unfold feed_t0
 show Gets E 1 _ (feed_h1 left low high x at' bad s (0) left low high x at' bad)
 exact reach_q K2_ok 2000 19 (bs 1 0) [] [] [0] [0, 1, 5] [] [] [] (rfl)
noncomputable def feed_t1 (left low : Int) (high x at' : Int) (bad : Bool) (s : ByteArray) (t5 c0_0 : Int) (c0_1 c0_2 : Int) (c0_3 c0_4 : Int) (c0_5 : Bool) : feed_R :=
 bif decide (t5 < ((slen s) : Int)) then bif !c0_5 then bif !!(step_t0 c0_0 c0_1 c0_2 c0_3 c0_4 c0_5 (chr s t5.toNat)).1 then .inl ((IntKind.i64.wrap (t5 + 1), (step_t0 c0_0 c0_1 c0_2 c0_3 c0_4 c0_5 (chr s t5.toNat)).2.1, (step_t0 c0_0 c0_1 c0_2 c0_3 c0_4 c0_5 (chr s t5.toNat)).2.2.1, (step_t0 c0_0 c0_1 c0_2 c0_3 c0_4 c0_5 (chr s t5.toNat)).2.2.2.1, (step_t0 c0_0 c0_1 c0_2 c0_3 c0_4 c0_5 (chr s t5.toNat)).2.2.2.2, IntKind.i64.wrap (c0_4 + 1), !(step_t0 c0_0 c0_1 c0_2 c0_3 c0_4 c0_5 (chr s t5.toNat)).1))
   else .inl ((IntKind.i64.wrap (t5 + 1), (step_t0 c0_0 c0_1 c0_2 c0_3 c0_4 c0_5 (chr s t5.toNat)).2.1, (step_t0 c0_0 c0_1 c0_2 c0_3 c0_4 c0_5 (chr s t5.toNat)).2.2.1, (step_t0 c0_0 c0_1 c0_2 c0_3 c0_4 c0_5 (chr s t5.toNat)).2.2.2.1, (step_t0 c0_0 c0_1 c0_2 c0_3 c0_4 c0_5 (chr s t5.toNat)).2.2.2.2, c0_4, !(step_t0 c0_0 c0_1 c0_2 c0_3 c0_4 c0_5 (chr s t5.toNat)).1))
  else .inr ((!c0_5, c0_0, c0_1, c0_2, c0_3, c0_4, c0_5))
 else .inr ((!c0_5, c0_0, c0_1, c0_2, c0_3, c0_4, c0_5))
def feed_S1 (left low : Int) (high x at' : Int) (bad : Bool) (s : ByteArray) (t5 c0_0 : Int) (c0_1 c0_2 : Int) (c0_3 c0_4 : Int) (c0_5 : Bool) : Prop :=
 ((decide (t5 < ((slen s) : Int))) = true → ((!c0_5) = true → ((!!(step_t0 c0_0 c0_1 c0_2 c0_3 c0_4 c0_5 (chr s t5.toNat)).1) = true → (step_S0 c0_0 c0_1 c0_2 c0_3 c0_4 c0_5 (chr s t5.toNat)) ∧ (0 ≤ t5) ∧ (t5 < ((slen s) : Int))) ∧
   ((!!(step_t0 c0_0 c0_1 c0_2 c0_3 c0_4 c0_5 (chr s t5.toNat)).1) = false → (step_S0 c0_0 c0_1 c0_2 c0_3 c0_4 c0_5 (chr s t5.toNat)) ∧ (0 ≤ t5) ∧ (t5 < ((slen s) : Int)))) ∧
  ((!c0_5) = false → True)) ∧
 ((decide (t5 < ((slen s) : Int))) = false → True)
theorem feed_ok1 (left low : Int) (high x at' : Int) (bad : Bool) (s : ByteArray) (t5 c0_0 : Int) (c0_1 c0_2 : Int) (c0_3 c0_4 : Int) (c0_5 : Bool) (hS : feed_S1 left low high x at' bad s t5 c0_0 c0_1 c0_2 c0_3 c0_4 c0_5) : feed_Q left low high x at' bad s (feed_h1 left low high x at' bad s t5 c0_0 c0_1 c0_2 c0_3 c0_4 c0_5) (feed_t1 left low high x at' bad s t5 c0_0 c0_1 c0_2 c0_3 c0_4 c0_5) := by
 unfold feed_S1 at hS
 unfold feed_t1
 refine cond_intro (P := feed_Q left low high x at' bad s (feed_h1 left low high x at' bad s t5 c0_0 c0_1 c0_2 c0_3 c0_4 c0_5)) _ (fun h0 => ?_) (fun h0 => ?_)
 ·skip
  refine cond_intro (P := feed_Q left low high x at' bad s (feed_h1 left low high x at' bad s t5 c0_0 c0_1 c0_2 c0_3 c0_4 c0_5)) _ (fun h1 => ?_) (fun h1 => ?_)
  ·skip
   refine cond_intro (P := feed_Q left low high x at' bad s (feed_h1 left low high x at' bad s t5 c0_0 c0_1 c0_2 c0_3 c0_4 c0_5)) _ (fun h2 => ?_) (fun h2 => ?_)
   ·skip
    show Gets E 1 _ (feed_h1 left low high x at' bad s (IntKind.i64.wrap (t5 + 1)) ((step_t0 c0_0 c0_1 c0_2 c0_3 c0_4 c0_5 (chr s t5.toNat)).2.1) ((step_t0 c0_0 c0_1 c0_2 c0_3 c0_4 c0_5 (chr s t5.toNat)).2.2.1) ((step_t0 c0_0 c0_1 c0_2 c0_3 c0_4 c0_5 (chr s t5.toNat)).2.2.2.1) ((step_t0 c0_0 c0_1 c0_2 c0_3 c0_4 c0_5 (chr s t5.toNat)).2.2.2.2) (IntKind.i64.wrap (c0_4 + 1)) (!(step_t0 c0_0 c0_1 c0_2 c0_3 c0_4 c0_5 (chr s t5.toNat)).1))
    have z0 := ((hS.1 h0).1 h1).1 h2; exact reach_q K2_ok 2000 58 (bs 3 7) [] [] [0] [0, 1, 5] [] [] [] (andI (dT h2) (andI (pdec_iff.2 z0.1) (and4 (decide_eq_true z0.2.1) (decide_eq_true z0.2.2) (dT h1) (dT h0) rfl)))
   ·skip
    show Gets E 1 _ (feed_h1 left low high x at' bad s (IntKind.i64.wrap (t5 + 1)) ((step_t0 c0_0 c0_1 c0_2 c0_3 c0_4 c0_5 (chr s t5.toNat)).2.1) ((step_t0 c0_0 c0_1 c0_2 c0_3 c0_4 c0_5 (chr s t5.toNat)).2.2.1) ((step_t0 c0_0 c0_1 c0_2 c0_3 c0_4 c0_5 (chr s t5.toNat)).2.2.2.1) ((step_t0 c0_0 c0_1 c0_2 c0_3 c0_4 c0_5 (chr s t5.toNat)).2.2.2.2) c0_4 (!(step_t0 c0_0 c0_1 c0_2 c0_3 c0_4 c0_5 (chr s t5.toNat)).1))
    have z0 := ((hS.1 h0).1 h1).2 h2; exact reach_q K2_ok 2000 49 (bs 3 3) [] [] [0] [0, 1, 5] [] [] [] (andI (dF h2) (andI (pdec_iff.2 z0.1) (and4 (decide_eq_true z0.2.1) (decide_eq_true z0.2.2) (dT h1) (dT h0) rfl)))
  ·skip
   exact ends_q K2_ok 2000 26 (bs 2 1) [0] [4] [0] (andI (dF h1) (andI (dT h0) rfl))
 ·skip
  exact ends_q K2_ok 2000 26 (bs 2 0) [0] [4] [0] (andI (dF h0) rfl)


theorem feed_run (left low high x at0 : Int) (bad0 : Bool) (s : ByteArray) (hs : slen s ≤ 1000000) : ∀ (n i : Nat) (q : Q) (at' : Int) (bad : Bool), i + n = slen s → 0 ≤ at' → at' ≤ 1000000 * 1000000 + i →
  AEnds E 67 1 (feed_h1 left low high x at0 bad0 s i q.1 q.2.1 q.2.2.1 q.2.2.2 at' bad) (.bool !(feedL q at' bad ((toL s).drop i)).2.2)
   [some (.cells [.int .i64 (feedL q at' bad ((toL s).drop i)).1.1, .int .u8 (feedL q at' bad ((toL s).drop i)).1.2.1, .int .u8 (feedL q at' bad ((toL s).drop i)).1.2.2.1, .int .i32 (feedL q at' bad ((toL s).drop i)).1.2.2.2, .int .i64 (feedL q at' bad ((toL s).drop i)).2.1, .bool (feedL q at' bad ((toL s).drop i)).2.2] 106 none)]
 | 0, i, q, at', bad, hi, h1, h2 => by
  have h := feed_ok1 left low high x at0 bad0 s i q.1 q.2.1 q.2.2.1 q.2.2.2 at' bad (by
   unfold feed_S1; simp [show ¬ ((i : Int) < slen s) by omega])
  rw [show feed_t1 left low high x at0 bad0 s i q.1 q.2.1 q.2.2.1 q.2.2.2 at' bad = .inr (!bad, q.1, q.2.1, q.2.2.1, q.2.2.2, at', bad) by
   unfold feed_t1; simp [show ¬ ((i : Int) < slen s) by omega]] at h
  rw [show (toL s).drop i = [] from List.drop_eq_nil_of_le (by unfold slen at hi; omega)]
  exact h
 | n + 1, i, q, at', true, hi, h1, h2 => by
  have h := feed_ok1 left low high x at0 bad0 s i q.1 q.2.1 q.2.2.1 q.2.2.2 at' true (by
   unfold feed_S1; simp)
  rw [show feed_t1 left low high x at0 bad0 s i q.1 q.2.1 q.2.2.1 q.2.2.2 at' true = .inr (!true, q.1, q.2.1, q.2.2.1, q.2.2.2, at', true) by
   unfold feed_t1; simp] at h
  rw [feedL_bad]
  exact h
 | n + 1, i, q, at', false, hi, h1, h2 => by
  have hl : i < (toL s).length := by unfold slen at hi; omega
  have h := feed_ok1 left low high x at0 bad0 s i q.1 q.2.1 q.2.2.1 q.2.2.2 at' false (by
   unfold feed_S1; simp [show ((i : Int) < slen s) by omega, step_safe])
  have hc : chr s (i : Int).toNat = ((toL s)[i].toNat : Int) := by simp [chr, List.getD_eq_getElem?_getD, hl]
  have e : ∀ a b, step_t0 q.1 q.2.1 q.2.2.1 q.2.2.2 a b (chr s (i : Int).toNat) = sst q (toL s)[i].toNat := fun a b => by rw [hc]; rfl
  unfold feed_t1 at h
  simp only [e] at h
  rw [wrap64_in (by omega) (by omega), wrap64_in (by omega) (by omega)] at h
  rw [List.drop_eq_getElem_cons hl, feedL]
  have ih := feed_run left low high x at0 bad0 s hs n (i + 1) (sst q (toL s)[i].toNat).2 (bif (sst q (toL s)[i].toNat).1 then at' + 1 else at') (!(sst q (toL s)[i].toNat).1) (by omega) (by cases (sst q (toL s)[i].toNat).1 <;> simp <;> omega) (by cases (sst q (toL s)[i].toNat).1 <;> simp <;> omega)
  simp only [show decide ((i : Int) < slen s) = true by simp; omega, cond_true, Bool.not_false, Bool.not_not] at h
  simp only [cond_false]
  refine Gets.ends ?_ ih
  cases hb : (sst q (toL s)[i].toNat).1 <;> simp only [hb, cond_true, cond_false] at h ⊢ <;> exact h

noncomputable def feed_pre (left low high x at' : Int) (bad : Bool) (s : ByteArray) : Prop := slen s ≤ 1000000 ∧ 0 ≤ at' ∧ at' ≤ 1000000 * 1000000
noncomputable def feed_v (left low high x at' : Int) (bad : Bool) (s : ByteArray) : Value := .bool !(feedL (left, low, high, x) at' bad (toL s)).2.2
noncomputable def feed_h (left low high x at' : Int) (bad : Bool) (s : ByteArray) : Heap :=
 [some (.cells [.int .i64 (feedL (left, low, high, x) at' bad (toL s)).1.1, .int .u8 (feedL (left, low, high, x) at' bad (toL s)).1.2.1, .int .u8 (feedL (left, low, high, x) at' bad (toL s)).1.2.2.1, .int .i32 (feedL (left, low, high, x) at' bad (toL s)).1.2.2.2, .int .i64 (feedL (left, low, high, x) at' bad (toL s)).2.1, .bool (feedL (left, low, high, x) at' bad (toL s)).2.2] 106 none)]
theorem feed_call (left low high x at' : Int) (bad : Bool) (s : ByteArray) (h : feed_pre left low high x at' bad s) :
  CallOk E 67 [.pointer (some ⟨0, 0, none⟩), .string s] [some (.cells [.int .i64 left, .int .u8 low, .int .u8 high, .int .i32 x, .int .i64 at', .bool bad] 106 none)] (feed_v left low high x at' bad s) (feed_h left low high x at' bad s) :=
 callOk_of_ends ((feed_ok0 left low high x at' bad s trivial).ends (feed_run left low high x at' bad s h.1 (slen s) 0 (left, low, high, x) at' bad (by omega) h.2.1 (by have := h.2.2; omega))) (by kernel_rfl) (Nat.le_of_ble_eq_true (by kernel_rfl))

def feed_ex (a : List Value) (h : Heap) : Int × Int × Int × Int × Int × Bool × ByteArray := ((toInt ((cellsOf h 0).getD 0 undef)), (toInt ((cellsOf h 0).getD 1 undef)), (toInt ((cellsOf h 0).getD 2 undef)), (toInt ((cellsOf h 0).getD 3 undef)), (toInt ((cellsOf h 0).getD 4 undef)), (toBool ((cellsOf h 0).getD 5 undef)), (toStr (a.getD 1 undef)))
noncomputable def feed_k : Ct := kS feed_ex [.ptr 0 0, .str] [.cells [.int .i64, .int .u8, .int .u8, .int .i32, .int .i64, .bool] 106 none] (fun (a0, a1, a2, a3, a4, a5, a6) => feed_pre a0 a1 a2 a3 a4 a5 a6) (fun (a0, a1, a2, a3, a4, a5, a6) => feed_v a0 a1 a2 a3 a4 a5 a6) (fun (a0, a1, a2, a3, a4, a5, a6) => feed_h a0 a1 a2 a3 a4 a5 a6)
theorem feed_k_ok : KFor E 67 feed_k := kS_ok (fun x hx => feed_call (x.1) (x.2.1) (x.2.2.1) (x.2.2.2.1) (x.2.2.2.2.1) (x.2.2.2.2.2.1) (x.2.2.2.2.2.2) hx) (fun _ _ => rfl) (fun _ _ => rfl)


end Go.Proofs.Ytfpnjpbdaniomaa
