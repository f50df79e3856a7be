/-
  Plain laws of the check: what a byte does, character by character.
-/
import Derived.Test.YtnimmocgnimdiaaUtfB19
set_option linter.unusedVariables false
set_option linter.unusedSimpArgs false
open Go Go.Am
namespace Go.Proofs.Ytnimmocgnimdiaa

theorem and31 (b : Int) (h0 : 0 ≤ b) (h1 : b < 256) : iand .u8 b 31 = b % 32 := by
  have : ∀ n : Fin 256, iand .u8 ((n.val : Nat) : Int) 31 = ((n.val : Nat) : Int) % 32 := by decide +kernel
  have := this ⟨b.toNat, by omega⟩
  simpa [Int.toNat_of_nonneg h0] using this
theorem and15 (b : Int) (h0 : 0 ≤ b) (h1 : b < 256) : iand .u8 b 15 = b % 16 := by
  have : ∀ n : Fin 256, iand .u8 ((n.val : Nat) : Int) 15 = ((n.val : Nat) : Int) % 16 := by decide +kernel
  have := this ⟨b.toNat, by omega⟩
  simpa [Int.toNat_of_nonneg h0] using this
theorem and7 (b : Int) (h0 : 0 ≤ b) (h1 : b < 256) : iand .u8 b 7 = b % 8 := by
  have : ∀ n : Fin 256, iand .u8 ((n.val : Nat) : Int) 7 = ((n.val : Nat) : Int) % 8 := by decide +kernel
  have := this ⟨b.toNat, by omega⟩
  simpa [Int.toNat_of_nonneg h0] using this
theorem and63 (b : Int) (h0 : 0 ≤ b) (h1 : b < 256) : iand .u8 b 63 = b % 64 := by
  have : ∀ n : Fin 256, iand .u8 ((n.val : Nat) : Int) 63 = ((n.val : Nat) : Int) % 64 := by decide +kernel
  have := this ⟨b.toNat, by omega⟩
  simpa [Int.toNat_of_nonneg h0] using this
theorem wrap32_in {x : Int} (h1 : -2147483648 ≤ x) (h2 : x < 2147483648) : IntKind.i32.wrap x = x := by
  have h : IntKind.i32.wrap x = if x % 4294967296 ≥ 2147483648 then x % 4294967296 - 4294967296 else x % 4294967296 := by
    simp [IntKind.wrap, IntKind.bits, IntKind.signed]
  rw [h]
  split <;> omega
theorem wrap8_in {x : Int} (h1 : 0 ≤ x) (h2 : x < 256) : IntKind.u8.wrap x = x := by
  have h : IntKind.u8.wrap x = x % 256 := by simp [IntKind.wrap, IntKind.bits, IntKind.signed]
  rw [h]; omega
theorem shl6 (x : Int) (h0 : 0 ≤ x) (h1 : x < 1048576) : ishl .i32 x 6 = x * 64 := by
  have e : ishl .i32 x 6 = IntKind.i32.wrap (x * 64) := by
    unfold ishl
    rfl
  rw [e, wrap32_in (by omega) (by omega)]
theorem or6 (x y : Int) (h0 : 0 ≤ x) (h1 : x < 1048576) (h2 : 0 ≤ y) (h3 : y < 64) : ior .i32 (x * 64) y = x * 64 + y := by
  obtain ⟨a, rfl⟩ := Int.eq_ofNat_of_zero_le h0
  obtain ⟨b, rfl⟩ := Int.eq_ofNat_of_zero_le h2
  have e1 : (BitVec.ofInt 32 ((a : Int) * 64)) = BitVec.ofNat 32 (2 ^ 6 * a) := by
    rw [show (a : Int) * 64 = ((2 ^ 6 * a : Nat) : Int) by omega, BitVec.ofInt_natCast]
  have e2 : (BitVec.ofInt 32 (b : Int)) = BitVec.ofNat 32 b := BitVec.ofInt_natCast 32 b
  have e : ior .i32 ((a : Int) * 64) b = IntKind.i32.wrap (BitVec.ofInt 32 ((a : Int) * 64) ||| BitVec.ofInt 32 (b : Int)).toNat := rfl
  rw [e, e1, e2, BitVec.toNat_or, BitVec.toNat_ofNat, BitVec.toNat_ofNat, Nat.mod_eq_of_lt (by omega), Nat.mod_eq_of_lt (by omega), ← Nat.two_pow_add_eq_or_of_lt (by omega)]
  rw [wrap32_in (by omega) (by omega)]
  omega

/-- Ahead of a character. -/
theorem sst_start (lo hi x b : Int) : sst (0, lo, hi, x) b = if (begins_t0 b).1 < 0 then (false, 0, lo, hi, x) else (true, begins_t0 b) := by
  unfold sst step_t0
  simp only [beq_self_eq_true, cond_true, Bool.cond_decide]
theorem sst_in (l lo hi x b : Int) (h : l ≠ 0) : sst (l, lo, hi, x) b = if b < lo ∨ hi < b then (false, l, lo, hi, x) else (true, IntKind.i64.wrap (l - 1), 128, 191, ior IntKind.i32 (ishl IntKind.i32 x 6) (IntKind.i32.wrap (iand IntKind.u8 b 63))) := by
  unfold sst step_t0
  have : (l == 0) = false := by simpa using h
  simp only [this, cond_false, Bool.cond_decide]
  by_cases h1 : b < lo
  · simp [h1]
  · by_cases h2 : hi < b <;> simp [h1, h2]

theorem sst_false {q : Q} {b : Int} (h : (sst q b).1 = false) : (sst q b).2 = q := by
  obtain ⟨l, lo, hi, x⟩ := q
  by_cases hl : l = 0
  · subst hl
    rw [sst_start] at h ⊢
    split at h <;> simp_all
  · rw [sst_in _ _ _ _ _ hl] at h ⊢
    split at h <;> simp_all
/-- What a first byte begins. -/
def bg (b : Int) : Option Q :=
  if b < 128 then some (0, 0, 0, b)
  else if b < 194 then none
  else if b < 224 then some (1, 128, 191, b % 32)
  else if b = 224 then some (2, 160, 191, 0)
  else if b = 237 then some (2, 128, 159, 13)
  else if b < 240 then some (2, 128, 191, b % 16)
  else if b = 240 then some (3, 144, 191, 0)
  else if b = 244 then some (3, 128, 143, 4)
  else if b < 244 then some (3, 128, 191, b % 8)
  else none
theorem begins_bg (b : Int) (h0 : 0 ≤ b) (h1 : b < 256) : (match bg b with | some q => (begins_t0 b = q ∧ 0 ≤ q.1) | none => (begins_t0 b).1 < 0) := by
  unfold begins_t0 bg
  simp only [Bool.cond_decide, Bool.cond_eq_ite, beq_iff_eq]
  rw [and31 b h0 h1, and15 b h0 h1, and7 b h0 h1]
  by_cases c1 : b < 128
  · simp [c1]; exact wrap32_in (by omega) (by omega)
  by_cases c2 : b < 194
  · simp [c1, c2]
  by_cases c3 : b < 224
  · have : ¬ 244 < b := by omega
    simp [c1, c2, c3, this]; exact wrap32_in (by omega) (by omega)
  by_cases c4 : b = 224
  · subst c4; simp
  by_cases c5 : b = 237
  · subst c5; simp; decide
  by_cases c6 : b < 240
  · have : ¬ 244 < b := by omega
    simp [c1, c2, c3, c4, c5, c6, this]; exact wrap32_in (by omega) (by omega)
  by_cases c7 : b = 240
  · subst c7; simp
  by_cases c8 : b = 244
  · subst c8; simp; decide
  by_cases c9 : b < 244
  · have : ¬ 244 < b := by omega
    simp [c1, c2, c3, c4, c5, c6, c7, c8, c9, this]; exact wrap32_in (by omega) (by omega)
  · have : 244 < b := by omega
    simp [c1, c2, c3, c4, c5, c6, c7, c8, c9, this]

/-- A character from here: how many bytes may be, how it ends (0: whole; 1: cut off; 2: a bad byte), how it stands. -/
def runC : Q → List UInt8 → Nat × Nat × Q
  | q, [] => (0, 1, q)
  | q, b :: r => match (sst q b.toNat).1 with
    | true => if (sst q b.toNat).2.1 = 0 then (1, 0, (sst q b.toNat).2) else ((runC (sst q b.toNat).2 r).1 + 1, (runC (sst q b.toNat).2 r).2)
    | false => (0, 2, q)
theorem runC_le : ∀ (l : List UInt8) (q : Q), (runC q l).1 ≤ l.length
  | [], q => Nat.le_refl _
  | b :: r, q => by
    unfold runC
    split
    · split
      · simp
      · have := runC_le r (sst q b.toNat).2
        simp only [List.length_cons]; omega
    · simp
theorem runC_pos : ∀ (l : List UInt8) (q : Q), (runC q l).2.1 = 0 → 0 < (runC q l).1 ∧ (runC q l).2.2.1 = 0
  | [], q, h => by simp [runC] at h
  | b :: r, q, h => by
    unfold runC at h ⊢
    split at h
    · split at h
      · rename_i h1; simp [h1]
      · rename_i h1 h2
        simp only [h2, if_false] at h ⊢
        have := runC_pos r _ h
        exact ⟨by omega, this.2⟩
    · simp at h
theorem runC_st : ∀ (l : List UInt8) (q : Q), (runC q l).2.1 ≤ 2
  | [], q => by simp [runC]
  | b :: r, q => by
    unfold runC
    split
    · split
      · simp
      · exact runC_st r _
    · simp
theorem feedL_run : ∀ (l : List UInt8) (q : Q) (at' : Int), feedL q at' false l =
    (if (runC q l).2.1 = 0 then feedL (runC q l).2.2 (at' + (runC q l).1) false (l.drop (runC q l).1) else ((runC q l).2.2, at' + (runC q l).1, (runC q l).2.1 == 2))
  | [], q, at' => by simp [feedL, runC]
  | b :: r, q, at' => by
    rw [feedL]
    unfold runC
    cases h : (sst q b.toNat).1 with
    | false => simp [feedL_bad, h, sst_false h]
    | true =>
      simp only [h, cond_false, cond_true, Bool.not_true]
      by_cases h2 : (sst q b.toNat).2.1 = 0
      · simp [h2]
      · simp only [h2, if_false]
        rw [feedL_run r]
        simp only [List.drop_succ_cons]
        have e : at' + 1 + ((runC (sst q b.toNat).2 r).1 : Int) = at' + (((runC (sst q b.toNat).2 r).1 + 1 : Nat) : Int) := by omega
        rw [e]
/-- The characters from here: where each begins, its number. -/
def runesD : Q → Nat → Nat → List UInt8 → List (Nat × Int)
  | q, fr, i, [] => []
  | q, fr, i, b :: r => match (sst q b.toNat).1 with
    | true => if (sst q b.toNat).2.1 = 0 then ((if q.1 = 0 then i else fr), (sst q b.toNat).2.2.2.2) :: runesD (sst q b.toNat).2 (if q.1 = 0 then i else fr) (i + 1) r else runesD (sst q b.toNat).2 (if q.1 = 0 then i else fr) (i + 1) r
    | false => []
theorem runesD_run : ∀ (l : List UInt8) (q : Q) (fr i : Nat), runesD q fr i l =
    (if (runC q l).2.1 = 0 then ((if q.1 = 0 then i else fr), (runC q l).2.2.2.2.2) :: runesD (runC q l).2.2 (if q.1 = 0 then i else fr) (i + (runC q l).1) (l.drop (runC q l).1) else [])
  | [], q, fr, i => by simp [runesD, runC]
  | b :: r, q, fr, i => by
    rw [runesD]
    unfold runC
    cases h : (sst q b.toNat).1 with
    | false => simp
    | true =>
      simp only [h]
      by_cases h2 : (sst q b.toNat).2.1 = 0
      · simp [h2]
      · simp only [h2, if_false]
        rw [runesD_run r]
        simp only [List.drop_succ_cons, h2, if_false]
        have e : i + 1 + (runC (sst q b.toNat).2 r).1 = i + ((runC (sst q b.toNat).2 r).1 + 1) := by omega
        rw [e]
end Go.Proofs.Ytnimmocgnimdiaa
