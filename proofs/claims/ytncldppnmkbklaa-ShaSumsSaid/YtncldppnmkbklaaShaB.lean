/-
  Words turned, mixed and read: contracts.
-/
import Derived.Test.YtncldppnmkbklaaShaA
set_option linter.unusedVariables false
set_option linter.unusedSimpArgs false
open Go Go.Am
namespace Go.Proofs.Ytncldppnmkbklaa

/-- A word turned to the left. -/
def rot (x n : Int) : Int := ior .u32 (ishl .u32 x n) (ishr .u32 x (32 - n))
theorem and31 {n : Int} (h0 : 0 ≤ n) (h1 : n < 32) : iand .u64 (IntKind.u64.wrap n) 31 = n := by
  have : n = 0 ∨ n = 1 ∨ n = 2 ∨ n = 3 ∨ n = 4 ∨ n = 5 ∨ n = 6 ∨ n = 7 ∨ n = 8 ∨ n = 9 ∨ n = 10 ∨ n = 11 ∨ n = 12 ∨ n = 13 ∨ n = 14 ∨ n = 15 ∨ n = 16 ∨ n = 17 ∨ n = 18 ∨ n = 19 ∨ n = 20 ∨ n = 21 ∨ n = 22 ∨ n = 23 ∨ n = 24 ∨ n = 25 ∨ n = 26 ∨ n = 27 ∨ n = 28 ∨ n = 29 ∨ n = 30 ∨ n = 31 := by omega
  rcases this with rfl | rfl | rfl | rfl | rfl | rfl | rfl | rfl | rfl | rfl | rfl | rfl | rfl | rfl | rfl | rfl | rfl | rfl | rfl | rfl | rfl | rfl | rfl | rfl | rfl | rfl | rfl | rfl | rfl | rfl | rfl | rfl <;> decide
theorem wrapU64 {x : Int} (h0 : 0 ≤ x) (h1 : x < 18446744073709551616) : IntKind.u64.wrap x = x := by
  have h : IntKind.u64.wrap x = x % 18446744073709551616 := by simp [IntKind.wrap, IntKind.bits, IntKind.signed]
  rw [h]; omega

def rotc_pre (x n : Int) : Prop := 0 ≤ n ∧ n < 32
def rotc_v (x n : Int) : Value := .int .u32 (rot x n)
def rotc_h (x n : Int) : Heap := []
theorem rotc_call (x n : Int) (h : rotc_pre x n) : CallOk E 18 [.int .u32 x, .int .i64 n] [] (rotc_v x n) (rotc_h x n) := by
  have e := and31 h.1 h.2
  have w : IntKind.u64.wrap (32 - n) = 32 - n := wrapU64 (by have := h.1; have := h.2; omega) (by have := h.1; have := h.2; omega)
  have k := rotl_call x n (by unfold rotl_S0; rw [e, w]; have := h.2; omega)
  unfold rotl_V rotl_H at k
  rw [e, w] at k
  exact k

def rotc_ex (a : List Value) (h : Heap) : Int × Int := ((toInt (a.getD 0 undef)), (toInt (a.getD 1 undef)))
noncomputable def rotc_k : Ct := kP rotc_ex (fun (a0, a1) => [.int .u32 a0, .int .i64 a1]) (fun (a0, a1) => []) (fun (a0, a1) => rotc_pre a0 a1) (fun (a0, a1) => rotc_v a0 a1) (fun (a0, a1) => rotc_h a0 a1)
theorem rotc_k_ok : KFor E 18 rotc_k := kP_ok (fun (a0, a1) hx => rotc_call a0 a1 hx)


def rrotc_pre (x n : Int) : Prop := 0 ≤ n ∧ n < 32
def rrotc_v (x n : Int) : Value := .int .u32 (rot x n)
def rrotc_h (x n : Int) : Heap := []
theorem rrotc_call (x n : Int) (h : rrotc_pre x n) : CallOk E 11 [.int .u32 x, .int .u64 n] [] (rrotc_v x n) (rrotc_h x n) := by
  have w : IntKind.u64.wrap (32 - n) = 32 - n := wrapU64 (by have := h.1; have := h.2; omega) (by have := h.1; have := h.2; omega)
  have k := rrot_call x n (by unfold rrot_S0; rw [w]; have := h.1; have := h.2; exact ⟨by omega, by omega⟩)
  unfold rrot_V rrot_H at k
  rw [w] at k
  exact k

def rrotc_ex (a : List Value) (h : Heap) : Int × Int := ((toInt (a.getD 0 undef)), (toInt (a.getD 1 undef)))
noncomputable def rrotc_k : Ct := kP rrotc_ex (fun (a0, a1) => [.int .u32 a0, .int .u64 a1]) (fun (a0, a1) => []) (fun (a0, a1) => rrotc_pre a0 a1) (fun (a0, a1) => rrotc_v a0 a1) (fun (a0, a1) => rrotc_h a0 a1)
theorem rrotc_k_ok : KFor E 11 rrotc_k := kP_ok (fun (a0, a1) hx => rrotc_call a0 a1 hx)


/-- The number of a text's first four bytes. -/
def g4 (s : ByteArray) : Int := ior IntKind.u64 (ishl IntKind.u64 (ior IntKind.u64 (ishl IntKind.u64 (ior IntKind.u64 (ishl IntKind.u64 (ior IntKind.u64 0 (IntKind.u64.wrap (chr s 0))) 8) (IntKind.u64.wrap (chr s 1))) 8) (IntKind.u64.wrap (chr s 2))) 8) (IntKind.u64.wrap (chr s 3))
def bigc_pre (s : ByteArray) : Prop := 3 < slen s
def bigc_v (s : ByteArray) : Value := .int .u64 (g4 s)
def bigc_h (s : ByteArray) : Heap := []
theorem bigc_call (s : ByteArray) (h : bigc_pre s) : CallOk E 25 [.string s, .int .i64 4] [] (bigc_v s) (bigc_h s) :=
  big4_call s (by unfold big4_S0; unfold bigc_pre at h; omega)

def bigc_ex (a : List Value) (h : Heap) : ByteArray := (toStr (a.getD 0 undef))
noncomputable def bigc_k : Ct := kP bigc_ex (fun x => [.string x, .int .i64 4]) (fun x => []) (fun x => bigc_pre x) (fun x => bigc_v x) (fun x => bigc_h x)
theorem bigc_k_ok : KFor E 25 bigc_k := kP_ok (fun x hx => bigc_call x hx)


def mf (t b c d : Int) : Int := (mixed_t0 t b c d).1
def mk (t b c d : Int) : Int := (mixed_t0 t b c d).2
def mixc_pre (t b c d : Int) : Prop := True
def mixc_v (t b c d : Int) : Value := .tuple #[.int .u32 (mf t b c d), .int .u32 (mk t b c d)]
def mixc_h (t b c d : Int) : Heap := []
theorem mixc_call (t b c d : Int) (h : mixc_pre t b c d) : CallOk E 17 [.int .i64 t, .int .u32 b, .int .u32 c, .int .u32 d] [] (mixc_v t b c d) (mixc_h t b c d) :=
  mixed_call t b c d trivial

def mixc_ex (a : List Value) (h : Heap) : Int × Int × Int × Int := ((toInt (a.getD 0 undef)), (toInt (a.getD 1 undef)), (toInt (a.getD 2 undef)), (toInt (a.getD 3 undef)))
noncomputable def mixc_k : Ct := kP mixc_ex (fun (a0, a1, a2, a3) => [.int .i64 a0, .int .u32 a1, .int .u32 a2, .int .u32 a3]) (fun (a0, a1, a2, a3) => []) (fun (a0, a1, a2, a3) => mixc_pre a0 a1 a2 a3) (fun (a0, a1, a2, a3) => mixc_v a0 a1 a2 a3) (fun (a0, a1, a2, a3) => mixc_h a0 a1 a2 a3)
theorem mixc_k_ok : KFor E 17 mixc_k := kP_ok (fun (a0, a1, a2, a3) hx => mixc_call a0 a1 a2 a3 hx)


noncomputable def KB : Ctr := ctrOf E [(25, anyA, bigc_k), (18, anyA, rotc_k)]
theorem KB_ok : KOk E KB := ctr_cons bigc_k_ok (ctr_cons rotc_k_ok ctr_nil)

end Go.Proofs.Ytncldppnmkbklaa
