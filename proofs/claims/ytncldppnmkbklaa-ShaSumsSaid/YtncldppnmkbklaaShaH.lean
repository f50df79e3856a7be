/-
  A text written: the walk, the contract.
-/
import Derived.Test.YtncldppnmkbklaaShaG
set_option linter.unusedVariables false
set_option linter.unusedSimpArgs false
open Go Go.Am
namespace Go.Proofs.Ytncldppnmkbklaa

def firstF : S5 := (1732584193, 4023233417, 2562383102, 271733878, 3285377520)
/-- Whole blocks taken in, what is left. -/
noncomputable def eat : Nat → S5 → ByteArray → S5 × ByteArray
  | 0, a, s => (a, s)
  | n + 1, a, s => bif decide (64 ≤ slen s) then eat n (aF a (sub s 0 64)) (sub s 64 (slen s)) else (a, s)
noncomputable def hashC (b : Bool) (a : S5) (rest : ByteArray) (n : Int) : List Value :=
  [.bool b, .int .u32 a.1, .int .u32 a.2.1, .int .u32 a.2.2.1, .int .u32 a.2.2.2.1, .int .u32 a.2.2.2.2, .string rest, .int .i64 n]

theorem write_run (b0 : Bool) (a0 a1 a2 a3 a4 : Int) (rest : ByteArray) (n : Int) (s0 : ByteArray) : ∀ (k : Nat) (b : Bool) (a : S5) (s : ByteArray), slen s < k * 64 →
    AEnds E 9 1 (write_h1 b0 a0 a1 a2 a3 a4 rest n s0 b a.1 a.2.1 a.2.2.1 a.2.2.2.1 a.2.2.2.2 s) (.tuple #[]) [some (.cells (hashC b (eat k a s).1 (eat k a s).2 (IntKind.i64.wrap (n + slen s0))) 39 none)]
  | 0, b, a, s, h => by omega
  | k + 1, b, a, s, hk => by
    have h := write_ok1 b0 a0 a1 a2 a3 a4 rest n s0 b a.1 a.2.1 a.2.2.1 a.2.2.2.1 a.2.2.2.2 s ⟨fun h => by
      have h64 : 64 ≤ slen s := by simp at h; omega
      exact ⟨h64, by unfold afterc_pre; rw [slen_sub]; omega, by omega⟩, fun _ => trivial⟩
    unfold write_t1 at h
    rw [eat]
    by_cases hc : 64 ≤ slen s
    · rw [show decide (64 ≤ slen s) = true by simpa using hc, cond_true]
      rw [show decide (64 ≤ ((slen s : Nat) : Int)) = true by simp; omega, cond_true] at h
      exact (write_go1 h).ends (write_run b0 a0 a1 a2 a3 a4 rest n s0 k b (aF a (sub s 0 64)) (sub s 64 (slen s)) (by rw [slen_sub]; omega))
    · rw [show decide (64 ≤ slen s) = false by simpa using hc, cond_false]
      rw [show decide (64 ≤ ((slen s : Nat) : Int)) = false by simp; omega, cond_false] at h
      exact write_end h

noncomputable def writeF (b : Bool) (a : S5) (rest s : ByteArray) : S5 × ByteArray := eat (slen (cat rest s) / 64 + 1) (bif b then a else firstF) (cat rest s)
theorem wF_ex : ∃ f : Bool → S5 → ByteArray → ByteArray → S5 × ByteArray, ∀ b a r s, f b a r s = writeF b a r s := ⟨_, fun _ _ _ _ => rfl⟩
noncomputable def wF : Bool → S5 → ByteArray → ByteArray → S5 × ByteArray := Classical.choose wF_ex
theorem wF_eq (b : Bool) (a : S5) (r s : ByteArray) : wF b a r s = writeF b a r s := Classical.choose_spec wF_ex b a r s

def writec_pre (b : Bool) (a0 a1 a2 a3 a4 : Int) (rest : ByteArray) (n : Int) (s : ByteArray) : Prop := slen rest + slen s ≤ 9223372036854775807
def writec_v (b : Bool) (a0 a1 a2 a3 a4 : Int) (rest : ByteArray) (n : Int) (s : ByteArray) : Value := .tuple #[]
noncomputable def writec_h (b : Bool) (a0 a1 a2 a3 a4 : Int) (rest : ByteArray) (n : Int) (s : ByteArray) : Heap :=
  [some (.cells (hashC true (wF b (a0, a1, a2, a3, a4) rest s).1 (wF b (a0, a1, a2, a3, a4) rest s).2 (IntKind.i64.wrap (n + slen s))) 39 none)]
theorem writec_call (b : Bool) (a0 a1 a2 a3 a4 : Int) (rest : ByteArray) (n : Int) (s : ByteArray) (h : writec_pre b a0 a1 a2 a3 a4 rest n s) :
    CallOk E 9 [.pointer (some ⟨0, 0, none⟩), .string s] [some (.cells [.bool b, .int .u32 a0, .int .u32 a1, .int .u32 a2, .int .u32 a3, .int .u32 a4, .string rest, .int .i64 n] 39 none)] (writec_v b a0 a1 a2 a3 a4 rest n s) (writec_h b a0 a1 a2 a3 a4 rest n s) := by
  refine callOk_of_ends ?_ (by kernel_rfl) (Nat.le_of_ble_eq_true (by kernel_rfl))
  have k := write_ok0 b a0 a1 a2 a3 a4 rest n s ⟨fun _ => h, fun _ => h⟩
  have hl : slen (cat rest s) < (slen (cat rest s) / 64 + 1) * 64 := by omega
  unfold write_t0 at k
  unfold writec_h writec_v
  rw [wF_eq, writeF]
  cases hb : b <;> rw [hb] at k
  · exact (write_go1 k).ends (write_run false a0 a1 a2 a3 a4 rest n s _ true firstF (cat rest s) hl)
  · exact (write_go1 k).ends (write_run true a0 a1 a2 a3 a4 rest n s _ true (a0, a1, a2, a3, a4) (cat rest s) hl)

def writec_ex (a : List Value) (h : Heap) : Bool × Int × Int × Int × Int × Int × ByteArray × Int × ByteArray := ((toBool ((cellsOf h 0).getD 0 undef)), (toInt ((cellsOf h 0).getD 1 undef)), (toInt ((cellsOf h 0).getD 2 undef)), (toInt ((cellsOf h 0).getD 3 undef)), (toInt ((cellsOf h 0).getD 4 undef)), (toInt ((cellsOf h 0).getD 5 undef)), (toStr ((cellsOf h 0).getD 6 undef)), (toInt ((cellsOf h 0).getD 7 undef)), (toStr (a.getD 1 undef)))
noncomputable def writec_k : Ct := kP writec_ex (fun (a0, a1, a2, a3, a4, a5, a6, a7, a8) => [.pointer (some ⟨0, 0, none⟩), .string a8]) (fun (a0, a1, a2, a3, a4, a5, a6, a7, a8) => [some (.cells [.bool a0, .int .u32 a1, .int .u32 a2, .int .u32 a3, .int .u32 a4, .int .u32 a5, .string a6, .int .i64 a7] 39 none)]) (fun (a0, a1, a2, a3, a4, a5, a6, a7, a8) => writec_pre a0 a1 a2 a3 a4 a5 a6 a7 a8) (fun (a0, a1, a2, a3, a4, a5, a6, a7, a8) => writec_v a0 a1 a2 a3 a4 a5 a6 a7 a8) (fun (a0, a1, a2, a3, a4, a5, a6, a7, a8) => writec_h a0 a1 a2 a3 a4 a5 a6 a7 a8)
theorem writec_k_ok : KFor E 9 writec_k := kP_ok (fun (a0, a1, a2, a3, a4, a5, a6, a7, a8) hx => writec_call a0 a1 a2 a3 a4 a5 a6 a7 a8 hx)


end Go.Proofs.Ytncldppnmkbklaa
