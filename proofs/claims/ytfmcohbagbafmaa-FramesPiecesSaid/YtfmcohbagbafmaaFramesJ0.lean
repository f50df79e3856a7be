/-
  The document's own answer, in plain Lean.
-/
import Derived.Test.YtfmcohbagbafmaaFramesI
set_option linter.unusedVariables false
set_option linter.unusedSimpArgs false
open Go Go.Am
namespace Go.Proofs.Ytfmcohbagbafmaa

def behind (s : ByteArray) : ByteArray := sub s (hN s).toNat (slen s)
def kOfS (s : ByteArray) : Nat := min (slen (behind s)) (hLen s).toNat
def evBegin (s : ByteArray) : Ev := ⟨1, chr s 0 % 16, decide (128 ≤ chr s 0), hLen s, ⟨#[]⟩⟩
def evPiece (s : ByteArray) : Ev := ⟨2, 0, false, 0, maskD [hKey s 0, hKey s 1, hKey s 2, hKey s 3] 0 (sub (behind s) 0 (kOfS s))⟩
def evEnd : Ev := ⟨3, 0, false, 0, ⟨#[]⟩⟩
def evFail : Ev := ⟨4, 0, false, 0, ⟨#[]⟩⟩
def evsOf (s : ByteArray) : List Ev := if kOfS s = 0 then [evBegin s] else [evBegin s, evPiece s]
/-- All events of bytes, whether the last one was a Fail, whether nothing is under way. -/
def allD (m : Bool) : Nat → ByteArray → List Ev → List Ev × Bool × Bool
  | 0, s, l => (l, false, false)
  | n + 1, s, l => bif !hOk s then (l, false, toL s == [])
    else bif !mayS m s then (l ++ [evFail], true, false)
    else bif decide ((kOfS s : Int) < hLen s) then (l ++ evsOf s, false, false)
    else allD m n (sub (behind s) (kOfS s) (slen (behind s))) (l ++ evsOf s ++ [evEnd])
theorem behind_len {s : ByteArray} (h : hOk s = true) : slen (behind s) = slen s - (hN s).toNat ∧ 2 ≤ (hN s).toNat ∧ (hN s).toNat ≤ slen s := by
  have n1 := hN_bd s
  have n3 := hOk_le h
  refine ⟨?_, by omega, by omega⟩
  unfold behind; rw [slen_sub]; omega

end Go.Proofs.Ytfmcohbagbafmaa
