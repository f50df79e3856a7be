/-
  What is told comes to an end.
-/
import Derived.Test.YtfmcohbagbafmaaFramesL0
set_option linter.unusedVariables false
set_option linter.unusedSimpArgs false
open Go Go.Am
namespace Go.Proofs.Ytfmcohbagbafmaa

theorem safeI (m : Bool) (st : Int) (inn : ByteArray) (hf : Bool) (hr ho : Int) (hm : Bool) (k0 k1 k2 k3 hl : Int) (hlst : Bool) (told : Int) (h : Inv (st, inn, hf, hr, ho, hm, k0, k1, k2, k3, hl, hlst, told)) :
    rstep_S0 m st inn hf hr ho hm k0 k1 k2 k3 hl hlst told := (step_val m _ h).1
theorem awake_safe : awake_S0 := by
  unfold awake_S0
  repeat' first | (apply safeI; exact ⟨by decide +kernel, by decide +kernel⟩) | apply And.intro
theorem stepT_no {m : Bool} {x : RX} (h : Inv x) (hn : rOk (stepT m x) = false) : stepT m x = mkR 0 0 false 0 ⟨#[]⟩ false x := by
  obtain ⟨h1, h2⟩ := h
  rcases h1 with h1 | h1 | ⟨h1, t0, t1, t2⟩
  · exact stepT_2 h1
  · rw [stepT_0 h1] at hn ⊢
    cases ho : hOk (xIn x) with
    | false => rfl
    | true =>
      rw [ho] at hn
      cases hmm : mayS m (xIn x) with
      | false => rw [hmm] at hn; cases hn
      | true => rw [hmm] at hn; cases hn
  · by_cases c1 : xHl x = xTold x
    · rw [stepT_e h1 c1] at hn; cases hn
    · by_cases c2 : slen (xIn x) = 0
      · exact stepT_n h1 c1 c2
      · rw [stepT_p h1 c1 c2] at hn; cases hn
theorem cat_nil (s : ByteArray) : cat ⟨#[]⟩ s = s := by
  have : toL (cat ⟨#[]⟩ s) = toL s := by simp [cat, toL, ofL]
  rw [← ofL_toL (cat ⟨#[]⟩ s), this, ofL_toL]
theorem tell_len (m : Bool) : ∀ (n : Nat) (x : RX) (l : List Ev), (tell m n x l).1.length ≤ l.length + n
  | 0, x, l => by simp [tell]
  | n + 1, x, l => by
    rw [tell]
    cases rOk (stepT m x) with
    | false => rw [cond_false]; show l.length ≤ _; omega
    | true =>
      rw [cond_true]
      have := tell_len m n (rx (stepT m x)) (addE l (rEv (stepT m x)))
      have hadd : (addE l (rEv (stepT m x))).length ≤ l.length + 1 := by
        unfold addE
        split
        · split
          · rw [List.length_append, List.length_dropLast]; simp
          · simp
        · simp
      omega
abbrev x0 (s : ByteArray) : RX := (0, s, false, 0, 0, false, 0, 0, 0, 0, 0, false, 0)

end Go.Proofs.Ytfmcohbagbafmaa
