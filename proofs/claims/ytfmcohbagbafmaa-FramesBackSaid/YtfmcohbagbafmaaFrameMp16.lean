/-
  What was written is read again.
-/
import Derived.Test.YtfmcohbagbafmaaFrameLp16
import Derived.Test.YtfmcohbagbafmaaFramesD
set_option linter.unusedVariables false
set_option linter.unusedSimpArgs false
open Go Go.Am
namespace Go.Proofs.Ytfmcohbagbafmaa

def numI (masked : Bool) (n : Int) : List Int :=
 if n ≤ 125 then [(bif masked then 128 else 0) + n]
 else if n ≤ 65535 then [(bif masked then 128 else 0) + 126, n / 256, n % 256]
 else [(bif masked then 128 else 0) + 127, 0, 0, 0, 0, 0, n / 65536, n / 256 % 256, n % 256]
def hI (fin : Bool) (rsv op : Int) (masked : Bool) (k0 k1 k2 k3 n : Int) : List Int :=
 ((16 * rsv + op) + (bif fin then 128 else 0)) :: (numI masked n ++ (bif masked then [k0, k1, k2, k3] else []))
theorem hdrV_hI (fin : Bool) (rsv op : Int) (masked : Bool) (k0 k1 k2 k3 n : Int) : hdrV fin rsv op masked k0 k1 k2 k3 n = (hI fin rsv op masked k0 k1 k2 k3 n).map (Value.int .u8) := by
 unfold hdrV hI numV numI
 by_cases c1 : n ≤ 125
 ·rw [if_pos c1, if_pos c1]; cases masked <;> simp
 ·by_cases c2 : n ≤ 65535
  ·rw [if_neg c1, if_neg c1, if_pos c2, if_pos c2]; cases masked <;> simp
  ·rw [if_neg c1, if_neg c1, if_neg c2, if_neg c2]; cases masked <;> simp

structure Okay (rsv op : Int) (masked : Bool) (k0 k1 k2 k3 n : Int) : Prop where
 r0 : 0 ≤ rsv
 r1 : rsv ≤ 7
 o0 : 0 ≤ op
 o1 : op ≤ 15
 n0 : 0 ≤ n
 n1 : n ≤ 16777215
 k : masked = false → k0 = 0 ∧ k1 = 0 ∧ k2 = 0 ∧ k3 = 0
 b0 : 0 ≤ k0 ∧ k0 ≤ 255
 b1 : 0 ≤ k1 ∧ k1 ≤ 255
 b2 : 0 ≤ k2 ∧ k2 ≤ 255
 b3 : 0 ≤ k3 ∧ k3 ≤ 255
theorem hI_bd {fin : Bool} {rsv op : Int} {masked : Bool} {k0 k1 k2 k3 n : Int} (h : Okay rsv op masked k0 k1 k2 k3 n) : ∀ x ∈ hI fin rsv op masked k0 k1 k2 k3 n, 0 ≤ x ∧ x < 256 := by
 obtain ⟨r0, r1, o0, o1, n0, n1, k, b0, b1, b2, b3⟩ := h
 intro x hx
 unfold hI numI at hx
 by_cases c1 : n ≤ 125
 ·rw [if_pos c1] at hx
  cases masked <;> cases fin <;> simp at hx <;> omega
 ·by_cases c2 : n ≤ 65535
  ·rw [if_neg c1, if_pos c2] at hx
   cases masked <;> cases fin <;> simp at hx <;> omega
  ·rw [if_neg c1, if_neg c2] at hx
   cases masked <;> cases fin <;> simp at hx <;> omega

structure Says (s : ByteArray) (fin : Bool) (rsv op : Int) (masked : Bool) (k0 k1 k2 k3 n : Int) (l : Nat) : Prop where
 ok : hOk s = true
 hn : hN s = l
 len : hLen s = n
 least : hLeast s = true
 mask : hMask s = masked
 key0 : hKey s 0 = k0
 key1 : hKey s 1 = k1
 key2 : hKey s 2 = k2
 key3 : hKey s 3 = k3
 hfin : decide (128 ≤ chr s 0) = fin
 hrsv : chr s 0 / 16 % 8 = rsv
 hop : chr s 0 % 16 = op

theorem head_long {s : ByteArray} {fin : Bool} {rsv op : Int} {masked : Bool} {k0 k1 k2 k3 n : Int} (h : Okay rsv op masked k0 k1 k2 k3 n)
  (ag : ∀ i, i < (hI fin rsv op masked k0 k1 k2 k3 n).length → i < slen s → chr s i = (hI fin rsv op masked k0 k1 k2 k3 n).getD i 0) (hl : (hI fin rsv op masked k0 k1 k2 k3 n).length ≤ slen s) :
  Says s fin rsv op masked k0 k1 k2 k3 n (hI fin rsv op masked k0 k1 k2 k3 n).length := by
 obtain ⟨r0, r1, o0, o1, n0, n1, k, b0, b1, b2, b3⟩ := h
 have ag : ∀ i, i < (hI fin rsv op masked k0 k1 k2 k3 n).length → chr s i = (hI fin rsv op masked k0 k1 k2 k3 n).getD i 0 := fun i hi => ag i hi (by omega)
 have main : ∀ (c0 : chr s 0 = (16 * rsv + op) + (bif fin then 128 else 0)) (l : Nat) (_ : l = (hI fin rsv op masked k0 k1 k2 k3 n).length) (_ : hN s = l) (_ : hLen s = n) (_ : hLeast s = true) (_ : hMask s = masked) (_ : hKey s 0 = k0) (_ : hKey s 1 = k1) (_ : hKey s 2 = k2) (_ : hKey s 3 = k3),
   Says s fin rsv op masked k0 k1 k2 k3 n (hI fin rsv op masked k0 k1 k2 k3 n).length := by
  intro c0 l e1 e2 e3 e4 e5 e6 e7 e8 e9
  subst e1
  have h2 : 2 ≤ (hI fin rsv op masked k0 k1 k2 k3 n).length := by
   have := (hN_bd s).1
   omega
  refine ⟨?_, e2, e3, e4, e5, e6, e7, e8, e9, ?_, ?_, ?_⟩
  ·unfold hOk
   rw [decide_eq_true (by omega), decide_eq_true (by omega)]
   rfl
  ·rw [c0]; cases fin <;> simp <;> omega
  ·rw [c0]; cases fin <;> simp <;> omega
  ·rw [c0]; cases fin <;> simp <;> omega
 by_cases c1 : n ≤ 125
 ·have e : hI fin rsv op masked k0 k1 k2 k3 n = ((16 * rsv + op) + (bif fin then 128 else 0)) :: ((bif masked then 128 else 0) + n) :: (bif masked then [k0, k1, k2, k3] else []) := by unfold hI numI; rw [if_pos c1]; rfl
  rw [e] at ag hl
  rw [e] at main ⊢
  cases masked
  ·obtain ⟨rfl, rfl, rfl, rfl⟩ := k rfl
   have a0 := ag 0 (by simp)
   have a1 := ag 1 (by simp)
   simp at a0 a1
   refine main (by rw [a0]) 2 rfl ?_ ?_ ?_ ?_ ?_ ?_ ?_ ?_ <;> simp only [hN, hLen, hLeast, hMask, hKey, wd, a1]
   ·rw [if_neg (by omega), if_neg (by omega), if_neg (by omega)]; rfl
   ·rw [if_neg (by omega), if_neg (by omega)]; omega
   ·rw [if_neg (by omega), if_neg (by omega)]
   ·simp; omega
   all_goals rw [if_neg (by omega)]
  ·have a0 := ag 0 (by simp)
   have a1 := ag 1 (by simp)
   have a2 := ag 2 (by simp)
   have a3 := ag 3 (by simp)
   have a4 := ag 4 (by simp)
   have a5 := ag 5 (by simp)
   simp at a0 a1 a2 a3 a4 a5
   have w : wd (128 + n) = 0 := by unfold wd; rw [if_neg (by omega), if_neg (by omega)]
   refine main (by rw [a0]) 6 rfl ?_ ?_ ?_ ?_ ?_ ?_ ?_ ?_ <;> simp only [hN, hLen, hLeast, hMask, hKey, a1, w]
   ·rw [if_pos (by omega)]; rfl
   ·rw [if_neg (by omega), if_neg (by omega)]; omega
   ·rw [if_neg (by omega), if_neg (by omega)]
   ·simp; omega
   all_goals rw [if_pos (by omega)]; assumption
 by_cases c2 : n ≤ 65535
 ·have e : hI fin rsv op masked k0 k1 k2 k3 n = ((16 * rsv + op) + (bif fin then 128 else 0)) :: ((bif masked then 128 else 0) + 126) :: (n / 256) :: (n % 256) :: (bif masked then [k0, k1, k2, k3] else []) := by unfold hI numI; rw [if_neg c1, if_pos c2]; rfl
  rw [e] at ag hl
  rw [e] at main ⊢
  cases masked
  ·obtain ⟨rfl, rfl, rfl, rfl⟩ := k rfl
   have a0 := ag 0 (by simp)
   have a1 := ag 1 (by simp)
   have a2 := ag 2 (by simp)
   have a3 := ag 3 (by simp)
   simp at a0 a1 a2 a3
   refine main (by rw [a0]) 4 rfl ?_ ?_ ?_ ?_ ?_ ?_ ?_ ?_ <;> simp only [hN, hLen, hLeast, hMask, hKey, wd, a1, big2, a2, a3]
   ·rfl
   ·rw [if_pos (by omega)]; omega
   ·rw [if_pos (by omega)]; simp; omega
   ·rfl
   all_goals rfl
  ·have a0 := ag 0 (by simp)
   have a1 := ag 1 (by simp)
   have a2 := ag 2 (by simp)
   have a3 := ag 3 (by simp)
   have a4 := ag 4 (by simp)
   have a5 := ag 5 (by simp)
   have a6 := ag 6 (by simp)
   have a7 := ag 7 (by simp)
   simp at a0 a1 a2 a3 a4 a5 a6 a7
   have w : wd 254 = 2 := rfl
   refine main (by rw [a0]) 8 rfl ?_ ?_ ?_ ?_ ?_ ?_ ?_ ?_ <;> simp only [hN, hLen, hLeast, hMask, hKey, a1, w, big2, a2, a3]
   ·rfl
   ·rw [if_pos (by omega)]; omega
   ·rw [if_pos (by omega)]; simp; omega
   ·rfl
   all_goals rw [if_pos (by omega)]; assumption
 ·have e : hI fin rsv op masked k0 k1 k2 k3 n = ((16 * rsv + op) + (bif fin then 128 else 0)) :: ((bif masked then 128 else 0) + 127) :: 0 :: 0 :: 0 :: 0 :: 0 :: (n / 65536) :: (n / 256 % 256) :: (n % 256) :: (bif masked then [k0, k1, k2, k3] else []) := by unfold hI numI; rw [if_neg c1, if_neg c2]; rfl
  rw [e] at ag hl
  rw [e] at main ⊢
  have a0 := ag 0 (by simp)
  have a1 := ag 1 (by simp)
  have a2 := ag 2 (by simp)
  have a3 := ag 3 (by simp)
  have a4 := ag 4 (by simp)
  have a5 := ag 5 (by simp)
  have a6 := ag 6 (by simp)
  have a7 := ag 7 (by simp)
  have a8 := ag 8 (by simp)
  have a9 := ag 9 (by simp)
  cases masked
  ·obtain ⟨rfl, rfl, rfl, rfl⟩ := k rfl
   simp at a0 a1 a2 a3 a4 a5 a6 a7 a8 a9
   refine main (by rw [a0]) 10 rfl ?_ ?_ ?_ ?_ ?_ ?_ ?_ ?_ <;> simp only [hN, hLen, hLeast, hMask, hKey, wd, a1, big8, a2, a3, a4, a5, a6, a7, a8, a9]
   ·rfl
   ·rw [if_neg (by omega), if_pos (by omega)]; omega
   ·rw [if_neg (by omega), if_pos (by omega)]; simp; omega
   ·rfl
   all_goals rfl
  ·have a10 := ag 10 (by simp)
   have a11 := ag 11 (by simp)
   have a12 := ag 12 (by simp)
   have a13 := ag 13 (by simp)
   simp at a0 a1 a2 a3 a4 a5 a6 a7 a8 a9 a10 a11 a12 a13
   have w : wd 255 = 8 := rfl
   refine main (by rw [a0]) 14 rfl ?_ ?_ ?_ ?_ ?_ ?_ ?_ ?_ <;> simp only [hN, hLen, hLeast, hMask, hKey, a1, w, big8, a2, a3, a4, a5, a6, a7, a8, a9]
   ·rfl
   ·rw [if_neg (by omega), if_pos (by omega)]; omega
   ·rw [if_neg (by omega), if_pos (by omega)]; simp; omega
   ·rfl
   all_goals rw [if_pos (by omega)]; assumption

end Go.Proofs.Ytfmcohbagbafmaa
