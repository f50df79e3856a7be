/-
  What the statement wakes with, as a contract: it is closed, its run is carried out by Lean's kernel.
-/
import Derived.Test.YtfpnjpbdaniomaaEnv
import Derived.Test.YtfpnjpbdaniomaaAmLaw
open Go Go.Am
namespace Go.Proofs.Ytfpnjpbdaniomaa.wsconnNobody
def okTrue : Option (List Bool × Value × Heap) → Bool
  | some (ok, .bool b, []) => b && ok.all id
  | _ => false
theorem wakes_good : okTrue (goEnd E noK 100000 100000 none [] [0] (startC E 9 [] [])) = true := by kernel_rfl
theorem wakes_ok : CallOk E 9 [] [] (.bool true) [] := by
  have h := wakes_good
  unfold okTrue at h
  split at h
  · rename_i ok b hr
    simp only [Bool.and_eq_true] at h
    obtain ⟨rfl, h2⟩ := h
    exact callOk_of_end noK_ok (by kernel_rfl) (Gets.refl _) hr (AllT.of_all h2) (Nat.zero_le _) (fun i hi => absurd hi (Nat.not_lt_zero _)) (Nat.zero_le _)
  · cases h
def kTrue0 (args : List Value) (Hs : Heap) : Option (List Bool × Value × Heap) :=
  match args, Hs with
  | [], [] => some ([], .bool true, [])
  | _, _ => none
theorem kWakes0_ok : ∀ args H ok v H', kTrue0 args H = some (ok, v, H') → AllT ok → CallOk E 9 args H v H' := by
  intro args H ok v H' h hok
  unfold kTrue0 at h
  split at h
  · cases h; exact wakes_ok
  · cases h
noncomputable def K : Ctr := fun g args H =>
  match g == 9 with
  | true => inPart E (fun _ _ => some []) kTrue0 args H
  | false => none
theorem K_ok : KOk E K := by
  intro g args H ok v H' h hok
  unfold K at h
  split at h
  · rename_i hg
    have hg : g = 9 := by simpa using hg
    subst hg
    exact inPart_ok kWakes0_ok h hok
  · cases h
end Go.Proofs.Ytfpnjpbdaniomaa.wsconnNobody
