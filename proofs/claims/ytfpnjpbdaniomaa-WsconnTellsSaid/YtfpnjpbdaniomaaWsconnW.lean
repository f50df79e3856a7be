/-
  The first examples: a closed run.
-/
import Derived.Test.YtfpnjpbdaniomaaEnv
import Derived.Test.YtfpnjpbdaniomaaAmSlim
import Derived.KernelRfl
set_option linter.unusedVariables false
open Go Go.Am
namespace Go.Proofs.Ytfpnjpbdaniomaa

noncomputable def EP : Env := { E with pureF := fun f => Nat.beq f 13 }
noncomputable def goodWakes : Bool :=
 match callRun EP (xrun EP noK 100000) none 9 [] [] with
 | some (ok, _, .bool b, _) => ok.all id && b
 | _ => false
theorem wakes_good : goodWakes = true := by kernel_rfl
theorem wakes_call (H : Heap) : CallOk EP 9 [] H (.bool true) H := by
 have h := wakes_good
 unfold goodWakes at h
 split at h
 ·rename_i ok orc b H' hr
  simp only [Bool.and_eq_true] at h
  obtain ⟨h1, rfl⟩ := h
  exact callOk_pure (callRun_sound (xrun_sound noK_ok _) _ _ _ _ _ _ _ _ hr (AllT.of_all h1)) rfl rfl H
 ·cases h
noncomputable def wakes_k : Ct := fun args H =>
 match args with
 | [] => some ([], .bool true, H)
 | _ => none
theorem wakes_k_ok : KFor E 9 wakes_k := by
 intro args H ok v H' h hok
 unfold wakes_k at h
 split at h
 ·cases h; exact wakes_call H
 ·cases h

end Go.Proofs.Ytfpnjpbdaniomaa
