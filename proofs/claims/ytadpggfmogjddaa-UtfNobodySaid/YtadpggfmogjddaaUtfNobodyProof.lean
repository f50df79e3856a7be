/-
  PROVED: the law UtfNobody hands back true at every input, and its arguments read behind the call as they read before.
-/
import Derived.Test.YtadpggfmogjddaaRows
import Derived.Test.YtadpggfmogjddaaUtfW
set_option linter.unusedVariables false
set_option linter.unusedSimpArgs false
open Go Go.Am Go.ChangeShapes Go.WideShapes Go.ChangeAt Go.RowKit
namespace Go.Proofs.Ytadpggfmogjddaa.utfNobody
theorem all (s : ByteArray) : AEnds E 6 0 (startC E 6 [.string s] []) (.bool true) [] := by
  by_cases c1 : 2000 < (slen s : Int)
  · have h := nobody_ok0 s (by unfold nobody_S0; rw [decide_eq_true c1]; simp [awake_S0])
    unfold nobody_t0 at h
    rw [decide_eq_true c1] at h
    exact h
  · have p1 : feed_pre 0 0 0 0 0 false s := ⟨by omega, by omega, by omega⟩
    have p2 : reads_pre s := by unfold reads_pre; omega
    have h := nobody_ok0 s (by unfold nobody_S0; simp [p1, p2, awake_S0])
    unfold nobody_t0 at h
    rw [decide_eq_false c1] at h
    generalize hf : feedL (0, 0, 0, 0) 0 false (toL s) = f at h
    cases hb : f.2.2
    · simp [hb] at h
      exact h
    · simp [hb] at h
      exact h

theorem walk (a0 : ByteArray) (w0 : a0.size ≤ maxLen) (W : World) (args' : Array Value)
    (ha : ∀ ρ, VL (prOf W) (AN []) ρ [.string a0] args'.toList) :
    Calls Try.prog 6 args' W fun e w' => e = .returned (.bool true) ∧ Stays W w' :=
  calls_of_ends (all a0) (by kernel_rfl) rfl ha

theorem own : ownKnob Try.prog.godebug = none := by kernel_rfl
theorem laid : laidOutB Try.prog = true := by kernel_rfl

set_option maxRecDepth 100000 in
theorem lifted (os : Os) (started : os.Started) (H : Type) (enc : TypeId × Value → H) :
    ReturnsInHanded {} Try.checked os 6 .any (Rows.utfNobodySpec.pre6 enc Try.prog Try.f6 Rows.utfNobodyRow.domain false) (Rows.utfNobodySpec.post enc Try.prog Try.f6 false true false false) := by
  refine returnsInHanded_of_change (C := Try.checked) own started (by kernel_rfl) Try.func6
    (ChangeSpec.witness6 (enc := enc) (C := Try.checked) false ⟨#[], #[.string ⟨#[]⟩], []⟩ 8 (by kernel_rfl) (by kernel_rfl) (by kernel_rfl) (by kernel_rfl)) ?_
  intro W base args ds gs before hval0 hW hcnd _
  have hval : ∀ (j : Nat) t v, Try.f6.params[j]? = some t → args[j]? = some v → Value.okWide Try.prog W .any base t v := hval0
  have hW' := hW
  obtain ⟨p, q, hA0, hV, rfl, hfz, hnd⟩ := hW
  have hA : DataW.TrodAll enc Try.prog W 0 (fun _ => true) true Try.f6.params.toList args.toList ds p := hA0
  rw [Try.params6] at hA hval
  obtain ⟨v0, vs0, d0, ds0, p0, q0, hargs, rfl, rfl, h0, r0⟩ := trodAll_cons hA
  obtain ⟨rfl, rfl, rfl⟩ := trodAll_nil r0
  obtain rfl : args = #[v0] := by cases args; simp_all
  obtain ⟨a0, x0, w0⟩ := read_string Try.underlying9 (hval 0 9 v0 rfl rfl) h0
  refine (walk a0 w0 W _ (fun ρ => .cons (x0 _ _) (.nil))).mono fun e W' ⟨he, hg⟩ => ?_
  subst he
  exact ⟨_, rfl, post_law (tb := 4) laid (by rw [Try.params6]; intro t ht; simp only [List.mem_cons, List.not_mem_nil, or_false] at ht; subst ht; exact ⟨by kernel_rfl, by decide +kernel⟩) rfl (by kernel_rfl) Try.underlying4 (by rintro _ rfl; rfl) hW' hg⟩

theorem over : Rows.utfNobodyRow.holds Try.pinned (OpenSpec.ofChange Rows.utfNobodySpec) :=
  OpenClaim.holds_of_wide 6 Try.f6 rfl rfl rfl rfl rfl rfl rfl ⟨rfl, rfl, rfl, rfl, rfl⟩ rfl rfl rfl rfl rfl (by kernel_rfl) Try.func6 (by kernel_rfl)
    (of_decide_eq_true (by kernel_rfl)) (by unfold Func.isWrapper; first | (rw [if_pos (by decide +kernel)]; kernel_rfl) | (rw [if_neg (by decide +kernel)]; exact ⟨rfl, rfl⟩))
    (fun os started H enc _ => lifted os started H enc)

theorem proved : Rows.UtfNobodySaid :=
  over


end Go.Proofs.Ytadpggfmogjddaa.utfNobody
