/-
  PROVED: the law SchedNone hands back true at every input, and its arguments read behind the call as they read before.
-/
import Derived.Test.YtagacgeamobjcaaRows
import Derived.Test.YtagacgeamobjcaaSchedNoneA
set_option linter.unusedVariables false
set_option linter.unusedSimpArgs false
open Go Go.Am Go.ChangeShapes Go.WideShapes Go.ChangeAt Go.RowKit
namespace Go.Proofs.Ytagacgeamobjcaa.schedNone
theorem na1 (x : Int) (y : Int) : goEnd E  K  2000 955 (some [false, false, false, true, false, false, false, false, false, false, false, false, false, false, false, false, false, false, true, false, true, true, false, false, true, false, true, true, true, true, false, true, false, true, false, true, true, false, true, false, false, true, false, false, true, false, true, true]) [] [4] (startC E 6 [.int .i64 x, .int .i64 y] []) = some ([true, true, true, true, true, decide (0 < x) == false, true, isInt IntKind.i64 (Value.int IntKind.i64 x), true, true, true, true, [Value.int IntKind.i64 x].all one, true, true, true, [Value.int IntKind.i64 x].all one, true, true, true, true, true, true, true, true, true, decide (0 < x) == false, true, isInt IntKind.i64 (Value.int IntKind.i64 x), true, true, true, true, [Value.int IntKind.i64 x].all one, true, true, true, true, true, true, true, true, true, true, decide (0 < x) == false, true, isInt IntKind.i64 (Value.int IntKind.i64 x), true, true, true, true, [Value.int IntKind.i64 x].all one, true, true, true, true, true, true, true, true, decide (0 < x) == false, true, isInt IntKind.i64 (Value.int IntKind.i64 x), true, true, true, true, true, [Value.int IntKind.i64 x].all one, true, true, true, true, decide (0 < x) == false, true, isInt IntKind.i64 (Value.int IntKind.i64 x), true, true, true, true, true, [Value.int IntKind.i64 x].all one, true, true, true, true, true, true, true, true, true, true, true, true, true, true, true, true, true, true, true, true, true, true, [Value.int IntKind.i64 (IntKind.i64.wrap (0 - x.tmod 1001))].all one, true, true, true, true, true, true, true, true, true, true, true, true, true, [Value.int IntKind.i64 (IntKind.i64.wrap (0 - x.tmod 1001))].all one, true, true, true, [Value.int IntKind.i64 (IntKind.i64.wrap (0 - x.tmod 1001))].all one, true, true, true, true, true, true, true, true, true, true, true, true, true, [Value.int IntKind.i64 (IntKind.i64.wrap (0 - x.tmod 1001))].all one, true, true, true, true, true, true, true, true, true, true, [Value.int IntKind.i64 (IntKind.i64.wrap (0 - x.tmod 1001))].all one, true, true, true, true, decide (0 < x) == false], Value.bool true, []) := by kernel_rfl

theorem na2 (x : Int) (y : Int) : goEnd E  K  2000 959 (some [true, false, false, true, false, false, false, false, false, false, false, false, false, false, false, false, false, false, true, false, true, true, false, false, true, false, true, true, true, true, false, true, false, true, false, true, true, false, true, false, false, true, false, false, true, false, true, true]) [] [4] (startC E 6 [.int .i64 x, .int .i64 y] []) = some ([true, true, true, true, true, decide (0 < IntKind.i64.wrap (0 - x)) == false, true, isInt IntKind.i64 (Value.int IntKind.i64 (IntKind.i64.wrap (0 - x))), true, true, true, true, [Value.int IntKind.i64 (IntKind.i64.wrap (0 - x))].all one, true, true, true, [Value.int IntKind.i64 (IntKind.i64.wrap (0 - x))].all one, true, true, true, true, true, true, true, true, true, decide (0 < IntKind.i64.wrap (0 - x)) == false, true, isInt IntKind.i64 (Value.int IntKind.i64 (IntKind.i64.wrap (0 - x))), true, true, true, true, [Value.int IntKind.i64 (IntKind.i64.wrap (0 - x))].all one, true, true, true, true, true, true, true, true, true, true, decide (0 < IntKind.i64.wrap (0 - x)) == false, true, isInt IntKind.i64 (Value.int IntKind.i64 (IntKind.i64.wrap (0 - x))), true, true, true, true, [Value.int IntKind.i64 (IntKind.i64.wrap (0 - x))].all one, true, true, true, true, true, true, true, true, decide (0 < IntKind.i64.wrap (0 - x)) == false, true, isInt IntKind.i64 (Value.int IntKind.i64 (IntKind.i64.wrap (0 - x))), true, true, true, true, true, [Value.int IntKind.i64 (IntKind.i64.wrap (0 - x))].all one, true, true, true, true, decide (0 < IntKind.i64.wrap (0 - x)) == false, true, isInt IntKind.i64 (Value.int IntKind.i64 (IntKind.i64.wrap (0 - x))), true, true, true, true, true, [Value.int IntKind.i64 (IntKind.i64.wrap (0 - x))].all one, true, true, true, true, true, true, true, true, true, true, true, true, true, true, true, true, true, true, true, true, true, true, [Value.int IntKind.i64 (IntKind.i64.wrap (0 - (IntKind.i64.wrap (0 - x)).tmod 1001))].all one, true, true, true, true, true, true, true, true, true, true, true, true, true, [Value.int IntKind.i64 (IntKind.i64.wrap (0 - (IntKind.i64.wrap (0 - x)).tmod 1001))].all one, true, true, true, [Value.int IntKind.i64 (IntKind.i64.wrap (0 - (IntKind.i64.wrap (0 - x)).tmod 1001))].all one, true, true, true, true, true, true, true, true, true, true, true, true, true, [Value.int IntKind.i64 (IntKind.i64.wrap (0 - (IntKind.i64.wrap (0 - x)).tmod 1001))].all one, true, true, true, true, true, true, true, true, true, true, [Value.int IntKind.i64 (IntKind.i64.wrap (0 - (IntKind.i64.wrap (0 - x)).tmod 1001))].all one, true, true, true, true, decide (0 < x) == true], Value.bool true, []) := by kernel_rfl

theorem walk (x : Int) (hx : (Lit.int .i64 x).wf = true) (y : Int) (_ : (Lit.int .i64 y).wf = true) (W : World) (args' : Array Value) (ha : ∀ ρ, VL (prOf W) (AN []) ρ [.int .i64 x, .int .i64 y] args'.toList) :
    Calls Try.prog 6 args' W fun e w' => e = .returned (.bool true) ∧ Stays W w' := by
  have hx2 : x ≤ 9223372036854775807 := by
    have h := hx
    simp only [Lit.wf, Bool.and_eq_true, decide_eq_true_eq] at h
    exact h.2
  clear hx
  by_cases c0 : 0 < x
  · have e : IntKind.i64.wrap (0 - x) = 0 - x := wrap64_in (by omega) (by omega)
    have h := na2 x y
    rw [e] at h
    refine calls_of_end K_ok (by kernel_rfl) (Gets.refl _) h ?_ (by kernel_rfl) rfl ha
    clear ha h
    simp [AllT.cons, AllT.nil, one, isInt]
    omega
  · refine calls_of_end K_ok (by kernel_rfl) (Gets.refl _) (na1 x y) ?_ (by kernel_rfl) rfl ha
    clear ha
    simp [AllT.cons, AllT.nil, one, isInt]
    omega

theorem own : ownKnob Try.prog.godebug = none := by kernel_rfl
theorem laid : laidOutB Try.prog = true := by kernel_rfl

set_option maxRecDepth 100000 in
theorem lifted (os : Os) (started : os.Started) (H : Type) (enc : TypeId × Value → H) :
    ReturnsInHanded {} Try.checked os 6 .any (Rows.schedNoneSpec.pre6 enc Try.prog Try.f6 Rows.schedNoneRow.domain false) (Rows.schedNoneSpec.post enc Try.prog Try.f6 false true false false) := by
  refine returnsInHanded_of_change (C := Try.checked) own started (by kernel_rfl) Try.func6
    (ChangeSpec.witness6 (enc := enc) (C := Try.checked) false ⟨#[], #[.int .i64 0, .int .i64 0], []⟩ 8 (by kernel_rfl) (by kernel_rfl) (by kernel_rfl) (by kernel_rfl)) ?_
  intro W base args ds gs before hval0 hW hcnd _
  have hval : ∀ (j : Nat) t v, Try.f6.params[j]? = some t → args[j]? = some v → Value.okWide Try.prog W .any base t v := hval0
  have hW' := hW
  obtain ⟨p, q, hA0, hV, rfl, hfz, hnd⟩ := hW
  have hA : DataW.TrodAll enc Try.prog W 0 (fun _ => true) true Try.f6.params.toList args.toList ds p := hA0
  rw [Try.params6] at hA hval
  obtain ⟨v0, vs0, d0, ds0, p0, q0, hargs, rfl, rfl, h0, r0⟩ := trodAll_cons hA
  obtain ⟨v1, vs1, d1, ds1, p1, q1, rfl, rfl, rfl, h1, r1⟩ := trodAll_cons r0
  obtain ⟨rfl, rfl, rfl⟩ := trodAll_nil r1
  obtain rfl : args = #[v0, v1] := by cases args; simp_all
  obtain ⟨a0, x0, w0⟩ := read_int Try.underlying3 (hval 0 3 v0 rfl rfl) h0
  obtain ⟨a1, x1, w1⟩ := read_int Try.underlying3 (hval 1 3 v1 rfl rfl) h1
  refine (walk a0 w0 a1 w1 W _ (fun ρ => .cons (x0 _ _) (.cons (x1 _ _) (.nil)))).mono fun e W' ⟨he, hg⟩ => ?_
  subst he
  exact ⟨_, rfl, post_law (tb := 4) laid (by rw [Try.params6]; intro t ht; simp only [List.mem_cons, List.not_mem_nil, or_false] at ht; rcases ht with rfl | rfl <;> exact ⟨by kernel_rfl, by decide +kernel⟩) rfl (by kernel_rfl) Try.underlying4 (by rintro _ rfl; rfl) hW' hg⟩

theorem over : Rows.schedNoneRow.holds Try.pinned (OpenSpec.ofChange Rows.schedNoneSpec) :=
  OpenClaim.holds_of_wide 6 Try.f6 rfl rfl rfl rfl rfl rfl rfl ⟨rfl, rfl, rfl, rfl, rfl⟩ rfl rfl rfl rfl rfl (by kernel_rfl) Try.func6 (by kernel_rfl)
    (of_decide_eq_true (by kernel_rfl)) (by unfold Func.isWrapper; first | (rw [if_pos (by decide +kernel)]; kernel_rfl) | (rw [if_neg (by decide +kernel)]; exact ⟨rfl, rfl⟩))
    (fun os started H enc _ => lifted os started H enc)

theorem proved : Rows.SchedNoneSaid :=
  over


end Go.Proofs.Ytagacgeamobjcaa.schedNone
