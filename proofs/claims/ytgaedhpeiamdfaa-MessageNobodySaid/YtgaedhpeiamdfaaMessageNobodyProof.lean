/-
  PROVED: the law MessageNobody hands back true at every input, and its arguments read behind the call as they read before.
-/
import Derived.Test.YtgaedhpeiamdfaaRows
import Derived.Test.YtgaedhpeiamdfaaMessageNobodyA
set_option linter.unusedVariables false
set_option linter.unusedSimpArgs false
open Go Go.Am Go.ChangeShapes Go.WideShapes Go.ChangeAt Go.RowKit
namespace Go.Proofs.Ytgaedhpeiamdfaa.messageNobody
theorem na1 (x : Int) (y : ByteArray) : goEnd E  K  2000 612 (some [false, true, true, false, true, true, true, true, true, true, true, true, true, true, true, true, true, true, false, false, true, true, true, true, true, true, false, true, true, false, true, true, true, true, true, false, true, true, false, false, false, true, false, true, true, true, true]) [] [4] (startC E 4 [.int .i64 x, .string y] []) = some ([true, true, true, true, true, true, true, true, true, true, true, true, true, true, true, true, true, true, true, true, true, true, true, true, true, true, true, true, true, true, true, true, true, true, true, true, true, true, true, true, true, true, true, true, true, true, true, true, true, true, true, true, true, true, true, true, true, true, true, true, true, true, true, true, true, true, true, true, true, true, true, true, true, true, true, true, true, true, true, true, true, true, true, true, true, true, true, true, true, true, true, true, true, true, true, true, true, true, true, true, true, true, decide (1000 < (↑(slen y) : Int)) == false], Value.bool true, []) := by kernel_rfl

theorem na2 (x : Int) (y : ByteArray) : goEnd E  K  2000 616 (some [true, true, true, false, true, true, true, true, true, true, true, true, true, true, true, true, true, true, false, false, true, true, true, true, true, true, false, true, true, false, true, true, true, true, true, false, true, true, false, false, false, true, false, true, true, true, true]) [] [4] (startC E 4 [.int .i64 x, .string y] []) = some ([true, true, true, true, true, true, true, true, true, true, true, true, true, true, true, true, true, true, true, true, true, true, true, true, true, true, true, true, true, true, true, true, true, true, true, true, true, true, true, true, true, true, true, true, true, true, true, true, true, true, true, true, true, true, true, true, true, true, true, true, true, true, true, true, true, true, true, true, true, true, true, true, true, true, true, true, true, true, true, true, true, true, true, true, true, true, true, true, true, true, true, true, true, true, true, true, true, true, true, true, true, true, true, true, decide (1000 ≤ (↑(slen y) : Int)), decide (1000 < (↑(slen y) : Int)) == true], Value.bool true, []) := by kernel_rfl

theorem walk (x : Int) (_ : (Lit.int .i64 x).wf = true) (y : ByteArray) (_ : y.size ≤ maxLen) (W : World) (args' : Array Value) (ha : ∀ ρ, VL (prOf W) (AN []) ρ [.int .i64 x, .string y] args'.toList) :
    Calls Try.prog 4 args' W fun e w' => e = .returned (.bool true) ∧ Stays W w' := by
  rcases Bool.eq_false_or_eq_true (decide (1000 < (↑(slen y) : Int))) with c0 | c0
  all_goals (first | (exfalso; clear ha; simp at *; omega) | (refine calls_of_end K_ok (by kernel_rfl) (Gets.refl _) (na1 x y) ?_ (by kernel_rfl) rfl ha; clear ha; ((try simp [AllT.cons, AllT.nil, flat, flat_int, all_flat_int, one, one_int, isInt, isBool, isStr, Am.toBool] at *) <;> (first | done | omega | (simp [*]; done) | (simp [*]; omega)))) | (refine calls_of_end K_ok (by kernel_rfl) (Gets.refl _) (na2 x y) ?_ (by kernel_rfl) rfl ha; clear ha; ((try simp [AllT.cons, AllT.nil, flat, flat_int, all_flat_int, one, one_int, isInt, isBool, isStr, Am.toBool] at *) <;> (first | done | omega | (simp [*]; done) | (simp [*]; omega)))))

theorem own : ownKnob Try.prog.godebug = none := by kernel_rfl
theorem laid : laidOutB Try.prog = true := by kernel_rfl

set_option maxRecDepth 100000 in
theorem lifted (os : Os) (started : os.Started) (H : Type) (enc : TypeId × Value → H) :
    ReturnsInHanded {} Try.checked os 4 .any (Rows.messageNobodySpec.pre6 enc Try.prog Try.f4 Rows.messageNobodyRow.domain false) (Rows.messageNobodySpec.post enc Try.prog Try.f4 false true false false) := by
  refine returnsInHanded_of_change (C := Try.checked) own started (by kernel_rfl) Try.func4
    (ChangeSpec.witness6 (enc := enc) (C := Try.checked) false ⟨#[], #[.int .i64 0, .string ⟨#[]⟩], []⟩ 8 (by kernel_rfl) (by kernel_rfl) (by kernel_rfl) (by kernel_rfl)) ?_
  intro W base args ds gs before hval0 hW hcnd _
  have hval : ∀ (j : Nat) t v, Try.f4.params[j]? = some t → args[j]? = some v → Value.okWide Try.prog W .any base t v := hval0
  have hW' := hW
  obtain ⟨p, q, hA0, hV, rfl, hfz, hnd⟩ := hW
  have hA : DataW.TrodAll enc Try.prog W 0 (fun _ => true) true Try.f4.params.toList args.toList ds p := hA0
  rw [Try.params4] at hA hval
  obtain ⟨v0, vs0, d0, ds0, p0, q0, hargs, rfl, rfl, h0, r0⟩ := trodAll_cons hA
  obtain ⟨v1, vs1, d1, ds1, p1, q1, rfl, rfl, rfl, h1, r1⟩ := trodAll_cons r0
  obtain ⟨rfl, rfl, rfl⟩ := trodAll_nil r1
  obtain rfl : args = #[v0, v1] := by cases args; simp_all
  obtain ⟨a0, x0, w0⟩ := read_int Try.underlying3 (hval 0 3 v0 rfl rfl) h0
  obtain ⟨a1, x1, w1⟩ := read_string Try.underlying9 (hval 1 9 v1 rfl rfl) h1
  refine (walk a0 w0 a1 w1 W _ (fun ρ => .cons (x0 _ _) (.cons (x1 _ _) (.nil)))).mono fun e W' ⟨he, hg⟩ => ?_
  subst he
  exact ⟨_, rfl, post_law (tb := 4) laid (by rw [Try.params4]; intro t ht; simp only [List.mem_cons, List.not_mem_nil, or_false] at ht; rcases ht with rfl | rfl <;> exact ⟨by kernel_rfl, by decide +kernel⟩) rfl (by kernel_rfl) Try.underlying4 (by rintro _ rfl; rfl) hW' hg⟩

theorem over : Rows.messageNobodyRow.holds Try.pinned (OpenSpec.ofChange Rows.messageNobodySpec) :=
  OpenClaim.holds_of_wide 4 Try.f4 rfl rfl rfl rfl rfl rfl rfl ⟨rfl, rfl, rfl, rfl, rfl⟩ rfl rfl rfl rfl rfl (by kernel_rfl) Try.func4 (by kernel_rfl)
    (of_decide_eq_true (by kernel_rfl)) (by unfold Func.isWrapper; first | (rw [if_pos (by decide +kernel)]; kernel_rfl) | (rw [if_neg (by decide +kernel)]; exact ⟨rfl, rfl⟩))
    (fun os started H enc _ => lifted os started H enc)

theorem proved : Rows.MessageNobodySaid :=
  over


end Go.Proofs.Ytgaedhpeiamdfaa.messageNobody
