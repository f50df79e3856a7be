/-
  PROVED: the law WsconnNobody hands back true at every input, and its arguments read behind the call as they read before.
-/
import Derived.Test.YtfpnjpbdaniomaaRows
import Derived.Test.YtfpnjpbdaniomaaWsconnNobodyA
set_option linter.unusedVariables false
set_option linter.unusedSimpArgs false
open Go Go.Am Go.ChangeShapes Go.WideShapes Go.ChangeAt Go.RowKit
namespace Go.Proofs.Ytfpnjpbdaniomaa.wsconnNobody
theorem na1 (x : ByteArray) : goEnd E  K  2000 567 (some [false, true, true, false, false, true, false, false, true, true, false, false, true, false, true, true, true, true, false, false, true, true, true, true, true, true, false, true, true, true, true, false, true, false, true, false, true]) [] [2] (startC E 6 [.string x] []) = some ([true, true, true, true, true, true, true, true, true, true, true, true, true, true, true, true, true, true, true, true, true, true, true, true, true, true, true, true, true, true, true, true, true, true, true, true, true, true, true, true, true, true, true, true, true, true, true, true, true, true, true, true, true, true, true, true, true, true, true, true, true, true, true, decide (1000 < (↑(slen x) : Int)) == false], Value.bool true, []) := by kernel_rfl

theorem na2 (x : ByteArray) : goEnd E  K  2000 571 (some [true, true, true, false, false, true, false, false, true, true, false, false, true, false, true, true, true, true, false, false, true, true, true, true, true, true, false, true, true, true, true, false, true, false, true, false, true]) [] [2] (startC E 6 [.string x] []) = some ([true, true, true, true, true, true, true, true, true, true, true, true, true, true, true, true, true, true, true, true, true, true, true, true, true, true, true, true, true, true, true, true, true, true, true, true, true, true, true, true, true, true, true, true, true, true, true, true, true, true, true, true, true, true, true, true, true, true, true, true, true, true, true, true, true, decide (1000 ≤ (↑(slen x) : Int)), decide (1000 < (↑(slen x) : Int)) == true], Value.bool true, []) := by kernel_rfl

theorem walk (x : ByteArray) (_ : x.size ≤ maxLen) (W : World) (args' : Array Value) (ha : ∀ ρ, VL (prOf W) (AN []) ρ [.string x] args'.toList) :
    Calls Try.prog 6 args' W fun e w' => e = .returned (.bool true) ∧ Stays W w' := by
  rcases Bool.eq_false_or_eq_true (decide (1000 < (↑(slen x) : Int))) with c0 | c0
  all_goals (first | (exfalso; clear ha; simp at *; omega) | (refine calls_of_end K_ok (by kernel_rfl) (Gets.refl _) (na1 x) ?_ (by kernel_rfl) rfl ha; clear ha; ((try simp [AllT.cons, AllT.nil, flat, flat_int, all_flat_int, one, one_int, isInt, isBool, isStr, Am.toBool] at *) <;> (first | done | omega | (simp [*]; done) | (simp [*]; omega)))) | (refine calls_of_end K_ok (by kernel_rfl) (Gets.refl _) (na2 x) ?_ (by kernel_rfl) rfl ha; clear ha; ((try simp [AllT.cons, AllT.nil, flat, flat_int, all_flat_int, one, one_int, isInt, isBool, isStr, Am.toBool] at *) <;> (first | done | omega | (simp [*]; done) | (simp [*]; omega)))))

theorem own : ownKnob Try.prog.godebug = none := by kernel_rfl
theorem laid : laidOutB Try.prog = true := by kernel_rfl

set_option maxRecDepth 100000 in
theorem lifted (os : Os) (started : os.Started) (H : Type) (enc : TypeId × Value → H) :
    ReturnsInHanded {} Try.checked os 6 .any (Rows.wsconnNobodySpec.pre6 enc Try.prog Try.f6 Rows.wsconnNobodyRow.domain false) (Rows.wsconnNobodySpec.post enc Try.prog Try.f6 false true false false) := by
  refine returnsInHanded_of_change (C := Try.checked) own started (by kernel_rfl) Try.func6
    (ChangeSpec.witness6 (enc := enc) (C := Try.checked) false ⟨#[], #[.string ⟨#[]⟩], []⟩ 8 (by kernel_rfl) (by kernel_rfl) (by kernel_rfl) (by kernel_rfl)) ?_
  intro W base args ds gs before hval0 hW hcnd _
  have hval : ∀ (j : Nat) t v, Try.f6.params[j]? = some t → args[j]? = some v → Value.okWide Try.prog W .any base t v := hval0
  have hW' := hW
  obtain ⟨p, q, hA0, hV, rfl, hfz, hnd⟩ := hW
  have hA : DataW.TrodAll enc Try.prog W 0 (fun _ => true) true Try.f6.params.toList args.toList ds p := hA0
  rw [Try.params6] at hA hval
  obtain ⟨v0, vs0, d0, ds0, p0, q0, hargs, rfl, rfl, h0, r0⟩ := trodAll_cons hA
  obtain ⟨rfl, rfl, rfl⟩ := trodAll_nil r0
  obtain rfl : args = #[v0] := by cases args; simp_all
  obtain ⟨a0, x0, w0⟩ := read_string Try.underlying9 (hval 0 9 v0 rfl rfl) h0
  refine (walk a0 w0 W _ (fun ρ => .cons (x0 _ _) (.nil))).mono fun e W' ⟨he, hg⟩ => ?_
  subst he
  exact ⟨_, rfl, post_law (tb := 4) laid (by rw [Try.params6]; intro t ht; simp only [List.mem_cons, List.not_mem_nil, or_false] at ht; subst ht; exact ⟨by kernel_rfl, by decide +kernel⟩) rfl (by kernel_rfl) Try.underlying4 (by rintro _ rfl; rfl) hW' hg⟩

theorem over : Rows.wsconnNobodyRow.holds Try.pinned (OpenSpec.ofChange Rows.wsconnNobodySpec) :=
  OpenClaim.holds_of_wide 6 Try.f6 rfl rfl rfl rfl rfl rfl rfl ⟨rfl, rfl, rfl, rfl, rfl⟩ rfl rfl rfl rfl rfl (by kernel_rfl) Try.func6 (by kernel_rfl)
    (of_decide_eq_true (by kernel_rfl)) (by unfold Func.isWrapper; first | (rw [if_pos (by decide +kernel)]; kernel_rfl) | (rw [if_neg (by decide +kernel)]; exact ⟨rfl, rfl⟩))
    (fun os started H enc _ => lifted os started H enc)

theorem proved : Rows.WsconnNobodySaid :=
  over


end Go.Proofs.Ytfpnjpbdaniomaa.wsconnNobody
