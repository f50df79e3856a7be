/-
  PROVED: the law SchedRounds hands back true at every input, and its arguments read behind the call as they read before.
-/
import Derived.Test.YtagacgeamobjcaaRows
import Derived.Test.YtagacgeamobjcaaSchedK
import Derived.Test.YtagacgeamobjcaaAmAgg
import Derived.Test.YtagacgeamobjcaaAmRows
import Derived.Test.YtagacgeamobjcaaAmRows2
set_option linter.unusedVariables false
set_option linter.unusedSimpArgs false
open Go Go.Am Go.ChangeShapes Go.WideShapes Go.ChangeAt Go.RowKit
namespace Go.Proofs.Ytagacgeamobjcaa.schedRounds
theorem safe : wakesI_S0 := by
 unfold wakesI_S0
 first | trivial | (simp; done) | (constructor <;> trivial)
theorem all (on : List Bool) (rr : List (List (List Value))) (u : ∀ rows ∈ rr, rows.length ≤ maxLen ∧ ∀ r ∈ rows, AllL [.int .u8, .bool] r) (most : Int) (_ : -9223372036854775808 ≤ most ∧ most ≤ 9223372036854775807) :
  AEnds E 4 0 (startC E 4 [.iface on.length (.agg (on.map Value.bool).toArray), .iface rr.length (.agg (rr.map rowV).toArray), .int .i64 most] []) (.bool true) [] := rounds_all safe on rr u most

theorem walk (a0 : List Bool) (w0 : a0.length ≤ maxLen) (a1 : List (List (List Value))) (w1 : a1.length ≤ maxLen) (u1 : ∀ rows ∈ a1, rows.length ≤ maxLen ∧ ∀ r ∈ rows, AllL [.int .u8, .bool] r) (a2 : Int) (w2 : (Lit.int .i64 a2).wf = true) (W : World) (args' : Array Value)
  (ha : ∀ ρ, VL (prOf W) (AN []) ρ [.iface a0.length (.agg (a0.map Value.bool).toArray), .iface a1.length (.agg (a1.map rowV).toArray), .int .i64 a2] args'.toList) :
  Calls Try.prog 4 args' W fun e w' => e = .returned (.bool true) ∧ Stays W w' :=
 calls_of_ends (all a0 a1 u1 a2 (by simp [Lit.wf, IntKind.min, IntKind.max, IntKind.bits, IntKind.signed] at w2; omega)) (by kernel_rfl) rfl ha

theorem own : ownKnob Try.prog.godebug = none := by kernel_rfl
theorem laid : laidOutB Try.prog = true := by kernel_rfl

set_option maxRecDepth 100000 in
theorem lifted (os : Os) (started : os.Started) (H : Type) (enc : TypeId × Value → H) :
  ReturnsInHanded {} Try.checked os 4 .any (Rows.schedRoundsSpec.pre6 enc Try.prog Try.f4 Rows.schedRoundsRow.domain false) (Rows.schedRoundsSpec.post enc Try.prog Try.f4 false true false false) := by
 refine returnsInHanded_of_change (C := Try.checked) own started (by kernel_rfl) Try.func4
  (ChangeSpec.witness6 (enc := enc) (C := Try.checked) false ⟨#[], #[.slice none 0 0, .slice none 0 0, .int .i64 0], []⟩ 8 (by kernel_rfl) (by kernel_rfl) (by kernel_rfl) (by kernel_rfl)) ?_
 intro W base args ds gs before hval0 hW hcnd _
 have hval : ∀ (j : Nat) t v, Try.f4.params[j]? = some t → args[j]? = some v → Value.okWide Try.prog W .any base t v := hval0
 have hW' := hW
 obtain ⟨p, q, hA0, hV, rfl, hfz, hnd⟩ := hW
 have hA : DataW.TrodAll enc Try.prog W 0 (fun _ => true) true Try.f4.params.toList args.toList ds p := hA0
 rw [Try.params4] at hA hval
 obtain ⟨v0, vs0, d0, ds0, p0, q0, hargs, rfl, rfl, h0, r0⟩ := trodAll_cons hA
 obtain ⟨v1, vs1, d1, ds1, p1, q1, rfl, rfl, rfl, h1, r1⟩ := trodAll_cons r0
 obtain ⟨v2, vs2, d2, ds2, p2, q2, rfl, rfl, rfl, h2, r2⟩ := trodAll_cons r1
 obtain ⟨rfl, rfl, rfl⟩ := trodAll_nil r2
 obtain rfl : args = #[v0, v1, v2] := by cases args; simp_all
 obtain ⟨a0, x0, w0⟩ := read_bools Try.underlying22 Try.underlying4 (by kernel_rfl) (hval 0 22 v0 rfl rfl) h0
 obtain ⟨a1, x1, w1, u1⟩ := read_rows2 (ls := [.int .u8, .bool]) Try.underlying29 Try.underlying30 (by kernel_rfl) (by kernel_rfl) (by decide) (trodL_struct Try.underlying32 (by kernel_rfl) ⟨[.int .u8], _, rfl, rfl, by kernel_rfl, trodL_int Try.underlying5, [.bool], _, rfl, rfl, by kernel_rfl, trodL_bool Try.underlying4, rfl⟩) (hval 1 29 v1 rfl rfl) h1
 obtain ⟨a2, x2, w2⟩ := read_int Try.underlying3 (hval 2 3 v2 rfl rfl) h2
 refine (walk a0 w0 a1 w1 u1 a2 w2 W _ (fun ρ => .cons (x0 _ _) (.cons (x1 _ _) (.cons (x2 _ _) (.nil))))).mono fun e W' ⟨he, hg⟩ => ?_
 subst he
 exact ⟨_, rfl, post_law (tb := 4) laid (by rw [Try.params4]; intro t ht; simp only [List.mem_cons, List.not_mem_nil, or_false] at ht; rcases ht with rfl | rfl | rfl <;> exact ⟨by kernel_rfl, by decide +kernel⟩) rfl (by kernel_rfl) Try.underlying4 (by rintro _ rfl; rfl) hW' hg⟩

theorem over : Rows.schedRoundsRow.holds Try.pinned (OpenSpec.ofChange Rows.schedRoundsSpec) :=
 OpenClaim.holds_of_wide 4 Try.f4 rfl rfl rfl rfl rfl rfl rfl ⟨rfl, rfl, rfl, rfl, rfl⟩ rfl rfl rfl rfl rfl (by kernel_rfl) Try.func4 (by kernel_rfl)
  (of_decide_eq_true (by kernel_rfl)) (by unfold Func.isWrapper; first | (rw [if_pos (by decide +kernel)]; kernel_rfl) | (rw [if_neg (by decide +kernel)]; exact ⟨rfl, rfl⟩))
  (fun os started H enc _ => lifted os started H enc)

theorem proved : Rows.SchedRoundsSaid :=
 over


end Go.Proofs.Ytagacgeamobjcaa.schedRounds
