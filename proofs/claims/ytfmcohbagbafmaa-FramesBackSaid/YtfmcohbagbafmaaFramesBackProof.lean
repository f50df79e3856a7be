/-
  PROVED: the law FramesBack hands back true at every input, and its arguments read behind the call as they read before.
-/
import Derived.Test.YtfmcohbagbafmaaRows
import Derived.Test.YtfmcohbagbafmaaFramesXa
set_option linter.unusedVariables false
set_option linter.unusedSimpArgs false
open Go Go.Am Go.ChangeShapes Go.WideShapes Go.ChangeAt Go.RowKit
namespace Go.Proofs.Ytfmcohbagbafmaa.framesBack
theorem all (a : List (List Value)) (u : ∀ r ∈ a, AllL [.bool, .int .i64, .int .i64, .bool, .int .u8, .int .u8, .int .u8, .int .u8, .str] r) (m : Bool) :
  AEnds E 9 0 (startC E 9 [.iface a.length (.agg a.flatten.toArray), .bool m] []) (.bool true) [] := back_all a u m

theorem walk (a0 : List (List Value)) (w0 : a0.length ≤ maxLen) (u0 : ∀ r ∈ a0, AllL [.bool, .int .i64, .int .i64, .bool, .int .u8, .int .u8, .int .u8, .int .u8, .str] r) (a1 : Bool) (W : World) (args' : Array Value)
  (ha : ∀ ρ, VL (prOf W) (AN []) ρ [.iface a0.length (.agg a0.flatten.toArray), .bool a1] args'.toList) :
  Calls Try.prog 9 args' W fun e w' => e = .returned (.bool true) ∧ Stays W w' :=
 calls_of_ends (all a0 u0 a1) (by kernel_rfl) rfl ha

theorem own : ownKnob Try.prog.godebug = none := by kernel_rfl
theorem laid : laidOutB Try.prog = true := by kernel_rfl

set_option maxRecDepth 100000 in
theorem lifted (os : Os) (started : os.Started) (H : Type) (enc : TypeId × Value → H) :
  ReturnsInHanded {} Try.checked os 9 .any (Rows.framesBackSpec.pre6 enc Try.prog Try.f9 Rows.framesBackRow.domain false) (Rows.framesBackSpec.post enc Try.prog Try.f9 false true false false) := by
 refine returnsInHanded_of_change (C := Try.checked) own started (by kernel_rfl) Try.func9
  (ChangeSpec.witness6 (enc := enc) (C := Try.checked) false ⟨#[], #[.slice none 0 0, .bool false], []⟩ 8 (by kernel_rfl) (by kernel_rfl) (by kernel_rfl) (by kernel_rfl)) ?_
 intro W base args ds gs before hval0 hW hcnd _
 have hval : ∀ (j : Nat) t v, Try.f9.params[j]? = some t → args[j]? = some v → Value.okWide Try.prog W .any base t v := hval0
 have hW' := hW
 obtain ⟨p, q, hA0, hV, rfl, hfz, hnd⟩ := hW
 have hA : DataW.TrodAll enc Try.prog W 0 (fun _ => true) true Try.f9.params.toList args.toList ds p := hA0
 rw [Try.params9] at hA hval
 obtain ⟨v0, vs0, d0, ds0, p0, q0, hargs, rfl, rfl, h0, r0⟩ := trodAll_cons hA
 obtain ⟨v1, vs1, d1, ds1, p1, q1, rfl, rfl, rfl, h1, r1⟩ := trodAll_cons r0
 obtain ⟨rfl, rfl, rfl⟩ := trodAll_nil r1
 obtain rfl : args = #[v0, v1] := by cases args; simp_all
 obtain ⟨a0, x0, w0, u0⟩ := read_rows (ls := [.bool, .int .i64, .int .i64, .bool, .int .u8, .int .u8, .int .u8, .int .u8, .str]) Try.underlying51 (by kernel_rfl) (by decide) (trodL_struct Try.underlying54 (by kernel_rfl) ⟨[.bool], _, rfl, rfl, by kernel_rfl, trodL_bool Try.underlying4, [.int .i64], _, rfl, rfl, by kernel_rfl, trodL_int Try.underlying3, [.int .i64], _, rfl, rfl, by kernel_rfl, trodL_int Try.underlying3, [.bool], _, rfl, rfl, by kernel_rfl, trodL_bool Try.underlying4, (List.replicate 4 [.int .u8]).flatten, _, rfl, rfl, by kernel_rfl, trodL_arr Try.underlying43 (by kernel_rfl) (by kernel_rfl) (trodL_int Try.underlying5), [.str], _, rfl, rfl, by kernel_rfl, trodL_str Try.underlying9, rfl⟩) (hval 0 51 v0 rfl rfl) h0
 obtain ⟨a1, x1⟩ := read_bool (H := H) (d := d1) (p := p1) Try.underlying4 (hval 1 4 v1 rfl rfl)
 refine (walk a0 w0 u0 a1 W _ (fun ρ => .cons (x0 _ _) (.cons (x1 _ _) (.nil)))).mono fun e W' ⟨he, hg⟩ => ?_
 subst he
 exact ⟨_, rfl, post_law (tb := 4) laid (by rw [Try.params9]; intro t ht; simp only [List.mem_cons, List.not_mem_nil, or_false] at ht; rcases ht with rfl | rfl <;> exact ⟨by kernel_rfl, by decide +kernel⟩) rfl (by kernel_rfl) Try.underlying4 (by rintro _ rfl; rfl) hW' hg⟩

theorem over : Rows.framesBackRow.holds Try.pinned (OpenSpec.ofChange Rows.framesBackSpec) :=
 OpenClaim.holds_of_wide 9 Try.f9 rfl rfl rfl rfl rfl rfl rfl ⟨rfl, rfl, rfl, rfl, rfl⟩ rfl rfl rfl rfl rfl (by kernel_rfl) Try.func9 (by kernel_rfl)
  (of_decide_eq_true (by kernel_rfl)) (by unfold Func.isWrapper; first | (rw [if_pos (by decide +kernel)]; kernel_rfl) | (rw [if_neg (by decide +kernel)]; exact ⟨rfl, rfl⟩))
  (fun os started H enc _ => lifted os started H enc)

theorem proved : Rows.FramesBackSaid :=
 over


end Go.Proofs.Ytfmcohbagbafmaa.framesBack
