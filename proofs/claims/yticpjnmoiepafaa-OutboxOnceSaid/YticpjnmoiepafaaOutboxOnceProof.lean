/-
  PROVED: the law OutboxOnce hands back true at every input, and its arguments read behind the call as they read before.
-/
import Derived.Test.YticpjnmoiepafaaRows
import Derived.Test.YticpjnmoiepafaaOutboxOb
import Derived.Test.YticpjnmoiepafaaOutboxM
set_option linter.unusedVariables false
set_option linter.unusedSimpArgs false
open Go Go.Am Go.ChangeShapes Go.WideShapes Go.ChangeAt Go.RowKit
namespace Go.Proofs.Yticpjnmoiepafaa.outboxOnce
theorem all (q : Int) (hq : -9223372036854775808 ≤ q ∧ q ≤ 9223372036854775807) (A : List (List Value)) (hA : ∀ r ∈ A, AllL [.int .u8, .int .u8, .str] r) : AEnds E 4 0 (startC E 4 [.int .i64 q, .iface A.length (.agg A.flatten.toArray)] []) (.bool true) [] := by
 obtain ⟨l, rfl, hl⟩ := rows_acts hA
 rw [List.length_map]
 exact once_all (q := q) (l := l) hl

theorem walk (a0 : Int) (w0 : (Lit.int .i64 a0).wf = true) (a1 : List (List Value)) (w1 : a1.length ≤ maxLen) (u1 : ∀ r ∈ a1, AllL [.int .u8, .int .u8, .str] r) (W : World) (args' : Array Value)
  (ha : ∀ ρ, VL (prOf W) (AN []) ρ [.int .i64 a0, .iface a1.length (.agg a1.flatten.toArray)] args'.toList) :
  Calls Try.prog 4 args' W fun e w' => e = .returned (.bool true) ∧ Stays W w' :=
 calls_of_ends (all a0 (by simp [Lit.wf, IntKind.min, IntKind.max, IntKind.bits, IntKind.signed] at w0; omega) a1 u1) (by kernel_rfl) rfl ha

theorem own : ownKnob Try.prog.godebug = none := by kernel_rfl
theorem laid : laidOutB Try.prog = true := by kernel_rfl

set_option maxRecDepth 100000 in
theorem lifted (os : Os) (started : os.Started) (H : Type) (enc : TypeId × Value → H) :
  ReturnsInHanded {} Try.checked os 4 .any (Rows.outboxOnceSpec.pre6 enc Try.prog Try.f4 Rows.outboxOnceRow.domain false) (Rows.outboxOnceSpec.post enc Try.prog Try.f4 false true false false) := by
 refine returnsInHanded_of_change (C := Try.checked) own started (by kernel_rfl) Try.func4
  (ChangeSpec.witness6 (enc := enc) (C := Try.checked) false ⟨#[], #[.int .i64 0, .slice none 0 0], []⟩ 8 (by kernel_rfl) (by kernel_rfl) (by kernel_rfl) (by kernel_rfl)) ?_
 intro W base args ds gs before hval0 hW hcnd _
 have hval : ∀ (j : Nat) t v, Try.f4.params[j]? = some t → args[j]? = some v → Value.okWide Try.prog W .any base t v := hval0
 have hW' := hW
 obtain ⟨p, q, hA0, hV, rfl, hfz, hnd⟩ := hW
 have hA : DataW.TrodAll enc Try.prog W 0 (fun _ => true) true Try.f4.params.toList args.toList ds p := hA0
 rw [Try.params4] at hA hval
 obtain ⟨v0, vs0, d0, ds0, p0, q0, hargs, rfl, rfl, h0, r0⟩ := trodAll_cons hA
 obtain ⟨v1, vs1, d1, ds1, p1, q1, rfl, rfl, rfl, h1, r1⟩ := trodAll_cons r0
 obtain ⟨rfl, rfl, rfl⟩ := trodAll_nil r1
 obtain rfl : args = #[v0, v1] := by cases args; simp_all
 obtain ⟨a0, x0, w0⟩ := read_int Try.underlying3 (hval 0 3 v0 rfl rfl) h0
 obtain ⟨a1, x1, w1, u1⟩ := read_rows (ls := [.int .u8, .int .u8, .str]) Try.underlying35 (by kernel_rfl) (by decide) (trodL_struct Try.underlying39 (by kernel_rfl) ⟨[.int .u8], _, rfl, rfl, by kernel_rfl, trodL_int Try.underlying5, [.int .u8], _, rfl, rfl, by kernel_rfl, trodL_int Try.underlying5, [.str], _, rfl, rfl, by kernel_rfl, trodL_str Try.underlying9, rfl⟩) (hval 1 35 v1 rfl rfl) h1
 refine (walk a0 w0 a1 w1 u1 W _ (fun ρ => .cons (x0 _ _) (.cons (x1 _ _) (.nil)))).mono fun e W' ⟨he, hg⟩ => ?_
 subst he
 exact ⟨_, rfl, post_law (tb := 4) laid (by rw [Try.params4]; intro t ht; simp only [List.mem_cons, List.not_mem_nil, or_false] at ht; rcases ht with rfl | rfl <;> exact ⟨by kernel_rfl, by decide +kernel⟩) rfl (by kernel_rfl) Try.underlying4 (by rintro _ rfl; rfl) hW' hg⟩

theorem over : Rows.outboxOnceRow.holds Try.pinned (OpenSpec.ofChange Rows.outboxOnceSpec) :=
 OpenClaim.holds_of_wide 4 Try.f4 rfl rfl rfl rfl rfl rfl rfl ⟨rfl, rfl, rfl, rfl, rfl⟩ rfl rfl rfl rfl rfl (by kernel_rfl) Try.func4 (by kernel_rfl)
  (of_decide_eq_true (by kernel_rfl)) (by unfold Func.isWrapper; first | (rw [if_pos (by decide +kernel)]; kernel_rfl) | (rw [if_neg (by decide +kernel)]; exact ⟨rfl, rfl⟩))
  (fun os started H enc _ => lifted os started H enc)

theorem proved : Rows.OutboxOnceSaid :=
 over


end Go.Proofs.Yticpjnmoiepafaa.outboxOnce
