/-
  PROVED: the law MessageCuts hands back true at every input, and its arguments read behind the call as they read before.
-/
import Derived.Test.YtgaedhpeiamdfaaRows
import Derived.Test.YtgaedhpeiamdfaaMessageX
set_option linter.unusedVariables false
set_option linter.unusedSimpArgs false
open Go Go.Am Go.ChangeShapes Go.WideShapes Go.ChangeAt Go.RowKit
namespace Go.Proofs.Ytgaedhpeiamdfaa.messageCuts
theorem all (T : List ByteArray) (B : List Bool) (Cs : List Int) (hC : ∀ c ∈ Cs, -9223372036854775808 ≤ c ∧ c ≤ 9223372036854775807) (lim : Int) (hlim : -9223372036854775808 ≤ lim ∧ lim ≤ 9223372036854775807) :
    AEnds E 8 0 (startC E 8 [.iface T.length (.agg (T.map Value.string).toArray), .iface B.length (.agg (B.map Value.bool).toArray), .iface Cs.length (.agg (Cs.map (Value.int .i64)).toArray), .int .i64 lim] []) (.bool true) [] := by
  have hw : wakes_S0 := trivial
  by_cases c1 : T.length ≤ 5
  · by_cases c2 : T.length ≤ B.length
    · by_cases c3 : Cs.length ≤ 60
      · by_cases c4 : lim < 0
        · apply cuts_w0_3
          all_goals first | assumption | exact decide_eq_true c4 | exact decide_eq_false (by omega)
        · by_cases c5 : 1000 < lim
          · apply cuts_w0_4
            all_goals first | assumption | exact decide_eq_true c5 | exact decide_eq_false (by omega)
          · refine Gets.ends ?_ (start T B Cs.length (Cs.map (Value.int .i64)) lim ⟨by omega, by omega⟩ c3 (by simp) (by intro v hv; obtain ⟨c, _, rfl⟩ := List.mem_map.1 hv; rfl) (all_flat_int _ _) c1 c2)
            apply cuts_w0_5
            all_goals exact decide_eq_false (by omega)
      · apply cuts_w0_2
        all_goals first | assumption | exact decide_eq_true (by omega) | exact decide_eq_false (by omega)
    · apply cuts_w0_1
      all_goals first | assumption | exact decide_eq_true (by omega) | exact decide_eq_false (by omega)
  · apply cuts_w0_0
    all_goals first | assumption | exact decide_eq_true (by omega) | exact decide_eq_false (by omega)

theorem walk (a0 : List ByteArray) (w0 : a0.length ≤ maxLen) (u0 : ∀ s ∈ a0, s.size ≤ maxLen) (a1 : List Bool) (w1 : a1.length ≤ maxLen) (a2 : List Int) (w2 : a2.length ≤ maxLen) (u2 : ∀ n ∈ a2, (Lit.int .i64 n).wf = true) (a3 : Int) (w3 : (Lit.int .i64 a3).wf = true) (W : World) (args' : Array Value)
    (ha : ∀ ρ, VL (prOf W) (AN []) ρ [.iface a0.length (.agg (a0.map Value.string).toArray), .iface a1.length (.agg (a1.map Value.bool).toArray), .iface a2.length (.agg (a2.map (Value.int .i64)).toArray), .int .i64 a3] args'.toList) :
    Calls Try.prog 8 args' W fun e w' => e = .returned (.bool true) ∧ Stays W w' :=
  calls_of_ends (all a0 a1 a2 (fun c hc => by have := u2 c hc; simp [Lit.wf, IntKind.min, IntKind.max, IntKind.bits, IntKind.signed] at this; omega) a3 (by simp [Lit.wf, IntKind.min, IntKind.max, IntKind.bits, IntKind.signed] at w3; omega)) (by kernel_rfl) rfl ha

theorem own : ownKnob Try.prog.godebug = none := by kernel_rfl
theorem laid : laidOutB Try.prog = true := by kernel_rfl

set_option maxRecDepth 100000 in
theorem lifted (os : Os) (started : os.Started) (H : Type) (enc : TypeId × Value → H) :
    ReturnsInHanded {} Try.checked os 8 .any (Rows.messageCutsSpec.pre6 enc Try.prog Try.f8 Rows.messageCutsRow.domain false) (Rows.messageCutsSpec.post enc Try.prog Try.f8 false true false false) := by
  refine returnsInHanded_of_change (C := Try.checked) own started (by kernel_rfl) Try.func8
    (ChangeSpec.witness6 (enc := enc) (C := Try.checked) false ⟨#[], #[.slice none 0 0, .slice none 0 0, .slice none 0 0, .int .i64 0], []⟩ 8 (by kernel_rfl) (by kernel_rfl) (by kernel_rfl) (by kernel_rfl)) ?_
  intro W base args ds gs before hval0 hW hcnd _
  have hval : ∀ (j : Nat) t v, Try.f8.params[j]? = some t → args[j]? = some v → Value.okWide Try.prog W .any base t v := hval0
  have hW' := hW
  obtain ⟨p, q, hA0, hV, rfl, hfz, hnd⟩ := hW
  have hA : DataW.TrodAll enc Try.prog W 0 (fun _ => true) true Try.f8.params.toList args.toList ds p := hA0
  rw [Try.params8] at hA hval
  obtain ⟨v0, vs0, d0, ds0, p0, q0, hargs, rfl, rfl, h0, r0⟩ := trodAll_cons hA
  obtain ⟨v1, vs1, d1, ds1, p1, q1, rfl, rfl, rfl, h1, r1⟩ := trodAll_cons r0
  obtain ⟨v2, vs2, d2, ds2, p2, q2, rfl, rfl, rfl, h2, r2⟩ := trodAll_cons r1
  obtain ⟨v3, vs3, d3, ds3, p3, q3, rfl, rfl, rfl, h3, r3⟩ := trodAll_cons r2
  obtain ⟨rfl, rfl, rfl⟩ := trodAll_nil r3
  obtain rfl : args = #[v0, v1, v2, v3] := by cases args; simp_all
  obtain ⟨a0, x0, w0, u0⟩ := read_strings Try.underlying59 Try.underlying9 (by kernel_rfl) (hval 0 59 v0 rfl rfl) h0
  obtain ⟨a1, x1, w1⟩ := read_bools Try.underlying60 Try.underlying4 (by kernel_rfl) (hval 1 60 v1 rfl rfl) h1
  obtain ⟨a2, x2, w2, u2⟩ := read_ints Try.underlying61 Try.underlying3 (by kernel_rfl) (hval 2 61 v2 rfl rfl) h2
  obtain ⟨a3, x3, w3⟩ := read_int Try.underlying3 (hval 3 3 v3 rfl rfl) h3
  refine (walk a0 w0 u0 a1 w1 a2 w2 u2 a3 w3 W _ (fun ρ => .cons (x0 _ _) (.cons (x1 _ _) (.cons (x2 _ _) (.cons (x3 _ _) (.nil)))))).mono fun e W' ⟨he, hg⟩ => ?_
  subst he
  exact ⟨_, rfl, post_law (tb := 4) laid (by rw [Try.params8]; intro t ht; simp only [List.mem_cons, List.not_mem_nil, or_false] at ht; rcases ht with rfl | rfl | rfl | rfl <;> exact ⟨by kernel_rfl, by decide +kernel⟩) rfl (by kernel_rfl) Try.underlying4 (by rintro _ rfl; rfl) hW' hg⟩

theorem over : Rows.messageCutsRow.holds Try.pinned (OpenSpec.ofChange Rows.messageCutsSpec) :=
  OpenClaim.holds_of_wide 8 Try.f8 rfl rfl rfl rfl rfl rfl rfl ⟨rfl, rfl, rfl, rfl, rfl⟩ rfl rfl rfl rfl rfl (by kernel_rfl) Try.func8 (by kernel_rfl)
    (of_decide_eq_true (by kernel_rfl)) (by unfold Func.isWrapper; first | (rw [if_pos (by decide +kernel)]; kernel_rfl) | (rw [if_neg (by decide +kernel)]; exact ⟨rfl, rfl⟩))
    (fun os started H enc _ => lifted os started H enc)

theorem proved : Rows.MessageCutsSaid :=
  over


end Go.Proofs.Ytgaedhpeiamdfaa.messageCuts
