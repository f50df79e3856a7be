/-
  PROVED: the law FramesPieces hands back true at every input, and its arguments read behind the call as they read before.
-/
import Derived.Test.YtfmcohbagbafmaaRows
import Derived.Test.YtfmcohbagbafmaaFramesW
import Derived.Test.YtfmcohbagbafmaaAmAgg
set_option linter.unusedVariables false
set_option linter.unusedSimpArgs false
open Go Go.Am Go.ChangeShapes Go.WideShapes Go.ChangeAt Go.RowKit
namespace Go.Proofs.Ytfmcohbagbafmaa.framesPieces
theorem all (s : ByteArray) (cuts : List Int) (hcs : ∀ c ∈ cuts, 0 ≤ c ∧ c ≤ 255) (m : Bool) : AEnds E 8 0 (startC E 8 [.string s, .iface cuts.length (.agg (cuts.map (Value.int .u8)).toArray), .bool m] []) (.bool true) [] := pieces_all s cuts hcs m

theorem walk (a0 : ByteArray) (w0 : a0.size ≤ maxLen) (a1 : List Int) (w1 : a1.length ≤ maxLen) (u1 : ∀ n ∈ a1, (Lit.int .u8 n).wf = true) (a2 : Bool) (W : World) (args' : Array Value)
    (ha : ∀ ρ, VL (prOf W) (AN []) ρ [.string a0, .iface a1.length (.agg (a1.map (Value.int .u8)).toArray), .bool a2] args'.toList) :
    Calls Try.prog 8 args' W fun e w' => e = .returned (.bool true) ∧ Stays W w' :=
  calls_of_ends (all a0 a1 (fun c hc => by have := u1 c hc; simp [Lit.wf, IntKind.min, IntKind.max, IntKind.bits, IntKind.signed] at this; omega) a2) (by kernel_rfl) rfl ha

theorem own : ownKnob Try.prog.godebug = none := by kernel_rfl
theorem laid : laidOutB Try.prog = true := by kernel_rfl

set_option maxRecDepth 100000 in
theorem lifted (os : Os) (started : os.Started) (H : Type) (enc : TypeId × Value → H) :
    ReturnsInHanded {} Try.checked os 8 .any (Rows.framesPiecesSpec.pre6 enc Try.prog Try.f8 Rows.framesPiecesRow.domain false) (Rows.framesPiecesSpec.post enc Try.prog Try.f8 false true false false) := by
  refine returnsInHanded_of_change (C := Try.checked) own started (by kernel_rfl) Try.func8
    (ChangeSpec.witness6 (enc := enc) (C := Try.checked) false ⟨#[], #[.string ⟨#[]⟩, .slice none 0 0, .bool false], []⟩ 8 (by kernel_rfl) (by kernel_rfl) (by kernel_rfl) (by kernel_rfl)) ?_
  intro W base args ds gs before hval0 hW hcnd _
  have hval : ∀ (j : Nat) t v, Try.f8.params[j]? = some t → args[j]? = some v → Value.okWide Try.prog W .any base t v := hval0
  have hW' := hW
  obtain ⟨p, q, hA0, hV, rfl, hfz, hnd⟩ := hW
  have hA : DataW.TrodAll enc Try.prog W 0 (fun _ => true) true Try.f8.params.toList args.toList ds p := hA0
  rw [Try.params8] at hA hval
  obtain ⟨v0, vs0, d0, ds0, p0, q0, hargs, rfl, rfl, h0, r0⟩ := trodAll_cons hA
  obtain ⟨v1, vs1, d1, ds1, p1, q1, rfl, rfl, rfl, h1, r1⟩ := trodAll_cons r0
  obtain ⟨v2, vs2, d2, ds2, p2, q2, rfl, rfl, rfl, h2, r2⟩ := trodAll_cons r1
  obtain ⟨rfl, rfl, rfl⟩ := trodAll_nil r2
  obtain rfl : args = #[v0, v1, v2] := by cases args; simp_all
  obtain ⟨a0, x0, w0⟩ := read_string Try.underlying9 (hval 0 9 v0 rfl rfl) h0
  obtain ⟨a1, x1, w1, u1⟩ := read_ints Try.underlying41 Try.underlying5 (by kernel_rfl) (hval 1 41 v1 rfl rfl) h1
  obtain ⟨a2, x2⟩ := read_bool (H := H) (d := d2) (p := p2) Try.underlying4 (hval 2 4 v2 rfl rfl)
  refine (walk a0 w0 a1 w1 u1 a2 W _ (fun ρ => .cons (x0 _ _) (.cons (x1 _ _) (.cons (x2 _ _) (.nil))))).mono fun e W' ⟨he, hg⟩ => ?_
  subst he
  exact ⟨_, rfl, post_law (tb := 4) laid (by rw [Try.params8]; intro t ht; simp only [List.mem_cons, List.not_mem_nil, or_false] at ht; rcases ht with rfl | rfl | rfl <;> exact ⟨by kernel_rfl, by decide +kernel⟩) rfl (by kernel_rfl) Try.underlying4 (by rintro _ rfl; rfl) hW' hg⟩

theorem over : Rows.framesPiecesRow.holds Try.pinned (OpenSpec.ofChange Rows.framesPiecesSpec) :=
  OpenClaim.holds_of_wide 8 Try.f8 rfl rfl rfl rfl rfl rfl rfl ⟨rfl, rfl, rfl, rfl, rfl⟩ rfl rfl rfl rfl rfl (by kernel_rfl) Try.func8 (by kernel_rfl)
    (of_decide_eq_true (by kernel_rfl)) (by unfold Func.isWrapper; first | (rw [if_pos (by decide +kernel)]; kernel_rfl) | (rw [if_neg (by decide +kernel)]; exact ⟨rfl, rfl⟩))
    (fun os started H enc _ => lifted os started H enc)

theorem proved : Rows.FramesPiecesSaid :=
  over


end Go.Proofs.Ytfmcohbagbafmaa.framesPieces
