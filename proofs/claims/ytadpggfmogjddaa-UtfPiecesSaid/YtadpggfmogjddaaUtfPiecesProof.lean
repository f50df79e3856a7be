/-
  PROVED: the law UtfPieces hands back true at every input, and its arguments read behind the call as they read before.
-/
import Derived.Test.YtadpggfmogjddaaRows
import Derived.Test.YtadpggfmogjddaaUtfQ
set_option linter.unusedVariables false
set_option linter.unusedSimpArgs false
open Go Go.Am Go.ChangeShapes Go.WideShapes Go.ChangeAt Go.RowKit
namespace Go.Proofs.Ytadpggfmogjddaa.utfPieces
theorem all (s : ByteArray) (cuts : List Int) (behind : ByteArray) (hcut : ∀ c ∈ cuts, 0 ≤ c ∧ c < 256) :
    AEnds E 7 0 (startC E 7 [.string s, .iface cuts.length (.agg (cuts.map (Value.int .u8)).toArray), .string behind] []) (.bool true) [] := by
  have h := pieces_ok0 s cuts behind (by
    unfold pieces_S0
    by_cases c1 : 5000 < (slen s : Int)
    · simp [c1, awakeN_S0]
    · have : feed_pre 0 0 0 0 0 false s := ⟨by omega, by omega, by omega⟩
      simp [c1, this, awakeN_S0])
  unfold pieces_t0 at h
  by_cases c1 : 5000 < (slen s : Int)
  · rw [decide_eq_true c1] at h
    exact pieces_end h
  rw [decide_eq_false c1] at h
  by_cases c2 : 200 < (cuts.length : Int)
  · rw [decide_eq_true c2] at h
    exact pieces_end h
  rw [decide_eq_false c2] at h
  by_cases c3 : 300 < (slen behind : Int)
  · rw [decide_eq_true c3] at h
    exact pieces_end h
  rw [decide_eq_false c3] at h
  simp only [cond_false] at h
  exact (pieces_go1 h).ends (pieces_run s behind cuts (by omega) (by omega) (by omega) hcut cuts.length 0 s (0, 0, 0, 0) 0 false (by omega) rfl (by omega) (by omega))
theorem walk (s : ByteArray) (_ : s.size ≤ maxLen) (cuts : List Int) (_ : cuts.length ≤ maxLen) (hu : ∀ n ∈ cuts, (Lit.int .u8 n).wf = true) (behind : ByteArray) (_ : behind.size ≤ maxLen) (W : World) (args' : Array Value)
    (ha : ∀ ρ, VL (prOf W) (AN []) ρ [.string s, .iface cuts.length (.agg (cuts.map (Value.int .u8)).toArray), .string behind] args'.toList) :
    Calls Try.prog 7 args' W fun e w' => e = .returned (.bool true) ∧ Stays W w' :=
  calls_of_ends (all s cuts behind (fun c hc => by have := hu c hc; simp [Lit.wf, IntKind.min, IntKind.max, IntKind.bits, IntKind.signed] at this; omega)) (by kernel_rfl) rfl ha

theorem own : ownKnob Try.prog.godebug = none := by kernel_rfl
theorem laid : laidOutB Try.prog = true := by kernel_rfl

set_option maxRecDepth 100000 in
theorem lifted (os : Os) (started : os.Started) (H : Type) (enc : TypeId × Value → H) :
    ReturnsInHanded {} Try.checked os 7 .any (Rows.utfPiecesSpec.pre6 enc Try.prog Try.f7 Rows.utfPiecesRow.domain false) (Rows.utfPiecesSpec.post enc Try.prog Try.f7 false true false false) := by
  refine returnsInHanded_of_change (C := Try.checked) own started (by kernel_rfl) Try.func7
    (ChangeSpec.witness6 (enc := enc) (C := Try.checked) false ⟨#[], #[.string ⟨#[]⟩, .slice none 0 0, .string ⟨#[]⟩], []⟩ 8 (by kernel_rfl) (by kernel_rfl) (by kernel_rfl) (by kernel_rfl)) ?_
  intro W base args ds gs before hval0 hW hcnd _
  have hval : ∀ (j : Nat) t v, Try.f7.params[j]? = some t → args[j]? = some v → Value.okWide Try.prog W .any base t v := hval0
  have hW' := hW
  obtain ⟨p, q, hA0, hV, rfl, hfz, hnd⟩ := hW
  have hA : DataW.TrodAll enc Try.prog W 0 (fun _ => true) true Try.f7.params.toList args.toList ds p := hA0
  rw [Try.params7] at hA hval
  obtain ⟨v0, vs0, d0, ds0, p0, q0, hargs, rfl, rfl, h0, r0⟩ := trodAll_cons hA
  obtain ⟨v1, vs1, d1, ds1, p1, q1, rfl, rfl, rfl, h1, r1⟩ := trodAll_cons r0
  obtain ⟨v2, vs2, d2, ds2, p2, q2, rfl, rfl, rfl, h2, r2⟩ := trodAll_cons r1
  obtain ⟨rfl, rfl, rfl⟩ := trodAll_nil r2
  obtain rfl : args = #[v0, v1, v2] := by cases args; simp_all
  obtain ⟨a0, x0, w0⟩ := read_string Try.underlying9 (hval 0 9 v0 rfl rfl) h0
  obtain ⟨a1, x1, w1, u1⟩ := read_ints Try.underlying35 Try.underlying5 (by kernel_rfl) (hval 1 35 v1 rfl rfl) h1
  obtain ⟨a2, x2, w2⟩ := read_string Try.underlying9 (hval 2 9 v2 rfl rfl) h2
  refine (walk a0 w0 a1 w1 u1 a2 w2 W _ (fun ρ => .cons (x0 _ _) (.cons (x1 _ _) (.cons (x2 _ _) (.nil))))).mono fun e W' ⟨he, hg⟩ => ?_
  subst he
  exact ⟨_, rfl, post_law (tb := 4) laid (by rw [Try.params7]; intro t ht; simp only [List.mem_cons, List.not_mem_nil, or_false] at ht; rcases ht with rfl | rfl | rfl <;> exact ⟨by kernel_rfl, by decide +kernel⟩) rfl (by kernel_rfl) Try.underlying4 (by rintro _ rfl; rfl) hW' hg⟩

theorem over : Rows.utfPiecesRow.holds Try.pinned (OpenSpec.ofChange Rows.utfPiecesSpec) :=
  OpenClaim.holds_of_wide 7 Try.f7 rfl rfl rfl rfl rfl rfl rfl ⟨rfl, rfl, rfl, rfl, rfl⟩ rfl rfl rfl rfl rfl (by kernel_rfl) Try.func7 (by kernel_rfl)
    (of_decide_eq_true (by kernel_rfl)) (by unfold Func.isWrapper; first | (rw [if_pos (by decide +kernel)]; kernel_rfl) | (rw [if_neg (by decide +kernel)]; exact ⟨rfl, rfl⟩))
    (fun os started H enc _ => lifted os started H enc)

theorem proved : Rows.UtfPiecesSaid :=
  over

end Go.Proofs.Ytadpggfmogjddaa.utfPieces
