/-
  PROVED: the law RingPlays hands back true at every input, and its arguments read behind the call as they read before.
-/
import Derived.Test.YtabloimmlmgcbaaRows
import Derived.Test.YtabloimmlmgcbaaRingUj
import Derived.Test.YtabloimmlmgcbaaAmRows
set_option linter.unusedVariables false
set_option linter.unusedSimpArgs false
open Go Go.Am Go.ChangeShapes Go.WideShapes Go.ChangeAt Go.RowKit
namespace Go.Proofs.Ytabloimmlmgcbaa.ringPlays

theorem awake_safe : awake_S0 := by
  unfold awake_S0
  trivial
theorem rows_act : ∀ {rows : List (List Value)}, (∀ r ∈ rows, AllL [.int .i64, .int .i64, .str] r) → ∃ l : List AcR, rows = l.map arC
  | [], h => ⟨[], rfl⟩
  | r :: rows, h => by
    obtain ⟨l, e⟩ := rows_act (rows := rows) (fun r hr => h r (List.mem_cons_of_mem _ hr))
    obtain ⟨_, _, rfl, ⟨x, rfl, _⟩, _, _, rfl, ⟨y, rfl, _⟩, _, _, rfl, ⟨s, rfl, _⟩, h4⟩ := h r List.mem_cons_self
    have h4 : _ = [] := h4
    subst h4
    exact ⟨(x, y, s) :: l, by rw [e]; rfl⟩
section
variable (most : Int) (n : Nat) (A : List Value) {c1 c2 : Int} {c3 : Nat} {L W : List Value} {t wn wo : Nat} {l : List ByteArray}
theorem inner {f k : Int} {ln' : Nat} {L' W' : List Value} {wn' wo' : Nat} (ht : t ≤ 400) (r : DoT)
    (er : doR most most c1 c2 c3 L wn wo W (toInt (A.getD ((t : Int).toNat * 3 + 0) undef)) (toInt (A.getD ((t : Int).toNat * 3 + 1) undef)) (toStr (A.getD ((t : Int).toNat * 3 + 2) undef)) = r)
    (hr : sR most r.1 r.2.1 r.2.2.1 r.2.2.2.1 l) (hw : WR l r.2.2.2.2.1 r.2.2.2.2.2.1 r.2.2.2.2.2.2) : ∀ m j : Nat, j + m = 4 → j ≤ l.length →
    Gets E2 0 (plays_h2 most n A c1 c2 c3 L W t wn wo r.1 r.2.1 r.2.2.1 r.2.2.2.2.1 r.2.2.2.1 r.2.2.2.2.2.2 j) (plays_h1 most n A r.1 r.2.1 r.2.2.1 r.2.2.2.1 r.2.2.2.2.2.2 ((t + 1 : Nat) : Int) r.2.2.2.2.1 r.2.2.2.2.2.1) := by
  have hn := hw.n
  have ei : IntKind.i64.wrap ((t : Int) + 1) = ((t + 1 : Nat) : Int) := by rw [wrap64_in (by omega) (by omega)]; omega
  have out : ∀ j : Nat, l.length ≤ j → Gets E2 0 (plays_h2 most n A c1 c2 c3 L W t wn wo r.1 r.2.1 r.2.2.1 r.2.2.2.2.1 r.2.2.2.1 r.2.2.2.2.2.2 j) (plays_h1 most n A r.1 r.2.1 r.2.2.1 r.2.2.2.1 r.2.2.2.2.2.2 ((t + 1 : Nat) : Int) r.2.2.2.2.1 r.2.2.2.2.2.1) := fun j hj => by
    have w := plays_w2_2 most n A c1 c2 c3 L W t wn wo r.1 r.2.1 r.2.2.1 r.2.2.2.2.1 r.2.2.2.1 r.2.2.2.2.2.2 j r er (sR_flat hr) hw.flat (decide_eq_false (by omega))
    rw [ei] at w
    exact w
  intro m
  induction m with
  | zero =>
    intro j hj hl
    by_cases c : j < l.length
    · have w := plays_w2_1 most n A c1 c2 c3 L W t wn wo r.1 r.2.1 r.2.2.1 r.2.2.2.2.1 r.2.2.2.1 r.2.2.2.2.2.2 j r er (sR_flat hr) hw.flat (decide_eq_false (by omega)) (decide_eq_true (by omega))
      rw [ei] at w
      exact w
    · exact out j (by omega)
  | succ m ih =>
    intro j hj hl
    by_cases c : j < l.length
    · obtain ⟨x, hx⟩ : ∃ x, l[j]? = some x := ⟨_, List.getElem?_eq_getElem c⟩
      obtain ⟨q1, q2⟩ := sat_in hr hx
      have gw : r.2.2.2.2.2.2.getD (r.2.2.2.2.2.1 + j * 1) undef = .string x := by rw [Nat.mul_one]; exact hw.get hx
      have hlen := hw.len
      have w := plays_w2_0 most n A c1 c2 c3 L W t wn wo r.1 r.2.1 r.2.2.1 r.2.2.2.2.1 r.2.2.2.1 r.2.2.2.2.2.2 j (x, true) q2 r er
      rw [wrap64_in (x := (j : Int) + 1) (by omega) (by omega)] at w
      simp only [Int.toNat_natCast, gw, toStr, isStr] at w
      have w := w (sR_flat hr) hw.flat (by simp) (by omega) trivial (by omega) (by omega) rfl q1 (decide_eq_true (by omega)) (decide_eq_true (by omega))
      exact w.trans (ih (j + 1) (by omega) (by omega))
    · exact out j (by omega)
end
section
variable (most : Int) (q : List AcR) (hl : q.length ≤ 400)
include hl
theorem run : ∀ (m i : Nat) (c1 c2 : Int) (c3 : Nat) (L W : List Value) (wn wo : Nat) (l : List ByteArray), i + m = q.length → sR most c1 c2 c3 L l → WR l wn wo W →
    AEnds E2 5 0 (plays_h1 most q.length (arQ q) c1 c2 c3 L W i wn wo) (.bool true) []
  | 0, i, c1, c2, c3, L, W, wn, wo, l, hi, hr, hw => plays_w1_1 most q.length (arQ q) c1 c2 c3 L W i wn wo (decide_eq_false (by omega))
  | m + 1, i, c1, c2, c3, L, W, wn, wo, l, hi, hr, hw => by
    have hlt : i < q.length := by omega
    obtain ⟨a, ha⟩ : ∃ a, q[i]? = some a := ⟨_, List.getElem?_eq_getElem hlt⟩
    have g0 : (arQ q).getD (i * 3 + 0) undef = .int .i64 a.1 := arQ_at q i a 0 ha (by omega)
    have g1 : (arQ q).getD (i * 3 + 1) undef = .int .i64 a.2.1 := arQ_at q i a 1 ha (by omega)
    have g2 : (arQ q).getD (i * 3 + 2) undef = .string a.2.2 := arQ_at q i a 2 ha (by omega)
    have hlen := arQ_len q
    have hp : ∀ d k s, doc_pre most most c1 c2 c3 L wn wo W d k s := fun d k s => ⟨rfl, l, hr, hw⟩
    obtain ⟨r, er⟩ : ∃ r, doR most most c1 c2 c3 L wn wo W (toInt ((arQ q).getD ((i : Int).toNat * 3 + 0) undef)) (toInt ((arQ q).getD ((i : Int).toNat * 3 + 1) undef)) (toStr ((arQ q).getD ((i : Int).toNat * 3 + 2) undef)) = r := ⟨_, rfl⟩
    have hd := doR_ok (hp (toInt ((arQ q).getD ((i : Int).toNat * 3 + 0) undef)) (toInt ((arQ q).getD ((i : Int).toNat * 3 + 1) undef)) (toStr ((arQ q).getD ((i : Int).toNat * 3 + 2) undef)))
    rw [er] at hd
    obtain ⟨⟨l', h1, h2⟩, _⟩ := hd
    have hn := h2.n
    obtain ⟨b1, _⟩ := sR_n h1
    have w := plays_w1_0 most q.length (arQ q) c1 c2 c3 L W i wn wo r er (sR_flat h1) h2.flat (by simp; omega) (beq_self_eq_true _) (beq_self_eq_true _) (slen_in h1) (sR_flat hr) hw.flat (hp _ _ _) (by rw [Int.toNat_natCast]; omega) (by rw [Int.toNat_natCast, g0]; rfl) (by rw [Int.toNat_natCast, g1]; rfl) (by rw [Int.toNat_natCast, g2]; rfl) (by omega) (by omega) (by omega) (decide_eq_true (by omega))
    exact (w.trans (inner most q.length (arQ q) (f := 0) (k := 0) (ln' := 0) (L' := []) (W' := []) (wn' := 0) (wo' := 0) (by omega) r er h1 h2 4 0 rfl (Nat.zero_le _))).ends (run m (i + 1) _ _ _ _ _ _ _ l' (by omega) h1 h2)
end
theorem all (most : Int) (hl : -9223372036854775808 ≤ most ∧ most ≤ 9223372036854775807) (a : List (List Value)) (u : ∀ r ∈ a, AllL [.int .i64, .int .i64, .str] r) : AEnds E 5 0 (startC E 5 [.int .i64 most, .iface a.length (.agg a.flatten.toArray)] []) (.bool true) [] := by
  obtain ⟨l, rfl⟩ := rows_act u
  rw [List.length_map]
  have gp : great_pre l.length (arQ l) := ⟨l, rfl, rfl⟩
  have h : AEnds E2 5 0 (startC E2 5 [.int .i64 most, .iface l.length (.agg (arQ l).toArray)] []) (.bool true) [] := by
    cases hg : greatB l.length (arQ l) with
    | true => exact plays_w0_0 most l.length (arQ l) hg gp awake_safe
    | false =>
      have g1 : l.length ≤ 400 := by
        unfold greatB at hg
        by_cases c : 400 < (l.length : Int)
        · rw [if_pos c] at hg; cases hg
        · omega
      by_cases c1 : most < 1
      · exact plays_w0_1 most l.length (arQ l) (decide_eq_true c1) hg gp awake_safe
      by_cases c2 : 65536 < most
      · exact plays_w0_2 most l.length (arQ l) (decide_eq_true c2) (decide_eq_false c1) hg gp awake_safe
      exact (plays_w0_3 most l.length (arQ l) (decide_eq_false c2) (decide_eq_false c1) hg gp awake_safe).ends (run most l g1 l.length 0 0 0 0 [] [] 0 0 [] (Nat.zero_add _) (sR_nil (by omega) (by omega)) (WR.new []))
  exact h

theorem walk (a0 : Int) (w0 : (Lit.int .i64 a0).wf = true) (a1 : List (List Value)) (w1 : a1.length ≤ maxLen) (u1 : ∀ r ∈ a1, AllL [.int .i64, .int .i64, .str] r) (W : World) (args' : Array Value)
    (ha : ∀ ρ, VL (prOf W) (AN []) ρ [.int .i64 a0, .iface a1.length (.agg a1.flatten.toArray)] args'.toList) :
    Calls Try.prog 5 args' W fun e w' => e = .returned (.bool true) ∧ Stays W w' :=
  calls_of_ends (all a0 (by simp [Lit.wf, IntKind.min, IntKind.max, IntKind.bits, IntKind.signed] at w0; omega) a1 u1) (by kernel_rfl) rfl ha

theorem own : ownKnob Try.prog.godebug = none := by kernel_rfl
theorem laid : laidOutB Try.prog = true := by kernel_rfl

set_option maxRecDepth 100000 in
theorem lifted (os : Os) (started : os.Started) (H : Type) (enc : TypeId × Value → H) :
    ReturnsInHanded {} Try.checked os 5 .any (Rows.ringPlaysSpec.pre6 enc Try.prog Try.f5 Rows.ringPlaysRow.domain false) (Rows.ringPlaysSpec.post enc Try.prog Try.f5 false true false false) := by
  refine returnsInHanded_of_change (C := Try.checked) own started (by kernel_rfl) Try.func5
    (ChangeSpec.witness6 (enc := enc) (C := Try.checked) false ⟨#[], #[.int .i64 0, .slice none 0 0], []⟩ 8 (by kernel_rfl) (by kernel_rfl) (by kernel_rfl) (by kernel_rfl)) ?_
  intro W base args ds gs before hval0 hW hcnd _
  have hval : ∀ (j : Nat) t v, Try.f5.params[j]? = some t → args[j]? = some v → Value.okWide Try.prog W .any base t v := hval0
  have hW' := hW
  obtain ⟨p, q, hA0, hV, rfl, hfz, hnd⟩ := hW
  have hA : DataW.TrodAll enc Try.prog W 0 (fun _ => true) true Try.f5.params.toList args.toList ds p := hA0
  rw [Try.params5] at hA hval
  obtain ⟨v0, vs0, d0, ds0, p0, q0, hargs, rfl, rfl, h0, r0⟩ := trodAll_cons hA
  obtain ⟨v1, vs1, d1, ds1, p1, q1, rfl, rfl, rfl, h1, r1⟩ := trodAll_cons r0
  obtain ⟨rfl, rfl, rfl⟩ := trodAll_nil r1
  obtain rfl : args = #[v0, v1] := by cases args; simp_all
  obtain ⟨a0, x0, w0⟩ := read_int Try.underlying3 (hval 0 3 v0 rfl rfl) h0
  obtain ⟨a1, x1, w1, u1⟩ := read_rows (ls := [.int .i64, .int .i64, .str]) Try.underlying53 (by kernel_rfl) (by decide) (trodL_struct Try.underlying64 (by kernel_rfl) ⟨[.int .i64], _, rfl, rfl, by kernel_rfl, trodL_int Try.underlying3, [.int .i64], _, rfl, rfl, by kernel_rfl, trodL_int Try.underlying3, [.str], _, rfl, rfl, by kernel_rfl, trodL_str Try.underlying9, rfl⟩) (hval 1 53 v1 rfl rfl) h1
  refine (walk a0 w0 a1 w1 u1 W _ (fun ρ => .cons (x0 _ _) (.cons (x1 _ _) (.nil)))).mono fun e W' ⟨he, hg⟩ => ?_
  subst he
  exact ⟨_, rfl, post_law (tb := 4) laid (by rw [Try.params5]; intro t ht; simp only [List.mem_cons, List.not_mem_nil, or_false] at ht; rcases ht with rfl | rfl <;> exact ⟨by kernel_rfl, by decide +kernel⟩) rfl (by kernel_rfl) Try.underlying4 (by rintro _ rfl; rfl) hW' hg⟩

theorem over : Rows.ringPlaysRow.holds Try.pinned (OpenSpec.ofChange Rows.ringPlaysSpec) :=
  OpenClaim.holds_of_wide 5 Try.f5 rfl rfl rfl rfl rfl rfl rfl ⟨rfl, rfl, rfl, rfl, rfl⟩ rfl rfl rfl rfl rfl (by kernel_rfl) Try.func5 (by kernel_rfl)
    (of_decide_eq_true (by kernel_rfl)) (by unfold Func.isWrapper; first | (rw [if_pos (by decide +kernel)]; kernel_rfl) | (rw [if_neg (by decide +kernel)]; exact ⟨rfl, rfl⟩))
    (fun os started H enc _ => lifted os started H enc)

theorem proved : Rows.RingPlaysSaid :=
  over


end Go.Proofs.Ytabloimmlmgcbaa.ringPlays
