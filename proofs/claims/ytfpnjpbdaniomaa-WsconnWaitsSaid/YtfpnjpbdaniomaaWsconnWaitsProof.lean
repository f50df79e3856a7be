/-
  PROVED: the law WsconnWaits hands back true at every input, and its arguments read behind the call as they read before.
-/
import Derived.Test.YtfpnjpbdaniomaaRows
import Derived.Test.YtfpnjpbdaniomaaWsconnR
import Derived.Test.YtfpnjpbdaniomaaWsconnS
set_option linter.unusedVariables false
set_option linter.unusedSimpArgs false
open Go Go.Am Go.ChangeShapes Go.WideShapes Go.ChangeAt Go.RowKit
namespace Go.Proofs.Ytfpnjpbdaniomaa.wsconnWaits

section
variable (a b : ByteArray) (lim : Int) (hb : slen b ≤ 1500)
include hb
theorem fin1 {c : CS} (h : CW 1500 c) (hs : c.st = 1) (P : Prop)
  (k3 : ∀ (e : EvT) (c4 : CS), nextC { c with st := 2, r := feedX c.r b } = (some e, c4) → nextC c4 = (none, c4) → CW 3000 c4 → c4.st = 3 → e.1 = 3 → P)
  (k4 : ∀ (e : EvT) (c4 : CS), nextC { c with st := 2, r := feedX c.r b } = (some e, c4) → nextC c4 = (none, c4) → CW 3000 c4 → c4.st = 3 → e.1 = 4 → e.2.2.1 = 1002 → P)
  (k5 : ∀ (e : EvT) (c4 : CS), nextC { c with st := 2, r := feedX c.r b } = (some e, c4) → nextC c4 = (none, c4) → CW 3000 c4 → c4.st = 3 → e.1 = 4 → e.2.2.1 = 1007 → P)
  (k0 : ∀ (c4 : CS), nextC { c with st := 2, r := feedX c.r b } = (none, c4) → nextC c4 = (none, c4) → CW 3000 c4 → ¬ c4.st = 1 → P) : P := by
 have hf := (feedC_inv (k := 1500) (s := b) h hb (by omega)).shut (s := 2) (by omega)
 obtain ⟨i1, i2⟩ := nextF_inv (mu (feedX c.r b) + 1) { c with st := 2, r := feedX c.r b } hf
 have hw := nextF_wait (mu (feedX c.r b) + 1) { c with st := 2, r := feedX c.r b } rfl
 have hd := nextC_dry (c := { c with st := 2, r := feedX c.r b }) hf.r
 have e : nextC { c with st := 2, r := feedX c.r b } = nextF (mu (feedX c.r b) + 1) { c with st := 2, r := feedX c.r b } := rfl
 rw [← e] at i1 i2 hw
 generalize hq : nextC { c with st := 2, r := feedX c.r b } = q at i1 i2 hw hd k3 k4 k5 k0
 obtain ⟨e, c4⟩ := q
 cases e with
 | some e =>
  obtain ⟨w1, w2⟩ := hw e rfl
  have dr : nextC c4 = (none, c4) := dry_next (.inl w2)
  rcases w1 with w1 | ⟨w1, w3 | w3⟩
  ·exact k3 e c4 rfl dr i1 w2 w1
  ·exact k4 e c4 rfl dr i1 w2 w1 w3
  ·exact k5 e c4 rfl dr i1 w2 w1 w3
 | none =>
  refine k0 c4 rfl (hd rfl) i1 ?_
  have i2 : c4.st = 2 ∨ c4.st = 3 := i2
  omega
theorem er2 (c : CS) {q : Option EvT × CS} (h : nextC c = q) : nxT c.st c.ctl c.data (encR c.r) (enc c.j) = nxU q := by
 have _ := hb
 rw [nxT_U, h]
theorem er2b (c : CS) {q : Option EvT × CS} (h : nextC { c with st := 2, r := feedX c.r b } = q) : nxT 2 c.ctl c.data (rfdR (encR c.r) b) (enc c.j) = nxU q := by
 rw [rfdR_enc]
 exact er2 b hb { c with st := 2, r := feedX c.r b } h
theorem pre2b {c : CS} (h : CW 1500 c) : nxc_pre 2 c.ctl c.data (rfdR (encR c.r) b) (enc c.j) := by
 rw [rfdR_enc]
 exact nxc_ok (by omega) ((feedC_inv (k := 1500) (s := b) h hb (by omega)).shut (s := 2) (by omega))
theorem fin {c : CS} (i : Nat) (h : CW 1500 c) (hs : c.st = 1 ∨ c.st = 3) (hi : 2000 ≤ i) : AEnds E 7 0 (waits_h1 a b lim i c.st c.ctl c.data (encR c.r) (enc c.j)) (.bool true) [] := by
 have ht : decide ((i : Int) < 2000) = false := decide_eq_false (by omega)
 have hr := rfd_ok (s := b) h (by omega)
 rcases hs with hs | hs
 ·have hp := pre2b b hb h
  have s1 : (c.st != 1) = false := ne_f hs
  have s2 : (!(true == (c.st == 1))) = false := by rw [hs]; rfl
  refine fin1 b hb h hs _ ?_ ?_ ?_ ?_
  ·intro e c4 q1 q2 q3 q4 q5
   exact waits_w1_15 a b lim i c.st c.ctl c.data (encR c.r) (enc c.j) _ (er2b b hb c q1) _ (er2 b hb c4 q2) (eq_t q4) (eq_t q5) rfl (by rw [hs]; rfl) rfl (nxc_ok (by omega) q3) hp hr s2 s1 ht
  ·intro e c4 q1 q2 q3 q4 q5 q6
   exact waits_w1_16 a b lim i c.st c.ctl c.data (encR c.r) (enc c.j) _ (er2b b hb c q1) _ (er2 b hb c4 q2) (eq_t q4) (eq_t q6) (eq_t q5) (eq_f (by show ¬ e.1 = 3; omega)) rfl (by rw [hs]; rfl) rfl (nxc_ok (by omega) q3) hp hr s2 s1 ht
  ·intro e c4 q1 q2 q3 q4 q5 q6
   exact waits_w1_17 a b lim i c.st c.ctl c.data (encR c.r) (enc c.j) _ (er2b b hb c q1) _ (er2 b hb c4 q2) (eq_t q4) (eq_t q6) (eq_f (by show ¬ e.2.2.1 = 1002; omega)) (eq_t q5) (eq_f (by show ¬ e.1 = 3; omega)) rfl (by rw [hs]; rfl) rfl (nxc_ok (by omega) q3) hp hr s2 s1 ht
  ·intro c4 q1 q2 q3 q4
   exact waits_w1_18 a b lim i c.st c.ctl c.data (encR c.r) (enc c.j) _ (er2b b hb c q1) _ (er2 b hb c4 q2) (ne_t q4) rfl rfl (nxc_ok (by omega) q3) hp hr s2 s1 ht
 ·have dr : nextC c = (none, c) := dry_next (.inl hs)
  have hp := nxc_ok (by omega) h
  exact waits_w1_14 a b lim i c.st c.ctl c.data (encR c.r) (enc c.j) _ (er2 b hb c dr) _ (er2 b hb c dr) (ne_t (by show ¬ c.st = 1; omega)) rfl rfl hp hp (ne_f hs) (eq_f (by omega)) (by rw [hs]; rfl) (ne_t (by omega)) ht
theorem brk {c c2 : CS} (i : Nat) (h : CW 1500 c) (hq : nextC c = (none, c2)) (h2 : CW 1500 c2) (hs : c2.st = 1 ∨ c2.st = 3) (hi : i < 2000) : AEnds E 7 0 (waits_h1 a b lim i c.st c.ctl c.data (encR c.r) (enc c.j)) (.bool true) [] := by
 have ht : decide ((i : Int) < 2000) = true := decide_eq_true (by omega)
 have hr := rfd_ok (s := b) h2 (by omega)
 have hp0 := nxc_ok (by omega) h
 have e1 := er2 b hb c hq
 rcases hs with hs | hs
 ·have hp := pre2b b hb h2
  have s1 : (c2.st != 1) = false := ne_f hs
  have s2 : (!(true == (c2.st == 1))) = false := by rw [hs]; rfl
  refine fin1 b hb h2 hs _ ?_ ?_ ?_ ?_
  ·intro e c4 q1 q2 q3 q4 q5
   exact waits_w1_5 a b lim i c.st c.ctl c.data (encR c.r) (enc c.j) _ e1 _ (er2b b hb c2 q1) _ (er2 b hb c4 q2) (eq_t q4) (eq_t q5) rfl (eq_f (by show ¬ c2.st = 3; omega)) rfl (nxc_ok (by omega) q3) hp hr s2 s1 rfl hp0 ht
  ·intro e c4 q1 q2 q3 q4 q5 q6
   exact waits_w1_6 a b lim i c.st c.ctl c.data (encR c.r) (enc c.j) _ e1 _ (er2b b hb c2 q1) _ (er2 b hb c4 q2) (eq_t q4) (eq_t q6) (eq_t q5) (eq_f (by show ¬ e.1 = 3; omega)) rfl (eq_f (by show ¬ c2.st = 3; omega)) rfl (nxc_ok (by omega) q3) hp hr s2 s1 rfl hp0 ht
  ·intro e c4 q1 q2 q3 q4 q5 q6
   exact waits_w1_7 a b lim i c.st c.ctl c.data (encR c.r) (enc c.j) _ e1 _ (er2b b hb c2 q1) _ (er2 b hb c4 q2) (eq_t q4) (eq_t q6) (eq_f (by show ¬ e.2.2.1 = 1002; omega)) (eq_t q5) (eq_f (by show ¬ e.1 = 3; omega)) rfl (eq_f (by show ¬ c2.st = 3; omega)) rfl (nxc_ok (by omega) q3) hp hr s2 s1 rfl hp0 ht
  ·intro c4 q1 q2 q3 q4
   exact waits_w1_8 a b lim i c.st c.ctl c.data (encR c.r) (enc c.j) _ e1 _ (er2b b hb c2 q1) _ (er2 b hb c4 q2) (ne_t q4) rfl rfl (nxc_ok (by omega) q3) hp hr s2 s1 rfl hp0 ht
 ·have dr : nextC c2 = (none, c2) := dry_next (.inl hs)
  have hp := nxc_ok (by omega) h2
  exact waits_w1_4 a b lim i c.st c.ctl c.data (encR c.r) (enc c.j) _ e1 _ (er2 b hb c2 dr) _ (er2 b hb c2 dr) (ne_t (by show ¬ c2.st = 1; omega)) rfl rfl hp hp (ne_f hs) (eq_f (by show ¬ c2.st = 1; omega)) (by show (!(false == (c2.st == 1))) = false; rw [hs]; rfl) (ne_t (by show ¬ c2.st = 1; omega)) rfl hp0 ht
theorem run : ∀ (m i : Nat) (c : CS), i + m = 2000 → CW 1500 c → (c.st = 1 ∨ c.st = 3) → AEnds E 7 0 (waits_h1 a b lim i c.st c.ctl c.data (encR c.r) (enc c.j)) (.bool true) []
 | 0, i, c, hi, h, hs => fin a b lim hb i h hs (by omega)
 | m + 1, i, c, hi, h, hs => by
  obtain ⟨i1, i2⟩ := nextF_inv (mu c.r + 1) c h
  have e : nextC c = nextF (mu c.r + 1) c := rfl
  rw [← e] at i1 i2
  generalize hq : nextC c = q at i1 i2
  obtain ⟨ev, c2⟩ := q
  have i2 : c2.st = c.st ∨ c2.st = 3 := i2
  cases ev with
  | none => exact brk a b lim hb i h hq i1 (by omega) (by omega)
  | some ev =>
   have w := waits_w1_9 a b lim i c.st c.ctl c.data (encR c.r) (enc c.j) _ (er2 b hb c hq) rfl (nxc_ok (by omega) h) (decide_eq_true (by omega))
   rw [show IntKind.i64.wrap ((i : Int) + 1) = ((i + 1 : Nat) : Int) by rw [wrap64_in (by omega) (by omega)]; omega] at w
   exact w.ends (run m (i + 1) c2 (by omega) i1 (by omega))
end
theorem all (a b : ByteArray) (lim : Int) (h : -9223372036854775808 ≤ lim ∧ lim ≤ 9223372036854775807) : AEnds E 7 0 (startC E 7 [.string a, .string b, .int .i64 lim] []) (.bool true) [] := by
 by_cases c1 : 1500 < (slen a : Int)
 ·exact waits_w0_0 a b lim (decide_eq_true c1)
 have d1 := decide_eq_false c1
 by_cases c2 : 1500 < (slen b : Int)
 ·exact waits_w0_1 a b lim (decide_eq_true c2) d1
 have d2 := decide_eq_false c2
 by_cases c3 : lim < 0
 ·exact waits_w0_2 a b lim (decide_eq_true c3) d2 d1
 have d3 := decide_eq_false c3
 by_cases c4 : 5000 < lim
 ·exact waits_w0_3 a b lim (decide_eq_true c4) d3 d2 d1
 have d4 := decide_eq_false c4
 have w := waits_w0_4 a b lim (by rw [rnwR_eq]; exact rfd_ok (c0_inv lim) (by omega)) rfl ⟨by omega, by omega⟩ d4 d3 d2 d1
 rw [rnwR_eq, rfdR_enc, jnwJ_eq] at w
 have hi := feedC_inv (k := 1500) (s := a) (c0_inv lim) (by omega) (by omega)
 rw [Nat.zero_add] at hi
 exact w.ends (run a b lim (by omega) 2000 0 { c0 lim with r := feedX rx0 a } rfl hi (.inl rfl))

theorem walk (a0 : ByteArray) (w0 : a0.size ≤ maxLen) (a1 : ByteArray) (w1 : a1.size ≤ maxLen) (a2 : Int) (w2 : (Lit.int .i64 a2).wf = true) (W : World) (args' : Array Value)
  (ha : ∀ ρ, VL (prOf W) (AN []) ρ [.string a0, .string a1, .int .i64 a2] args'.toList) :
  Calls Try.prog 7 args' W fun e w' => e = .returned (.bool true) ∧ Stays W w' :=
 calls_of_ends (all a0 a1 a2 (by simp [Lit.wf, IntKind.min, IntKind.max, IntKind.bits, IntKind.signed] at w2; omega)) (by kernel_rfl) rfl ha

theorem own : ownKnob Try.prog.godebug = none := by kernel_rfl
theorem laid : laidOutB Try.prog = true := by kernel_rfl

set_option maxRecDepth 100000 in
theorem lifted (os : Os) (started : os.Started) (H : Type) (enc : TypeId × Value → H) :
  ReturnsInHanded {} Try.checked os 7 .any (Rows.wsconnWaitsSpec.pre6 enc Try.prog Try.f7 Rows.wsconnWaitsRow.domain false) (Rows.wsconnWaitsSpec.post enc Try.prog Try.f7 false true false false) := by
 refine returnsInHanded_of_change (C := Try.checked) own started (by kernel_rfl) Try.func7
  (ChangeSpec.witness6 (enc := enc) (C := Try.checked) false ⟨#[], #[.string ⟨#[]⟩, .string ⟨#[]⟩, .int .i64 0], []⟩ 8 (by kernel_rfl) (by kernel_rfl) (by kernel_rfl) (by kernel_rfl)) ?_
 intro W base args ds gs before hval0 hW hcnd _
 have hval : ∀ (j : Nat) t v, Try.f7.params[j]? = some t → args[j]? = some v → Value.okWide Try.prog W .any base t v := hval0
 have hW' := hW
 obtain ⟨p, q, hA0, hV, rfl, hfz, hnd⟩ := hW
 have hA : DataW.TrodAll enc Try.prog W 0 (fun _ => true) true Try.f7.params.toList args.toList ds p := hA0
 rw [Try.params7] at hA hval
 obtain ⟨v0, vs0, d0, ds0, p0, q0, hargs, rfl, rfl, h0, r0⟩ := trodAll_cons hA
 obtain ⟨v1, vs1, d1, ds1, p1, q1, rfl, rfl, rfl, h1, r1⟩ := trodAll_cons r0
 obtain ⟨v2, vs2, d2, ds2, p2, q2, rfl, rfl, rfl, h2, r2⟩ := trodAll_cons r1
 obtain ⟨rfl, rfl, rfl⟩ := trodAll_nil r2
 obtain rfl : args = #[v0, v1, v2] := by cases args; simp_all
 obtain ⟨a0, x0, w0⟩ := read_string Try.underlying9 (hval 0 9 v0 rfl rfl) h0
 obtain ⟨a1, x1, w1⟩ := read_string Try.underlying9 (hval 1 9 v1 rfl rfl) h1
 obtain ⟨a2, x2, w2⟩ := read_int Try.underlying3 (hval 2 3 v2 rfl rfl) h2
 refine (walk a0 w0 a1 w1 a2 w2 W _ (fun ρ => .cons (x0 _ _) (.cons (x1 _ _) (.cons (x2 _ _) (.nil))))).mono fun e W' ⟨he, hg⟩ => ?_
 subst he
 exact ⟨_, rfl, post_law (tb := 4) laid (by rw [Try.params7]; intro t ht; simp only [List.mem_cons, List.not_mem_nil, or_false] at ht; rcases ht with rfl | rfl | rfl <;> exact ⟨by kernel_rfl, by decide +kernel⟩) rfl (by kernel_rfl) Try.underlying4 (by rintro _ rfl; rfl) hW' hg⟩

theorem over : Rows.wsconnWaitsRow.holds Try.pinned (OpenSpec.ofChange Rows.wsconnWaitsSpec) :=
 OpenClaim.holds_of_wide 7 Try.f7 rfl rfl rfl rfl rfl rfl rfl ⟨rfl, rfl, rfl, rfl, rfl⟩ rfl rfl rfl rfl rfl (by kernel_rfl) Try.func7 (by kernel_rfl)
  (of_decide_eq_true (by kernel_rfl)) (by unfold Func.isWrapper; first | (rw [if_pos (by decide +kernel)]; kernel_rfl) | (rw [if_neg (by decide +kernel)]; exact ⟨rfl, rfl⟩))
  (fun os started H enc _ => lifted os started H enc)

theorem proved : Rows.WsconnWaitsSaid :=
 over


end Go.Proofs.Ytfpnjpbdaniomaa.wsconnWaits
