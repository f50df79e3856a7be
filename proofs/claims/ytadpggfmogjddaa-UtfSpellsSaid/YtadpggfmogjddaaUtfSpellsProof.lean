/-
  PROVED: the law UtfSpells hands back true at every input, and its arguments read behind the call as they read before.
-/
import Derived.Test.YtadpggfmogjddaaRows
import Derived.Test.YtadpggfmogjddaaUtfT
import Derived.Test.YtadpggfmogjddaaUtfU
set_option linter.unusedVariables false
set_option linter.unusedSimpArgs false
open Go Go.Am Go.ChangeShapes Go.WideShapes Go.ChangeAt Go.RowKit
namespace Go.Proofs.Ytadpggfmogjddaa.utfSpells

theorem safe (s out : ByteArray) (i : Nat) (a b c d t4 last : Int) (hs : slen s ≤ 5000) (ho : slen out ≤ 5000) : spells_S1 s i a b c d t4 out last := by
  have e (x : Int) : slen out + slen (Utf8.encode x) ≤ 9223372036854775807 := by have := enc_len x; omega
  have v1 : valid_pre s := by unfold valid_pre; omega
  have v2 : valid_pre out := by unfold valid_pre; omega
  unfold spells_S1
  simp +contextual [step_safe, e, v1, v2]
  intro h1 _ _ _ h2
  have : slen out < slen s := by omega
  simp [this]

/-- What stands written, at a place of the text. -/
def Inv (s : ByteArray) (i : Nat) (q : Q) (t4 : Int) (out : ByteArray) : Prop :=
  st (0, 0, 0, 0) ((toL s).take i) = some q ∧ toL out = (toL s).take (slen out) ∧ (∃ q', st (0, 0, 0, 0) (toL out) = some q' ∧ q'.1 = 0) ∧
  ((q.1 = 0 ∧ slen out = i) ∨ (t4 = slen out ∧ slen out < i ∧ In (((toL s).drop (slen out)).take (i - slen out)) q))

theorem fin (s : ByteArray) (hs : slen s ≤ 5000) {i : Nat} {q : Q} {t4 : Int} {out : ByteArray} {last : Int} (hi : i ≤ slen s) (hl : last ≤ slen s) (hI : Inv s i q t4 out) (he : i < slen s → wholeD (0, 0, 0, 0) (toL s) = false) :
    (bif decide ((slen s : Int) < (slen out : Int)) then (.inr false : spells_R)
        else bif !toL out == toL (sub s 0 (slen out : Int).toNat) then .inr false
          else bif decide ((slen s : Int) < last) then .inr false
            else bif wholeD (0, 0, 0, 0) (toL out) then .inr (wholeD (0, 0, 0, 0) (toL s) == (toL out == toL s))
              else .inr false) = .inr true := by
  obtain ⟨h1, h2, ⟨q', h3, h4⟩, h5⟩ := hI
  have hle : slen out ≤ i := by rcases h5 with h5 | h5 <;> omega
  rw [show decide ((slen s : Int) < (slen out : Int)) = false by simp; omega, show decide ((slen s : Int) < last) = false by simp; omega, Int.toNat_natCast]
  have e1 : toL (sub s 0 (slen out)) = (toL s).take (slen out) := by simp [sub, toL, ofL]
  have e2 : (toL out == toL (sub s 0 (slen out))) = true := by rw [e1, ← h2]; simp
  have e3 : wholeD (0, 0, 0, 0) (toL out) = true := by rw [wholeD_st, h3]; simp [h4]
  rw [e2, e3]
  simp only [Bool.not_true, cond_false, cond_true]
  have e4 : (wholeD (0, 0, 0, 0) (toL s) == (toL out == toL s)) = true := by
    rcases Nat.lt_or_ge i (slen s) with hlt | hge
    · rw [he hlt]
      have : (toL out == toL s) = false := by
        simp only [beq_eq_false_iff_ne]
        intro h
        have := congrArg List.length h
        unfold slen at *
        omega
      rw [this]; rfl
    · have hi2 : i = slen s := by omega
      rw [List.take_of_length_le (show (toL s).length ≤ i by unfold slen at hi2; omega)] at h1
      rw [wholeD_st, h1]
      rcases h5 with ⟨g1, g2⟩ | ⟨g1, g2, g3⟩
      · have : toL out = toL s := by rw [h2, List.take_of_length_le (by unfold slen at *; omega)]
        rw [this]; simp [g1]
      · have g := (In_left g3).1
        have : (toL out == toL s) = false := by
          simp only [beq_eq_false_iff_ne]
          intro h
          have := congrArg List.length h
          unfold slen at *
          omega
        rw [this]
        simp [g]
  rw [e4]

theorem take_snoc {l : List UInt8} {i : Nat} (h : i < l.length) : l.take (i + 1) = l.take i ++ [l[i]] := by
  rw [List.take_add_one, List.getElem?_eq_getElem h]; rfl
theorem mid_snoc {l : List UInt8} {f i : Nat} (hf : f ≤ i) (h : i < l.length) : (l.drop f).take (i + 1 - f) = (l.drop f).take (i - f) ++ [l[i]] := by
  rw [show i + 1 - f = (i - f) + 1 by omega, take_snoc (by rw [List.length_drop]; omega), List.getElem_drop]
  simp only [show f + (i - f) = i by omega]

/-- One byte more. -/
theorem inv_next {s out : ByteArray} {i : Nat} {q : Q} {t4 : Int} (hl : i < (toL s).length) (hI : Inv s i q t4 out) (hb : (sst q (toL s)[i].toNat).1 = true) :
    ((sst q (toL s)[i].toNat).2.1 = 0 → okR (sst q (toL s)[i].toNat).2.2.2.2 ∧ (q.1 ≠ 0 → t4 = slen out) ∧ (q.1 = 0 → (i : Int) = slen out) ∧ ∀ t, Inv s (i + 1) (sst q (toL s)[i].toNat).2 t (cat out (Utf8.encode (sst q (toL s)[i].toNat).2.2.2.2))) ∧
    ((sst q (toL s)[i].toNat).2.1 ≠ 0 → Inv s (i + 1) (sst q (toL s)[i].toNat).2 (if q.1 = 0 then i else t4) out) := by
  obtain ⟨h1, h2, ⟨q', h3, h4⟩, h5⟩ := hI
  have hle : slen out ≤ i := by rcases h5 with h5 | h5 <;> omega
  have hst : st (0, 0, 0, 0) ((toL s).take (i + 1)) = some (sst q (toL s)[i].toNat).2 := by
    rw [take_snoc hl, st_append, h1]
    simp only [st]
    generalize sst q (toL s)[i].toNat = x at hb
    obtain ⟨y, z⟩ := x
    subst hb
    rfl
  have hm := mid_snoc (f := slen out) hle hl
  -- what is read of a character
  have key : ((sst q (toL s)[i].toNat).2.1 = 0 ∧ okR (sst q (toL s)[i].toNat).2.2.2.2 ∧ toL (Utf8.encode (sst q (toL s)[i].toNat).2.2.2.2) = ((toL s).drop (slen out)).take (i + 1 - slen out)) ∨ In (((toL s).drop (slen out)).take (i + 1 - slen out)) (sst q (toL s)[i].toNat).2 := by
    rw [hm]
    rcases h5 with ⟨g1, g2⟩ | ⟨g1, g2, g3⟩
    · rw [g2, Nat.sub_self, List.take_zero, List.nil_append]
      obtain ⟨l, lo, hi, x⟩ := q
      dsimp only at g1
      subst g1
      exact In_first hb
    · exact In_next g3 hb
  generalize hr : sst q (toL s)[i].toNat = r at *
  refine ⟨fun hz => ?_, fun hz => ?_⟩
  · rcases key with ⟨_, k2, k3⟩ | k
    case inr => exact absurd hz (In_left k).1
    refine ⟨k2, fun hq => ?_, fun hq => ?_, fun t => ?_⟩
    · rcases h5 with ⟨g1, _⟩ | ⟨g1, _⟩
      · exact absurd g1 hq
      · exact g1
    · rcases h5 with ⟨_, g2⟩ | ⟨_, _, g3⟩
      · omega
      · exact absurd hq (In_left g3).1
    · have hc : toL (cat out (Utf8.encode r.2.2.2.2)) = (toL s).take (i + 1) := by
        rw [toL_cat, k3, h2]
        rw [show slen out = ((toL s).take (slen out)).length by rw [List.length_take]; unfold slen at *; omega] 
        rw [List.length_take, Nat.min_eq_left (by omega)]
        rw [← List.take_add, show slen out + (i + 1 - slen out) = i + 1 by omega]
      have hlen : slen (cat out (Utf8.encode r.2.2.2.2)) = i + 1 := by unfold slen; rw [hc, List.length_take]; omega
      exact ⟨hst, by rw [hlen]; exact hc, ⟨r.2, by rw [hc]; exact hst, hz⟩, .inl ⟨hz, hlen⟩⟩
  · rcases key with ⟨k1, _⟩ | k
    · exact absurd k1 hz
    refine ⟨hst, h2, ⟨q', h3, h4⟩, .inr ⟨?_, by omega, k⟩⟩
    rcases h5 with ⟨g1, g2⟩ | ⟨g1, g2, g3⟩
    · rw [if_pos g1]; omega
    · rw [if_neg (In_left g3).1]; exact g1

theorem run (s : ByteArray) (hs : slen s ≤ 5000) : ∀ (n i : Nat) (q : Q) (t4 : Int) (out : ByteArray) (last : Int), i + n = slen s → Inv s i q t4 out → last ≤ slen s → 
    AEnds E 8 0 (spells_h1 s i q.1 q.2.1 q.2.2.1 q.2.2.2 t4 out last) (.bool true) []
  | 0, i, q, t4, out, last, hi, hI, hl => by
    have hso : slen out ≤ i := by obtain ⟨_, _, _, h5⟩ := hI; rcases h5 with h5 | h5 <;> omega
    have h := spells_ok1 s i q.1 q.2.1 q.2.2.1 q.2.2.2 t4 out last (safe _ _ _ _ _ _ _ _ _ hs (by omega))
    unfold spells_t1 at h
    rw [show decide ((i : Int) < (slen s : Int)) = false by simp; omega] at h
    rw [cond_false, fin s hs (by omega) hl hI (fun hh => by omega)] at h
    exact spells_end h
  | n + 1, i, q, t4, out, last, hi, hI, hl => by
    have hso : slen out ≤ i := by obtain ⟨_, _, _, h5⟩ := hI; rcases h5 with h5 | h5 <;> omega
    have hlt : i < (toL s).length := by unfold slen at hi; omega
    have hch : chr s i = ((toL s)[i].toNat : Int) := by simp [chr, List.getD_eq_getElem?_getD, hlt]
    have h := spells_ok1 s i q.1 q.2.1 q.2.2.1 q.2.2.2 t4 out last (safe _ _ _ _ _ _ _ _ _ hs (by omega))
    have e0 : step_t0 q.1 q.2.1 q.2.2.1 q.2.2.2 0 false (chr s i) = sst q (toL s)[i].toNat := by rw [hch]; rfl
    have hf := fin s hs (last := last) (by omega) hl hI
    have hnx := inv_next hlt hI
    unfold spells_t1 at h
    rw [Int.toNat_natCast] at h
    simp only [e0, show decide ((i : Int) < (slen s : Int)) = true by simp; omega, cond_true] at h
    rw [wrap64_in (x := (i : Int) + 1) (by omega) (by omega), show (i : Int) + 1 = ((i + 1 : Nat) : Int) by omega] at h
    have hst : (sst q (toL s)[i].toNat).1 = false → wholeD (0, 0, 0, 0) (toL s) = false := by
      intro hb
      rw [wholeD_st, ← List.take_append_drop i (toL s), st_append, hI.1]
      dsimp only
      rw [List.drop_eq_getElem_cons hlt, st]
      generalize sst q (toL s)[i].toNat = x at hb ⊢
      obtain ⟨y, z⟩ := x
      subst hb
      rfl
    clear hch e0
    generalize sst q (toL s)[i].toNat = r at h hnx hst
    cases hb : r.1 with
    | false =>
      rw [hb] at h hst
      simp only [Bool.not_false, cond_true, Bool.cond_self] at h
      rw [hf (fun _ => hst rfl)] at h
      exact spells_end h
    | true =>
      obtain ⟨n1, n2⟩ := hnx hb
      simp only [hb, Bool.not_true, cond_false] at h
      cases hz : (r.2.1 == 0) with
      | true =>
        have hz2 : r.2.1 = 0 := by simpa using hz
        obtain ⟨k1, k2, k3, k4⟩ := n1 hz2
        simp only [hz, cond_true] at h
        have b1 : decide (r.2.2.2.2 < 0) = false := by unfold okR at k1; simp; omega
        have b2 : decide (1114111 < r.2.2.2.2) = false := by unfold okR at k1; simp; omega
        have b3 : 55296 ≤ r.2.2.2.2 → decide (r.2.2.2.2 ≤ 57343) = false := by unfold okR at k1; simp; omega
        rw [b1, b2] at h
        have nx (t : Int) (l : Int) (hl : l ≤ slen s) := run s hs n (i + 1) r.2 t _ l (by omega) (k4 t) hl
        cases hq : (q.1 == 0) with
        | true =>
          have hq2 : q.1 = 0 := by simpa using hq
          have e : (((i : Int) != (slen out : Int)) : Bool) = false := by rw [k3 hq2]; simp
          rw [hq, e] at h
          simp only [cond_true, cond_false] at h
          by_cases c : 55296 ≤ r.2.2.2.2
          · rw [b3 c] at h
            simp only [cond_false, Bool.cond_self] at h
            exact (spells_go1 h).ends (nx i i (by omega))
          · rw [decide_eq_false c] at h
            simp only [cond_false] at h
            exact (spells_go1 h).ends (nx i i (by omega))
        | false =>
          have hq2 : q.1 ≠ 0 := by simpa using hq
          have e : ((t4 != (slen out : Int)) : Bool) = false := by rw [k2 hq2]; simp
          have ht : t4 ≤ slen s := by rw [k2 hq2]; omega
          rw [hq, e] at h
          simp only [cond_true, cond_false] at h
          by_cases c : 55296 ≤ r.2.2.2.2
          · rw [b3 c] at h
            simp only [cond_false, Bool.cond_self] at h
            exact (spells_go1 h).ends (nx t4 t4 ht)
          · rw [decide_eq_false c] at h
            simp only [cond_false] at h
            exact (spells_go1 h).ends (nx t4 t4 ht)
      | false =>
        have hz2 : r.2.1 ≠ 0 := by simpa using hz
        simp only [hz, cond_false] at h
        have nx := run s hs n (i + 1) r.2 _ _ last (by omega) (n2 hz2) hl
        cases hq : (q.1 == 0) with
        | true =>
          have hq2 : q.1 = 0 := by simpa using hq
          rw [if_pos hq2] at nx
          rw [hq] at h
          exact (spells_go1 h).ends nx
        | false =>
          have hq2 : q.1 ≠ 0 := by simpa using hq
          rw [if_neg hq2] at nx
          rw [hq] at h
          exact (spells_go1 h).ends nx

theorem all (s : ByteArray) : AEnds E 8 0 (startC E 8 [.string s] []) (.bool true) [] := by
  have h := spells_ok0 s (by unfold spells_S0; simp [awakeN_S0])
  unfold spells_t0 at h
  by_cases c1 : 5000 < (slen s : Int)
  · rw [decide_eq_true c1] at h
    exact spells_end h
  rw [decide_eq_false c1] at h
  have h1 := run s (by omega) (slen s) 0 (0, 0, 0, 0) 0 ⟨#[]⟩ 0 (by omega) ⟨rfl, rfl, ⟨_, rfl, rfl⟩, .inl ⟨rfl, rfl⟩⟩ (by omega)
  exact (spells_go1 h).ends h1

theorem walk (a0 : ByteArray) (w0 : a0.size ≤ maxLen) (W : World) (args' : Array Value)
    (ha : ∀ ρ, VL (prOf W) (AN []) ρ [.string a0] args'.toList) :
    Calls Try.prog 8 args' W fun e w' => e = .returned (.bool true) ∧ Stays W w' :=
  calls_of_ends (all a0) (by kernel_rfl) rfl ha

theorem own : ownKnob Try.prog.godebug = none := by kernel_rfl
theorem laid : laidOutB Try.prog = true := by kernel_rfl

set_option maxRecDepth 100000 in
theorem lifted (os : Os) (started : os.Started) (H : Type) (enc : TypeId × Value → H) :
    ReturnsInHanded {} Try.checked os 8 .any (Rows.utfSpellsSpec.pre6 enc Try.prog Try.f8 Rows.utfSpellsRow.domain false) (Rows.utfSpellsSpec.post enc Try.prog Try.f8 false true false false) := by
  refine returnsInHanded_of_change (C := Try.checked) own started (by kernel_rfl) Try.func8
    (ChangeSpec.witness6 (enc := enc) (C := Try.checked) false ⟨#[], #[.string ⟨#[]⟩], []⟩ 8 (by kernel_rfl) (by kernel_rfl) (by kernel_rfl) (by kernel_rfl)) ?_
  intro W base args ds gs before hval0 hW hcnd _
  have hval : ∀ (j : Nat) t v, Try.f8.params[j]? = some t → args[j]? = some v → Value.okWide Try.prog W .any base t v := hval0
  have hW' := hW
  obtain ⟨p, q, hA0, hV, rfl, hfz, hnd⟩ := hW
  have hA : DataW.TrodAll enc Try.prog W 0 (fun _ => true) true Try.f8.params.toList args.toList ds p := hA0
  rw [Try.params8] at hA hval
  obtain ⟨v0, vs0, d0, ds0, p0, q0, hargs, rfl, rfl, h0, r0⟩ := trodAll_cons hA
  obtain ⟨rfl, rfl, rfl⟩ := trodAll_nil r0
  obtain rfl : args = #[v0] := by cases args; simp_all
  obtain ⟨a0, x0, w0⟩ := read_string Try.underlying9 (hval 0 9 v0 rfl rfl) h0
  refine (walk a0 w0 W _ (fun ρ => .cons (x0 _ _) (.nil))).mono fun e W' ⟨he, hg⟩ => ?_
  subst he
  exact ⟨_, rfl, post_law (tb := 4) laid (by rw [Try.params8]; intro t ht; simp only [List.mem_cons, List.not_mem_nil, or_false] at ht; subst ht; exact ⟨by kernel_rfl, by decide +kernel⟩) rfl (by kernel_rfl) Try.underlying4 (by rintro _ rfl; rfl) hW' hg⟩

theorem over : Rows.utfSpellsRow.holds Try.pinned (OpenSpec.ofChange Rows.utfSpellsSpec) :=
  OpenClaim.holds_of_wide 8 Try.f8 rfl rfl rfl rfl rfl rfl rfl ⟨rfl, rfl, rfl, rfl, rfl⟩ rfl rfl rfl rfl rfl (by kernel_rfl) Try.func8 (by kernel_rfl)
    (of_decide_eq_true (by kernel_rfl)) (by unfold Func.isWrapper; first | (rw [if_pos (by decide +kernel)]; kernel_rfl) | (rw [if_neg (by decide +kernel)]; exact ⟨rfl, rfl⟩))
    (fun os started H enc _ => lifted os started H enc)

theorem proved : Rows.UtfSpellsSaid :=
  over


end Go.Proofs.Ytadpggfmogjddaa.utfSpells
