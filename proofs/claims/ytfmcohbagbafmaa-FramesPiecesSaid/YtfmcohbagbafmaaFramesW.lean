/-
  Plain laws of what is told: how many events there are, how long their texts; pieces are not empty and not longer than their frames.
-/
import Derived.Test.YtfmcohbagbafmaaFramesQ
set_option linter.unusedVariables false
set_option linter.unusedSimpArgs false
open Go Go.Am
namespace Go.Proofs.Ytfmcohbagbafmaa

theorem addE_len (l : List Ev) (e : Ev) : l.length ≤ (addE l e).length := by
  unfold addE
  split
  · rename_i q hq
    split
    · have : l ≠ [] := by intro h; subst h; cases hq
      have := List.length_pos_iff.2 this
      rw [List.length_append, List.length_dropLast]; simp; omega
    · simp
  · simp
theorem tell_mono (m : Bool) : ∀ (n : Nat) (x : RX) (l : List Ev), l.length ≤ (tell m n x l).1.length
  | 0, x, l => Nat.le_refl _
  | n + 1, x, l => by
    rw [tell]
    cases rOk (stepT m x) with
    | false => exact Nat.le_refl _
    | true => exact Nat.le_trans (addE_len l _) (tell_mono m n _ _)
theorem tell_inv (m : Bool) : ∀ (n : Nat) (x : RX) (l : List Ev), Inv x → mu x < n → Inv (tell m n x l).2
  | 0, x, l, _, h => absurd h (Nat.not_lt_zero _)
  | n + 1, x, l, hI, h => by
    rw [tell]
    cases hok : rOk (stepT m x) with
    | false =>
      rw [cond_false, stepT_no hI hok]
      exact hI
    | true =>
      obtain ⟨hI', hmu⟩ := step_inv (m := m) hI hok
      exact tell_inv m n _ _ hI' (by omega)
theorem addE_text {l : List Ev} {e : Ev} {A B C : Nat} (hl : ∀ p ∈ l, slen p.text + A ≤ B) (he : slen e.text + C ≤ A) (hA : A ≤ B) : ∀ p ∈ addE l e, slen p.text + C ≤ B := by
  intro p hp
  unfold addE at hp
  split at hp
  · rename_i q hq
    have hql := List.mem_of_getLast? hq
    split at hp
    · rw [List.mem_append] at hp
      rcases hp with hp | hp
      · have := hl p ((List.dropLast_sublist l).subset hp); omega
      · simp at hp
        subst hp
        have := hl q hql
        show slen (cat q.text e.text) + _ ≤ _
        rw [slen_cat]
        omega
    · rw [List.mem_append] at hp
      rcases hp with hp | hp
      · have := hl p hp; omega
      · simp at hp; subst hp; omega
  · rw [List.mem_append] at hp
    rcases hp with hp | hp
    · have := hl p hp; omega
    · simp at hp; subst hp; omega
theorem tell_text (m : Bool) (B : Nat) : ∀ (n : Nat) (x : RX) (l : List Ev), Inv x → mu x < n → slen (xIn x) ≤ B → (∀ p ∈ l, slen p.text + slen (xIn x) ≤ B) → slen (xIn (tell m n x l).2) ≤ slen (xIn x) ∧ ∀ p ∈ (tell m n x l).1, slen p.text + slen (xIn (tell m n x l).2) ≤ B
  | 0, x, l, _, h, _, _ => absurd h (Nat.not_lt_zero _)
  | n + 1, x, l, hI, h, hB, hl => by
    rw [tell]
    cases hok : rOk (stepT m x) with
    | false =>
      rw [cond_false, stepT_no hI hok]
      exact ⟨Nat.le_refl _, hl⟩
    | true =>
      have ht := step_text hI hok
      obtain ⟨hI', hmu⟩ := step_inv (m := m) hI hok
      obtain ⟨g1, g2⟩ := tell_text m B n (rx (stepT m x)) (addE l (rEv (stepT m x))) hI' (by omega) (by omega) (addE_text hl ht hB)
      rw [cond_true]
      exact ⟨by omega, g2⟩
/-- Pieces are not empty, and not longer than what was told ahead of them. -/
def Good (l : List Ev) : Prop := ∀ (i : Nat) (e : Ev), l[i]? = some e → e.k = (2 : Int) → toL e.text ≠ [] ∧ ∃ (j : Nat) (p : Ev), i = j + 1 ∧ l[j]? = some p ∧ (slen e.text : Int) ≤ p.len
theorem good_app {l : List Ev} {e : Ev} (h : Good l) (he : e.k = (2 : Int) → toL e.text ≠ [] ∧ ∃ (j : Nat) (p : Ev), l.length = j + 1 ∧ l[j]? = some p ∧ (slen e.text : Int) ≤ p.len) : Good (l ++ [e]) := by
  intro i x hx hk
  rcases Nat.lt_or_ge i l.length with hi | hi
  · rw [List.getElem?_append_left hi] at hx
    obtain ⟨h1, j, p, h2, h3, h4⟩ := h i x hx hk
    exact ⟨h1, j, p, h2, by rw [List.getElem?_append_left (by omega)]; exact h3, h4⟩
  · have hlt := (List.getElem?_eq_some_iff.1 hx).1
    simp at hlt
    have : i = l.length := by omega
    subst this
    simp at hx
    subst hx
    obtain ⟨h1, j, p, h2, h3, h4⟩ := he hk
    exact ⟨h1, j, p, h2, by rw [List.getElem?_append_left (by omega)]; exact h3, h4⟩
theorem maskL_len' (k : List Int) (a : Int) (s : ByteArray) : slen (maskD k a s) = slen s := by
  unfold maskD
  cases decide (a < 0) with
  | true => rfl
  | false =>
    rw [cond_false]
    have hm := maskL_len k (toL s) a.toNat
    simp only [slen, toL, ofL] at hm ⊢
    exact hm
theorem good_evs {s : ByteArray} {l : List Ev} (h : Good l) (ho : hOk s = true) : Good (l ++ evsOf s) := by
  unfold evsOf
  split
  · exact good_app h (fun h2 => by cases h2)
  · rename_i hk
    have h1 : Good (l ++ [evBegin s]) := good_app h (fun h2 => by cases h2)
    have e : l ++ [evBegin s, evPiece s] = l ++ [evBegin s] ++ [evPiece s] := by simp
    rw [e]
    have hlen : slen (evPiece s).text = kOfS s := by
      show slen (maskD _ _ _) = _
      rw [maskL_len', slen_sub]
      unfold kOfS
      omega
    refine good_app h1 (fun _ => ⟨fun h0 => ?_, l.length, evBegin s, by simp, by simp, ?_⟩)
    · have : slen (evPiece s).text = 0 := by unfold slen; rw [h0]; rfl
      omega
    · rw [hlen]
      show (kOfS s : Int) ≤ hLen s
      have := hLen_bd s
      unfold kOfS
      omega
theorem good_all (m : Bool) : ∀ (n : Nat) (s : ByteArray) (l : List Ev), Good l → Good (allD m n s l).1
  | 0, s, l, h => h
  | n + 1, s, l, h => by
    rw [allD]
    cases ho : hOk s with
    | false => exact h
    | true =>
      simp only [Bool.not_true, cond_false]
      cases mayS m s with
      | false =>
        exact good_app h (fun h2 => by cases h2)
      | true =>
        simp only [Bool.not_true, cond_false]
        cases decide ((kOfS s : Int) < hLen s) with
        | true => exact good_evs h ho
        | false => exact good_all m n _ _ (good_app (good_evs h ho) (fun h2 => by cases h2))
theorem tellOf_good (m : Bool) (s : ByteArray) (hs : slen s ≤ 1000000) : Good (tellOf m (x0 s)).1 := by
  have hmu : mu (x0 s) = 3 * slen s + 0 := by unfold mu; rfl
  have A := tell_all m (slen s + 1) s [] (mu (x0 s) + 1) (x0 s) rfl rfl (by omega) (by omega) (by omega)
  have ht : tell m (mu (x0 s) + 1) (x0 s) [] = tellOf m (x0 s) := rfl
  rw [ht] at A
  obtain ⟨a1, a2, a3, a4, a5⟩ := A
  rw [a1]
  exact good_all m _ s [] (by intro i e h; simp at h)
theorem cat_sub (t : ByteArray) (k : Nat) (h : k ≤ slen t) : cat (sub t 0 k) (sub t k (slen t)) = t := by
  apply ext
  have e : List.take (slen t - k) (List.drop k (toL t)) = List.drop k (toL t) := List.take_of_length_le (by rw [List.length_drop]; unfold slen; omega)
  rw [toL_cat, toL_sub, toL_sub, List.drop_zero, Nat.sub_zero, e, List.take_append_drop]
end Go.Proofs.Ytfmcohbagbafmaa

/-
  The statement FramesPieces hands back true.
-/
set_option linter.unusedVariables false
set_option linter.unusedSimpArgs false
open Go Go.Am
namespace Go.Proofs.Ytfmcohbagbafmaa

/-- The head of the walk over the cuts: what was told (l), how the reader stands (x), the bytes behind (t), the cut's number. -/
noncomputable def hdP (s : ByteArray) (cuts : List Int) (m : Bool) (l : List Ev) (t : ByteArray) (j : Nat) (x : RX) : Cfg :=
  fpieces_h1 s cuts m l.length t j x.1 x.2.1 x.2.2.1 x.2.2.2.1 x.2.2.2.2.1 x.2.2.2.2.2.1 x.2.2.2.2.2.2.1 x.2.2.2.2.2.2.2.1 x.2.2.2.2.2.2.2.2.1 x.2.2.2.2.2.2.2.2.2.1 x.2.2.2.2.2.2.2.2.2.2.1 x.2.2.2.2.2.2.2.2.2.2.2.1 x.2.2.2.2.2.2.2.2.2.2.2.2 (evsV l)
theorem U8_get {l : List Int} {i : Nat} {x : Int} (h : l[i]? = some x) : (l.map (Value.int .u8)).getD i undef = .int .u8 x := by
  rw [List.getD_eq_getElem?_getD, List.getElem?_map, h]; rfl
section
variable {s : ByteArray} {cuts : List Int} {m : Bool}
/-- What one reader tells. -/
theorem ev_get {l : List Ev} {i : Nat} {e : Ev} (h : l[i]? = some e) : (evsV l).getD (0 + i * 5 + 0) undef = .int .i64 e.k ∧ (evsV l).getD (0 + i * 5 + 1) undef = .int .i64 e.op ∧ (evsV l).getD (0 + i * 5 + 2) undef = .bool e.fin ∧ (evsV l).getD (0 + i * 5 + 3) undef = .int .i64 e.len ∧ (evsV l).getD (0 + i * 5 + 4) undef = .string e.text := by
  have g := fun j hj => evs_at2 l i e j h hj
  rw [Nat.zero_add]
  exact ⟨g 0 (by omega), g 1 (by omega), g 2 (by omega), g 3 (by omega), g 4 (by omega)⟩
theorem pieces_cmp (hs : slen s ≤ 10000) (T : List Ev × RX) (hT : tellOf m (x0 s) = T) (hlen : T.1.length ≤ 100000) (hG : Good T.1) : ∀ (k i : Nat) (g : Int), i + k = T.1.length → (∀ (j : Nat) (p : Ev), i = j + 1 → T.1[j]? = some p → g = p.len) →
    AEnds E 8 0 (fpieces_h2 s cuts m T.1.length (evsV T.1) g i) (.bool true) []
  | 0, i, g, hi, hg => by
    have hT' : tellOf m (0, cat ⟨#[]⟩ s, false, 0, 0, false, 0, 0, 0, 0, 0, false, 0) = T := by rw [cat_nil]; exact hT
    exact fpieces_w2_2 s cuts m T.1.length (evsV T.1) g i T hT' (by simp; omega)
  | k + 1, i, g, hi, hg => by
    have hT' : tellOf m (0, cat ⟨#[]⟩ s, false, 0, 0, false, 0, 0, 0, 0, 0, false, 0) = T := by rw [cat_nil]; exact hT
    obtain ⟨e, he⟩ : ∃ e, T.1[i]? = some e := ⟨_, List.getElem?_eq_getElem (by omega)⟩
    obtain ⟨g0, g1, g2, g3, g4⟩ := ev_get he
    have hl5 := evs_len T.1
    have hfl := evs_flat T.1
    have ih := pieces_cmp hs T hT hlen hG k (i + 1) e.len (by omega) (fun j p hj hp => by
      have : i = j := by omega
      subst this
      rw [he] at hp
      cases hp
      rfl)
    have hbd : ((i : Int) < (T.1.length : Int)) := by omega
    have heq : (!(e.k == e.k && (e.op == e.op && (e.fin == e.fin && (e.len == e.len && toL e.text == toL e.text))))) = false := by simp
    by_cases hk : e.k = 2
    · obtain ⟨q1, j, p, q2, q3, q4⟩ := hG i e he hk
      have hgp := hg j p q2 q3
      have w := fpieces_w2_1 s cuts m T.1.length (evsV T.1) g i T hT'
      simp only [Int.toNat_natCast, g0, g1, g2, g3, g4, toInt, toStr, Am.toBool, isInt, isStr, isBool] at w
      rw [wrap64_in (x := (i : Int) + 1) (by omega) (by omega)] at w
      have hne : (toL e.text == []) = false := by
        cases h : toL e.text with
        | nil => exact absurd h q1
        | cons a r => rfl
      have hlong : decide (g < (slen e.text : Int)) = false := by simp; omega
      refine Gets.ends ?_ ih
      apply w
      all_goals first | assumption | rfl | omega | (simp; done) | (simp [hk]; done) | (simp; omega)
    · have w := fpieces_w2_0 s cuts m T.1.length (evsV T.1) g i T hT'
      simp only [Int.toNat_natCast, g0, g1, g2, g3, g4, toInt, toStr, Am.toBool, isInt, isStr, isBool] at w
      rw [wrap64_in (x := (i : Int) + 1) (by omega) (by omega)] at w
      have hkb : (e.k == 2) = false := by simp [hk]
      refine Gets.ends ?_ ih
      apply w
      all_goals first | assumption | rfl | omega | (simp; done) | (simp; omega)
theorem tl2_evs (m : Bool) (x : RX) (l : List Ev) : tl2 m x l.length (evsV l) = tl m x l := by
  unfold tl2 tl
  rw [parse_evs]
theorem pieces_end (hs : slen s ≤ 10000) (T : List Ev × RX) (hT : tellOf m (x0 s) = T) (hlen : T.1.length ≤ 100000) (hG : Good T.1) (t : ByteArray) (j : Nat) (hj : (j : Int) = cuts.length + 1) : AEnds E 8 0 (hdP s cuts m T.1 t j T.2) (.bool true) [] := by
  have hT' : tellOf m (0, cat ⟨#[]⟩ s, false, 0, 0, false, 0, 0, 0, 0, 0, false, 0) = T := by rw [cat_nil]; exact hT
  have hc := pieces_cmp (cuts := cuts) hs T hT hlen hG T.1.length 0 0 (Nat.zero_add _) (fun j p hj hp => by omega)
  have hd : decide ((j : Int) ≤ (cuts.length : Int)) = false := by simp; omega
  have hfl := evs_flat T.1
  unfold hdP
  generalize hx : T.2 = x at *
  by_cases c0 : x.1 = 0
  · have e0 : (x.1 == 0) = true := by simp [c0]
    refine Gets.ends ?_ hc
    apply fpieces_w1_4 s cuts m T.1.length t j x.1 x.2.1 x.2.2.1 x.2.2.2.1 x.2.2.2.2.1 x.2.2.2.2.2.1 x.2.2.2.2.2.2.1 x.2.2.2.2.2.2.2.1 x.2.2.2.2.2.2.2.2.1 x.2.2.2.2.2.2.2.2.2.1 x.2.2.2.2.2.2.2.2.2.2.1 x.2.2.2.2.2.2.2.2.2.2.2.1 x.2.2.2.2.2.2.2.2.2.2.2.2 (evsV T.1) T hT'
    all_goals first | assumption | (rw [hx]; simp; done) | (rw [hx]; assumption) | (simp; done)
  · have e0 : (x.1 == 0) = false := by simp [c0]
    refine Gets.ends ?_ hc
    apply fpieces_w1_7 s cuts m T.1.length t j x.1 x.2.1 x.2.2.1 x.2.2.2.1 x.2.2.2.2.1 x.2.2.2.2.2.1 x.2.2.2.2.2.2.1 x.2.2.2.2.2.2.2.1 x.2.2.2.2.2.2.2.2.1 x.2.2.2.2.2.2.2.2.2.1 x.2.2.2.2.2.2.2.2.2.2.1 x.2.2.2.2.2.2.2.2.2.2.2.1 x.2.2.2.2.2.2.2.2.2.2.2.2 (evsV T.1) T hT'
    all_goals first | assumption | (rw [hx]; simp; done) | (rw [hx]; assumption) | (simp; done)
end
end Go.Proofs.Ytfmcohbagbafmaa

/-
  The statement FramesPieces hands back true: the walk over the cuts.
-/
set_option linter.unusedVariables false
set_option linter.unusedSimpArgs false
open Go Go.Am
namespace Go.Proofs.Ytfmcohbagbafmaa

section
variable {s : ByteArray} {cuts : List Int} {m : Bool}
/-- What holds at each cut. -/
structure AtCut (m : Bool) (T : List Ev × RX) (x : RX) (l : List Ev) (t : ByteArray) : Prop where
  inv : Inv x
  key : tl m (fd x t) l = T
  room : slen (xIn x) + slen t ≤ 10000
  text : ∀ p ∈ l, slen p.text + slen (xIn x) + slen t ≤ 10000
theorem AtCut.len {T : List Ev × RX} {x : RX} {l : List Ev} {t : ByteArray} (h : AtCut m T x l t) : l.length ≤ T.1.length := by
  rw [← h.key]
  exact tell_mono m _ _ _
theorem fd_in (x : RX) (a : ByteArray) : slen (xIn (fd x a)) ≤ slen (xIn x) + slen a := by
  by_cases h : xSt x = 2
  · rw [fd_2 h]; omega
  · rw [fd_n h]
    show slen (cat (xIn x) a) ≤ _
    rw [slen_cat]
    omega
theorem AtCut.step {T : List Ev × RX} {x : RX} {l : List Ev} {t : ByteArray} (h : AtCut m T x l t) {c : Nat} (hc : c ≤ slen t) :
    AtCut m T (tl m (fd x (sub t 0 c)) l).2 (tl m (fd x (sub t 0 c)) l).1 (sub t c (slen t)) := by
  obtain ⟨hI, hk, hr, ht⟩ := h
  have ha : slen (sub t 0 c) = c := by rw [slen_sub]; omega
  have hb : slen (sub t c (slen t)) = slen t - c := by rw [slen_sub]; omega
  have hfi := fd_in x (sub t 0 c)
  have hI' : Inv (fd x (sub t 0 c)) := fd_inv hI (by omega)
  have hT := tell_text m (10000 - slen (sub t c (slen t))) (mu (fd x (sub t 0 c)) + 1) (fd x (sub t 0 c)) l hI' (Nat.lt_succ_self _) (by omega) (fun p hp => by have := ht p hp; omega)
  obtain ⟨t1, t2⟩ := hT
  refine ⟨tell_inv m _ _ _ hI' (Nat.lt_succ_self _), ?_, ?_, fun p hp => ?_⟩
  · rw [← tl_feed m (sub t c (slen t)) (mu (fd x (sub t 0 c)) + 1) (fd x (sub t 0 c)) l hI' (Nat.lt_succ_self _) (by omega), fd_fd, cat_sub t c hc]
    exact hk
  · show slen (xIn (tell m _ _ _).2) + _ ≤ _
    omega
  · have := t2 p hp
    show _ + slen (xIn (tell m _ _ _).2) + _ ≤ _
    omega
theorem AtCut.pre {T : List Ev × RX} {x : RX} {l : List Ev} {t : ByteArray} (h : AtCut m T x l t) (hlen : T.1.length ≤ 100000) {c : Nat} (hc : c ≤ slen t) (z : RX) (hz : fd x (sub t 0 c) = z) :
    told2c_pre m z.1 z.2.1 z.2.2.1 z.2.2.2.1 z.2.2.2.2.1 z.2.2.2.2.2.1 z.2.2.2.2.2.2.1 z.2.2.2.2.2.2.2.1 z.2.2.2.2.2.2.2.2.1 z.2.2.2.2.2.2.2.2.2.1 z.2.2.2.2.2.2.2.2.2.2.1 z.2.2.2.2.2.2.2.2.2.2.2.1 z.2.2.2.2.2.2.2.2.2.2.2.2 l.length (evsV l) := by
  have hl := h.len
  obtain ⟨hI, hk, hr, ht⟩ := h
  have ha : slen (sub t 0 c) = c := by rw [slen_sub]; omega
  have hfi := fd_in x (sub t 0 c)
  have hI' : Inv (fd x (sub t 0 c)) := fd_inv hI (by omega)
  rw [hz] at hI' hfi
  exact ⟨l, rfl, rfl, hI', by omega, fun p hp => by
    have := ht p hp
    show slen p.text + slen (xIn z) ≤ _
    omega⟩
theorem pieces_run (hs : slen s ≤ 10000) (hcs : ∀ c ∈ cuts, 0 ≤ c ∧ c ≤ 255) (hcl : cuts.length ≤ 300) (T : List Ev × RX) (hT : tellOf m (x0 s) = T) (hlen : T.1.length ≤ 100000) (hG : Good T.1) : ∀ (k j : Nat) (x : RX) (l : List Ev) (t : ByteArray), j + k = cuts.length → AtCut m T x l t →
    AEnds E 8 0 (hdP s cuts m l t j x) (.bool true) []
  | k, j, x, l, t, hj, hA => by
    have hT' : tellOf m (0, cat ⟨#[]⟩ s, false, 0, 0, false, 0, 0, 0, 0, 0, false, 0) = T := by rw [cat_nil]; exact hT
    have hll := hA.len
    have hfT := evs_flat T.1
    have hfl := evs_flat l
    have hroom := hA.room
    have hd1 : decide ((j : Int) ≤ (cuts.length : Int)) = true := by simp; omega
    -- the cut
    obtain ⟨c, hc, hcase⟩ : ∃ c : Nat, c ≤ slen t ∧ ((j < cuts.length ∧ ∃ v, cuts[j]? = some v ∧ (IntKind.i64.wrap v).tmod (IntKind.i64.wrap ((slen t : Int) + 1)) = (c : Int)) ∨ (j = cuts.length ∧ c = slen t)) := by
      by_cases h : j < cuts.length
      · have hv : cuts[j]? = some cuts[j] := List.getElem?_eq_getElem h
        obtain ⟨v0, v1⟩ := hcs _ (List.getElem_mem h)
        refine ⟨cuts[j].toNat % (slen t + 1), by have := Nat.mod_lt cuts[j].toNat (show 0 < slen t + 1 by omega); omega, .inl ⟨h, _, hv, ?_⟩⟩
        rw [wrap64_in (x := cuts[j]) (by omega) (by omega), wrap64_in (x := (slen t : Int) + 1) (by omega) (by omega)]
        have e1 : cuts[j] = ((cuts[j].toNat : Nat) : Int) := by omega
        have e2 : (slen t : Int) + 1 = ((slen t + 1 : Nat) : Int) := by omega
        rw [e2]
        conv => lhs; rw [e1]
        exact (Int.ofNat_tmod _ _).symm
      · exact ⟨slen t, Nat.le_refl _, .inr ⟨by omega, rfl⟩⟩
    have hA' := hA.step hc
    have hfy := evs_flat (tl m (fd x (sub t 0 c)) l).1
    have ha : slen (sub t 0 c) = c := by rw [slen_sub]; omega
    generalize hy : tl m (fd x (sub t 0 c)) l = y at hA' hfy
    -- what comes behind
    have next : AEnds E 8 0 (hdP s cuts m y.1 (sub t c (slen t)) (j + 1) y.2) (.bool true) [] := by
      rcases hcase with ⟨h, _⟩ | ⟨h, hcs'⟩
      · match k with
        | 0 => omega
        | k + 1 => exact pieces_run hs hcs hcl T hT hlen hG k (j + 1) y.2 y.1 (sub t c (slen t)) (by omega) hA'
      · have e : sub t 0 c = t := by rw [hcs']; exact sub_self t
        rw [e, hA.key] at hy
        subst hy
        exact pieces_end hs T hT hlen hG _ (j + 1) (by omega)
    unfold hdP at next ⊢
    refine Gets.ends ?_ next
    by_cases h2 : x.1 = 2
    · have e2 : (x.1 != 2) = false := by simp [h2]
      have hfd : fd x (sub t 0 c) = x := fd_2 h2
      have hp := hA.pre hlen hc x hfd
      have hy2 : tl2 m x l.length (evsV l) = y := by rw [tl2_evs, ← hfd]; exact hy
      rcases hcase with ⟨h, v, hv, hcv⟩ | ⟨h, hcs'⟩
      · have hget := U8_get hv
        have w := fpieces_w1_1 s cuts m l.length t j x.1 x.2.1 x.2.2.1 x.2.2.2.1 x.2.2.2.2.1 x.2.2.2.2.2.1 x.2.2.2.2.2.2.1 x.2.2.2.2.2.2.2.1 x.2.2.2.2.2.2.2.2.1 x.2.2.2.2.2.2.2.2.2.1 x.2.2.2.2.2.2.2.2.2.2.1 x.2.2.2.2.2.2.2.2.2.2.2.1 x.2.2.2.2.2.2.2.2.2.2.2.2 (evsV l) T hT' y hy2
        simp only [Int.toNat_natCast, Nat.mul_one, hget, toInt, isInt, hcv] at w
        rw [wrap64_in (x := (slen t : Int) + 1) (by omega) (by omega), wrap64_in (x := (j : Int) + 1) (by omega) (by omega)] at w
        apply w
        all_goals first | assumption | rfl | omega | (simp; done) | (simp; omega)
      · subst hcs'
        have w := fpieces_w1_3 s cuts m l.length t j x.1 x.2.1 x.2.2.1 x.2.2.2.1 x.2.2.2.2.1 x.2.2.2.2.2.1 x.2.2.2.2.2.2.1 x.2.2.2.2.2.2.2.1 x.2.2.2.2.2.2.2.2.1 x.2.2.2.2.2.2.2.2.2.1 x.2.2.2.2.2.2.2.2.2.2.1 x.2.2.2.2.2.2.2.2.2.2.2.1 x.2.2.2.2.2.2.2.2.2.2.2.2 (evsV l) T hT' y hy2
        simp only [Int.toNat_natCast] at w
        rw [wrap64_in (x := (j : Int) + 1) (by omega) (by omega)] at w
        apply w
        all_goals first | assumption | rfl | omega | (simp; done) | (simp; omega)
    · have e2 : (x.1 != 2) = true := by simp [h2]
      have hfd : fd x (sub t 0 c) = xSet x (xSt x) (cat (xIn x) (sub t 0 c)) (xTold x) := fd_n h2
      have hp := hA.pre hlen hc _ hfd
      have hy2 : tl2 m (xSet x (xSt x) (cat (xIn x) (sub t 0 c)) (xTold x)) l.length (evsV l) = y := by rw [tl2_evs, ← hfd]; exact hy
      have hin : slen x.2.1 + slen (sub t 0 c) ≤ 9223372036854775807 := by
        have : slen x.2.1 = slen (xIn x) := rfl
        omega
      rcases hcase with ⟨h, v, hv, hcv⟩ | ⟨h, hcs'⟩
      · have hget := U8_get hv
        have w := fpieces_w1_0 s cuts m l.length t j x.1 x.2.1 x.2.2.1 x.2.2.2.1 x.2.2.2.2.1 x.2.2.2.2.2.1 x.2.2.2.2.2.2.1 x.2.2.2.2.2.2.2.1 x.2.2.2.2.2.2.2.2.1 x.2.2.2.2.2.2.2.2.2.1 x.2.2.2.2.2.2.2.2.2.2.1 x.2.2.2.2.2.2.2.2.2.2.2.1 x.2.2.2.2.2.2.2.2.2.2.2.2 (evsV l) T hT'
        simp only [Int.toNat_natCast, Nat.mul_one, hget, toInt, isInt, hcv] at w
        have w := w y hy2
        rw [wrap64_in (x := (slen t : Int) + 1) (by omega) (by omega), wrap64_in (x := (j : Int) + 1) (by omega) (by omega)] at w
        apply w
        all_goals first | assumption | rfl | omega | (simp; done) | (simp; omega)
      · subst hcs'
        have w := fpieces_w1_2 s cuts m l.length t j x.1 x.2.1 x.2.2.1 x.2.2.2.1 x.2.2.2.2.1 x.2.2.2.2.2.1 x.2.2.2.2.2.2.1 x.2.2.2.2.2.2.2.1 x.2.2.2.2.2.2.2.2.1 x.2.2.2.2.2.2.2.2.2.1 x.2.2.2.2.2.2.2.2.2.2.1 x.2.2.2.2.2.2.2.2.2.2.2.1 x.2.2.2.2.2.2.2.2.2.2.2.2 (evsV l) T hT'
        simp only [Int.toNat_natCast] at w
        have w := w y hy2
        rw [wrap64_in (x := (j : Int) + 1) (by omega) (by omega)] at w
        apply w
        all_goals first | assumption | rfl | omega | (simp; done) | (simp; omega)
theorem pieces_all (s : ByteArray) (cuts : List Int) (hcs : ∀ c ∈ cuts, 0 ≤ c ∧ c ≤ 255) (m : Bool) : AEnds E 8 0 (startC E 8 [.string s, .iface cuts.length (.agg (cuts.map (Value.int .u8)).toArray), .bool m] []) (.bool true) [] := by
  have ha := awake_safe
  by_cases c1 : 10000 < (slen s : Int)
  · exact fpieces_w0_0 s cuts m (decide_eq_true c1) ha
  by_cases c2 : 300 < (cuts.length : Int)
  · exact fpieces_w0_1 s cuts m (decide_eq_true c2) (decide_eq_false c1) ha
  have hs : slen s ≤ 10000 := by omega
  have hT' : tellOf m (0, cat ⟨#[]⟩ s, false, 0, 0, false, 0, 0, 0, 0, 0, false, 0) = tellOf m (x0 s) := by rw [cat_nil]
  have hI : Inv (x0 s) := ⟨.inr (.inl rfl), by show slen s ≤ _; omega⟩
  have hmu : mu (x0 s) = 3 * slen s + 0 := by unfold mu; rfl
  have hlen := tell_len m (mu (x0 s) + 1) (x0 s) []
  have ht : tell m (mu (x0 s) + 1) (x0 s) [] = tellOf m (x0 s) := rfl
  rw [ht] at hlen
  simp only [List.length_nil] at hlen
  have hp : toldn_pre m 0 (cat ⟨#[]⟩ s) false 0 0 false 0 0 0 0 0 false 0 := by rw [cat_nil]; exact hI
  have w := fpieces_w0_2 s cuts m (tellOf m (x0 s)) hT' (evs_flat _) hp (by omega) (decide_eq_false c2) (decide_eq_false c1) ha
  refine Gets.ends w ?_
  refine pieces_run hs hcs (by omega) (tellOf m (x0 s)) rfl (by omega) (tellOf_good m s (by omega)) cuts.length 0 (x0 ⟨#[]⟩) [] s (Nat.zero_add _) ⟨⟨.inr (.inl rfl), by show (0 : Nat) ≤ _; omega⟩, ?_, ?_, fun p hp => by cases hp⟩
  · have : fd (x0 ⟨#[]⟩) s = x0 s := by
      rw [fd_n (by show (0 : Int) ≠ 2; omega)]
      show (0, cat ⟨#[]⟩ s, false, 0, 0, false, 0, 0, 0, 0, 0, false, 0) = x0 s
      rw [cat_nil]
    rw [this]
    rfl
  · show 0 + slen s ≤ _
    omega
end
end Go.Proofs.Ytfmcohbagbafmaa
