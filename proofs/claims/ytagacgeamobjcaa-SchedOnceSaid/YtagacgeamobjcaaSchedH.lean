/-
  The statement SchedOnce hands back true.
-/
import Derived.Test.YtagacgeamobjcaaSchedG
set_option linter.unusedVariables false
set_option linter.unusedSimpArgs false
open Go Go.Am
namespace Go.Proofs.Ytagacgeamobjcaa

/-- The tasks below k that are enabled. -/
def En (on : List Bool) (k : Nat) : List Int := ((List.range k).filter fun i => on.getD i false).map fun (i : Nat) => (i : Int)
abbrev VI (l : List Int) : List Value := l.map (Value.int .i64)
abbrev VB (l : List Bool) : List Value := l.map Value.bool
theorem VI_flat (l : List Int) : (VI l).all flat = true := by
  induction l with
  | nil => rfl
  | cons a r ih => rw [VI, List.map_cons, List.all_cons, ih]; rfl
theorem VB_flat (l : List Bool) : (VB l).all flat = true := by
  induction l with
  | nil => rfl
  | cons a r ih => rw [VB, List.map_cons, List.all_cons, ih]; rfl
theorem VB_one (l : List Bool) : (VB l).all one = true := by
  induction l with
  | nil => rfl
  | cons a r ih => rw [VB, List.map_cons, List.all_cons, ih]; rfl
theorem VI_get {l : List Int} {i : Nat} {x : Int} (h : l[i]? = some x) : (VI l).getD (0 + i * 1) undef = .int .i64 x := by
  rw [Nat.zero_add, Nat.mul_one, List.getD_eq_getElem?_getD, List.getElem?_map, h]; rfl
theorem VB_get {l : List Bool} {i : Nat} {x : Bool} (h : l[i]? = some x) : (VB l).getD (0 + i * 1) undef = .bool x := by
  rw [Nat.zero_add, Nat.mul_one, List.getD_eq_getElem?_getD, List.getElem?_map, h]; rfl
theorem En_len (on : List Bool) (k : Nat) : (En on k).length ≤ k := by
  unfold En
  rw [List.length_map]
  exact Nat.le_trans (List.length_filter_le _ _) (by simp)
theorem En_true {on : List Bool} {k : Nat} (h : on[k]? = some true) : En on (k + 1) = En on k ++ [(k : Int)] := by
  unfold En
  rw [List.range_succ, List.filter_append, List.map_append]
  simp [List.getD_eq_getElem?_getD, h]
theorem En_false {on : List Bool} {k : Nat} (h : on[k]? = some false) : En on (k + 1) = En on k := by
  unfold En
  rw [List.range_succ, List.filter_append, List.map_append]
  simp [List.getD_eq_getElem?_getD, h]
theorem VI_app (l : List Int) (x : Int) : List.take (l.length * 1) (List.drop 0 (VI l)) ++ [Value.int .i64 x] = VI (l ++ [x]) := by
  rw [List.drop_zero, List.take_of_length_le (by rw [List.length_map, Nat.mul_one]; exact Nat.le_refl _)]
  simp [VI]
def off (on : List Bool) (k : Nat) : List Bool := List.replicate k false ++ on.drop k
theorem off_at {on : List Bool} {k : Nat} {b : Bool} (h : on[k]? = some b) : (off on k)[k]? = some b := by
  unfold off
  rw [List.getElem?_append_right (by simp), List.length_replicate, Nat.sub_self, List.getElem?_drop]
  exact h
theorem off_set {on : List Bool} {k : Nat} {b : Bool} (h : on[k]? = some b) : (off on k).set k false = off on (k + 1) := by
  have hk := (List.getElem?_eq_some_iff.1 h).1
  unfold off
  rw [List.set_append_right _ _ (by simp), List.length_replicate, Nat.sub_self, List.drop_eq_getElem_cons hk, List.set_cons_zero]
  rw [show List.replicate (k + 1) false = List.replicate k false ++ [false] from List.replicate_succ' .., List.append_assoc]
  rfl
theorem off_same {on : List Bool} {k : Nat} (h : on[k]? = some false) : off on k = off on (k + 1) := by
  rw [← off_set h]
  have hk := off_at h
  obtain ⟨h1, h2⟩ := List.getElem?_eq_some_iff.1 hk
  rw [← h2, List.set_getElem_self]
theorem setN_bool (l : List Bool) (k : Nat) : setN (VB l) (0 + k * 1) [Value.bool false] = VB (l.set k false) := by
  rw [Nat.zero_add, Nat.mul_one]
  show (VB l).set k (.bool false) = _
  simp [VB, List.map_set]
theorem off_len {on : List Bool} {k : Nat} (h : k ≤ on.length) : (off on k).length = on.length := by unfold off; simp; omega

section
variable {on : List Bool}
theorem on_M (on : List Bool) : [] ++ List.take (on.length * 1) (List.map Value.bool on) = VB on := by
  rw [List.nil_append, List.take_of_length_le (by simp)]
/-- The last comparison. -/
theorem once_run7 (W : List Int) (hW : W.length ≤ 60) : ∀ k i, i + k = W.length → AEnds E 5 0 (once_h7 on (VI W) W.length W.length (VI W) 0 i) (.bool true) []
  | 0, i, hi => once_w7_1 on (VI W) W.length W.length (VI W) 0 i trivial rfl (by simp; omega)
  | k + 1, i, hi => by
    obtain ⟨x, hx⟩ : ∃ x, W[i]? = some x := ⟨_, List.getElem?_eq_getElem (by omega)⟩
    have hg := VI_get hx
    have hf := VI_flat W
    have w := once_w7_0 on (VI W) W.length W.length (VI W) 0 i
    simp only [Int.toNat_natCast, hg, toInt, isInt] at w
    rw [wrap64_in (x := (i : Int) + 1) (by omega) (by omega)] at w
    refine Gets.ends ?_ (once_run7 W hW k (i + 1) (by omega))
    apply w
    all_goals first | omega | assumption | (simp; done) | (simp; omega)
/-- The last round: none is enabled. -/
theorem once_run6 (hon : on.length ≤ 60) (W : List Int) (hW : W.length ≤ 60) (t9 : Int) (ht : t9 = if 0 < W.length then 1 else 0) (xs : List Bool) (hx : xs = List.replicate on.length false) : ∀ k i, i + k = on.length → AEnds E 5 0 (once_h6 on (VI W) W.length t9 W.length (VB xs) (VI W) i 0) (.bool true) []
  | 0, i, hi => by
    have hf := VI_flat W
    have hb := VB_flat xs
    refine Gets.ends ?_ (once_run7 (on := on) W hW W.length 0 (Nat.zero_add _))
    have h3 : decide (t9 ≤ 1) = true := by rw [ht]; split <;> simp
    have h4 : ((t9 == 1) == decide (0 < (W.length : Int))) = true := by
      rw [ht]
      by_cases c : 0 < W.length
      · rw [if_pos c, decide_eq_true (by omega)]; rfl
      · rw [if_neg c, decide_eq_false (by omega)]; rfl
    exact once_w6_3 on (VI W) W.length t9 W.length (VB xs) (VI W) i 0 hf hf (by simp) h3 h4 (by simp; omega)
  | k + 1, i, hi => by
    have hf := VI_flat W
    have hb := VB_flat xs
    have hxi : xs[i]? = some false := by rw [hx, List.getElem?_replicate, if_pos (by omega)]
    have hg := VB_get hxi
    have hl : (VB xs).length = on.length := by simp [VB, hx]
    have w := once_w6_1 on (VI W) W.length t9 W.length (VB xs) (VI W) i 0
    simp only [Int.toNat_natCast, hg, Am.toBool, isBool] at w
    rw [wrap64_in (x := (i : Int) + 1) (by omega) (by omega)] at w
    refine Gets.ends ?_ (once_run6 hon W hW t9 ht xs hx k (i + 1) (by omega))
    apply w
    all_goals first | omega | assumption | (simp; done) | (simp; omega)
/-- A round of Rounds in which none is enabled. -/
theorem once_run5b (hon : on.length ≤ 60) (W : List Int) (hW : W.length ≤ 60) (t9 : Int) (ht : t9 = if 0 < W.length then 1 else 0) (xs : List Bool) (hx : xs = List.replicate on.length false) : ∀ k i, i + k = on.length → AEnds E 5 0 (once_h5 on (VI W) W.length t9 i W.length 0 (VB xs) (VI W)) (.bool true) []
  | 0, i, hi => by
    have hf := VI_flat W
    have hb := VB_flat xs
    refine Gets.ends ?_ (once_run6 hon W hW t9 ht xs hx on.length 0 (Nat.zero_add _))
    exact once_w5_4 on (VI W) W.length t9 i W.length 0 (VB xs) (VI W) hf hf hb (by simp) (by simp; omega)
  | k + 1, i, hi => by
    have hf := VI_flat W
    have hb := VB_flat xs
    have hxi : xs[i]? = some false := by rw [hx, List.getElem?_replicate, if_pos (by omega)]
    have hg := VB_get hxi
    have hl : (VB xs).length = on.length := by simp [VB, hx]
    have w := once_w5_1 on (VI W) W.length t9 i W.length 0 (VB xs) (VI W)
    simp only [Int.toNat_natCast, hg, Am.toBool, isBool] at w
    rw [wrap64_in (x := (i : Int) + 1) (by omega) (by omega)] at w
    refine Gets.ends ?_ (once_run5b hon W hW t9 ht xs hx k (i + 1) (by omega))
    apply w
    all_goals first | omega | assumption | (simp; done) | (simp; omega)
/-- The first round of Rounds: what is enabled is done, and ends. -/
theorem once_run5 (hon : on.length ≤ 60) (W : List Int) (hWe : W = En on on.length) : ∀ k i, i + k = on.length → AEnds E 5 0 (once_h5 on (VI W) W.length 0 i (En on i).length (En on i).length (VB (off on i)) (VI (En on i))) (.bool true) []
  | 0, i, hi => by
    have hi : i = on.length := by omega
    subst hi
    have hW : W.length ≤ 60 := by rw [hWe]; have := En_len on on.length; omega
    have ho : off on on.length = List.replicate on.length false := by unfold off; rw [List.drop_length, List.append_nil]
    rw [← hWe, ho]
    have hf := VI_flat W
    have hb := VB_flat (List.replicate on.length false)
    by_cases c : 0 < W.length
    · have w := once_w5_3 on (VI W) W.length 0 on.length W.length W.length (VB (List.replicate on.length false)) (VI W) hf hb hf (by simp; omega) (by simp)
      rw [show IntKind.i64.wrap (0 + 1) = 1 from wrap64_in (by omega) (by omega)] at w
      refine w.ends ?_
      have w4 := once_w4_0 on (VI W) W.length 1 W.length (VB (List.replicate on.length false)) (VI W) hf hb hf rfl
      exact w4.ends (once_run5b hon W hW 1 (by rw [if_pos c]) _ rfl on.length 0 (Nat.zero_add _))
    · have hW0 : W = [] := List.length_eq_zero_iff.1 (by omega)
      have w := once_w5_4 on (VI W) W.length 0 on.length W.length W.length (VB (List.replicate on.length false)) (VI W) hf hf hb (by simp; omega) (by simp)
      exact w.ends (once_run6 hon W hW 0 (by rw [if_neg c]) _ rfl on.length 0 (Nat.zero_add _))
  | k + 1, i, hi => by
    have hf := VI_flat W
    have hb := VB_flat (off on i)
    have hb2 := VB_flat (off on (i + 1))
    obtain ⟨b, hbi⟩ : ∃ b, on[i]? = some b := ⟨_, List.getElem?_eq_getElem (by omega)⟩
    have hg := VB_get (off_at hbi)
    have hl : (VB (off on i)).length = on.length := by simp [VB, off_len (show i ≤ on.length by omega)]
    have hE := En_len on i
    have hfe := VI_flat (En on i)
    have hfe2 := VI_flat (En on (i + 1))
    have hle : (VI (En on i)).length = (En on i).length := by simp
    cases b with
    | true =>
      have w := once_w5_0 on (VI W) W.length 0 i (En on i).length (En on i).length (VB (off on i)) (VI (En on i))
      simp only [Int.toNat_natCast, hg, Am.toBool, isBool, VI_app, setN_bool, off_set hbi, ← En_true hbi] at w
      rw [wrap64_in (x := (i : Int) + 1) (by omega) (by omega), wrap64_in (x := ((En on i).length : Int) + 1) (by omega) (by omega)] at w
      have ih := once_run5 hon W hWe k (i + 1) (by omega)
      have hlen : (En on (i + 1)).length = (En on i).length + 1 := by rw [En_true hbi]; simp
      rw [hlen] at ih
      refine Gets.ends ?_ ih
      apply w
      all_goals first | omega | assumption | (simp; done) | (simp; omega)
    | false =>
      have w := once_w5_1 on (VI W) W.length 0 i (En on i).length (En on i).length (VB (off on i)) (VI (En on i))
      simp only [Int.toNat_natCast, hg, Am.toBool, isBool] at w
      rw [wrap64_in (x := (i : Int) + 1) (by omega) (by omega)] at w
      have ih := once_run5 hon W hWe k (i + 1) (by omega)
      rw [En_false hbi, ← off_same hbi] at ih
      refine Gets.ends ?_ ih
      apply w
      all_goals first | omega | assumption | (simp; done) | (simp; omega)
/-- What was done in the first round is what is enabled. -/
theorem once_run3 (hon : on.length ≤ 60) (W : List Int) (hWe : W = En on on.length) : ∀ k i, i + k = W.length → AEnds E 5 0 (once_h3 on (VI W) W.length W.length (VI W) i) (.bool true) []
  | 0, i, hi => by
    have hf := VI_flat W
    have hb := VB_flat on
    have hM := on_M on
    have w := once_w3_1 on (VI W) W.length W.length (VI W) i
    rw [hM] at w
    have w := w hf hb (by simp; omega)
    have w4 := once_w4_0 on (VI W) W.length 0 0 (VB on) (VI []) hf hb rfl rfl
    have ih := once_run5 hon W hWe on.length 0 (Nat.zero_add _)
    exact (w.trans w4).ends ih
  | k + 1, i, hi => by
    have hW : W.length ≤ 60 := by rw [hWe]; have := En_len on on.length; omega
    obtain ⟨x, hx⟩ : ∃ x, W[i]? = some x := ⟨_, List.getElem?_eq_getElem (by omega)⟩
    have hg := VI_get hx
    have hf := VI_flat W
    have hb := VB_flat on
    have hM := on_M on
    have w := once_w3_0 on (VI W) W.length W.length (VI W) i
    rw [hM] at w
    simp only [Int.toNat_natCast, hg, toInt, isInt] at w
    rw [wrap64_in (x := (i : Int) + 1) (by omega) (by omega)] at w
    refine Gets.ends ?_ (once_run3 hon W hWe k (i + 1) (by omega))
    apply w
    all_goals first | omega | assumption | (simp; done) | (simp; omega)
theorem once_run2 (hon : on.length ≤ 60) (W : List Int) (hWe : W = En on on.length) : ∀ k i, i + k = on.length → AEnds E 5 0 (once_h2 on (VI W) W.length i (En on i).length (En on i).length (VI (En on i))) (.bool true) []
  | 0, i, hi => by
    have hi : i = on.length := by omega
    subst hi
    rw [← hWe]
    have hf := VI_flat W
    have hb := VB_flat on
    have w := once_w2_3 on (VI W) W.length on.length W.length W.length (VI W)
    rw [on_M on] at w
    exact (w hf hf hb (by simp) (by simp) (by simp)).ends (once_run3 hon W hWe W.length 0 (Nat.zero_add _))
  | k + 1, i, hi => by
    have hf := VI_flat W
    have hb := VB_flat on
    obtain ⟨b, hbi⟩ : ∃ b, on[i]? = some b := ⟨_, List.getElem?_eq_getElem (by omega)⟩
    have hg := VB_get hbi
    have hl : (VB on).length = on.length := by simp
    have hE := En_len on i
    have hfe := VI_flat (En on i)
    have hfe2 := VI_flat (En on (i + 1))
    have hle : (VI (En on i)).length = (En on i).length := by simp
    cases b with
    | true =>
      have w := once_w2_0 on (VI W) W.length i (En on i).length (En on i).length (VI (En on i))
      rw [on_M on] at w
      simp only [Int.toNat_natCast, hg, Am.toBool, isBool, VI_app, ← En_true hbi] at w
      rw [wrap64_in (x := (i : Int) + 1) (by omega) (by omega), wrap64_in (x := ((En on i).length : Int) + 1) (by omega) (by omega)] at w
      have ih := once_run2 hon W hWe k (i + 1) (by omega)
      have hlen : (En on (i + 1)).length = (En on i).length + 1 := by rw [En_true hbi]; simp
      rw [hlen] at ih
      refine Gets.ends ?_ ih
      apply w
      all_goals first | omega | assumption | (simp; done) | (simp; omega)
    | false =>
      have w := once_w2_1 on (VI W) W.length i (En on i).length (En on i).length (VI (En on i))
      rw [on_M on] at w
      simp only [Int.toNat_natCast, hg, Am.toBool, isBool] at w
      rw [wrap64_in (x := (i : Int) + 1) (by omega) (by omega)] at w
      have ih := once_run2 hon W hWe k (i + 1) (by omega)
      rw [En_false hbi] at ih
      refine Gets.ends ?_ ih
      apply w
      all_goals first | omega | assumption | (simp; done) | (simp; omega)
theorem once_run1 (hon : on.length ≤ 60) : ∀ k i, i + k = on.length → AEnds E 5 0 (once_h1 on i (En on i).length (VI (En on i))) (.bool true) []
  | 0, i, hi => by
    have hi : i = on.length := by omega
    subst hi
    have hf := VI_flat (En on on.length)
    have hb := VB_flat on
    have w := once_w1_4 on on.length (En on on.length).length (VI (En on on.length))
    rw [on_M on] at w
    exact (w hf hb (by simp)).ends (once_run2 hon _ rfl on.length 0 (Nat.zero_add _))
  | k + 1, i, hi => by
    have hb := VB_flat on
    obtain ⟨b, hbi⟩ : ∃ b, on[i]? = some b := ⟨_, List.getElem?_eq_getElem (by omega)⟩
    have hg := VB_get hbi
    have hl : (VB on).length = on.length := by simp
    have hE := En_len on i
    have hfe := VI_flat (En on i)
    have hfe2 := VI_flat (En on (i + 1))
    have hle : (VI (En on i)).length = (En on i).length := by simp
    cases b with
    | true =>
      have w := once_w1_1 on i (En on i).length (VI (En on i))
      rw [on_M on] at w
      simp only [Int.toNat_natCast, hg, Am.toBool, isBool, VI_app, ← En_true hbi] at w
      rw [wrap64_in (x := (i : Int) + 1) (by omega) (by omega)] at w
      have ih := once_run1 hon k (i + 1) (by omega)
      have hlen : (En on (i + 1)).length = (En on i).length + 1 := by rw [En_true hbi]; simp
      rw [hlen] at ih
      refine Gets.ends ?_ ih
      apply w
      all_goals first | omega | assumption | (simp; done) | (simp; omega)
    | false =>
      have w := once_w1_2 on i (En on i).length (VI (En on i))
      rw [on_M on] at w
      simp only [Int.toNat_natCast, hg, Am.toBool, isBool] at w
      rw [wrap64_in (x := (i : Int) + 1) (by omega) (by omega)] at w
      have ih := once_run1 hon k (i + 1) (by omega)
      rw [En_false hbi] at ih
      refine Gets.ends ?_ ih
      apply w
      all_goals first | omega | assumption | (simp; done) | (simp; omega)
theorem once_all (on : List Bool) : AEnds E 5 0 (startC E 5 [.iface on.length (.agg (on.map Value.bool).toArray)] []) (.bool true) [] := by
  by_cases c : 60 < (on.length : Int)
  · exact once_w0_0 on trivial (decide_eq_true c)
  have w := once_w0_1 on
  have hb := VB_flat on
  have hb1 := VB_one on
  have ht : List.take (on.length * 1) (List.map Value.bool on) = VB on := List.take_of_length_le (by simp)
  rw [on_M on, ht] at w
  exact (w hb hb1 (by simp) (by omega) (by omega) (decide_eq_false c)).ends (once_run1 (by omega) on.length 0 (Nat.zero_add _))
end
end Go.Proofs.Ytagacgeamobjcaa
