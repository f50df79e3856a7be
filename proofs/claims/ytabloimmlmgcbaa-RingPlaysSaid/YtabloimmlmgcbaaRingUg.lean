/-
  Set and Clear of a ring; the document's ring beside it; memories that calls hand back, put in one shape.
-/
import Derived.Test.YtabloimmlmgcbaaRingUf
set_option linter.unusedVariables false
set_option linter.unusedSimpArgs false
open Go Go.Am
namespace Go.Am
/-- A row handed back that was only appended to: as others again. -/
theorem callOk_unLog {E : Env} {g : FuncId} {args : List Value} {H H' : Heap} {v : Value} {k : Nat} {cs : List Value} {e : TypeId} {z : Nat} (h : CallOk E g args H v H') (hk : getO H' k = some (.log cs e z)) (hn : noFro H' = true) : CallOk E g args H v (H'.set k (some (.cells cs e (some z)))) := by
  intro Pr ρ args' c cs' w hH ha
  obtain ⟨ρ1, v', w', s1, hH1, hv1, hag, hl1, kp1⟩ := h Pr ρ args' c cs' w hH ha
  have hA : AN (H'.set k (some (.cells cs e (some z)))) = AN H' := AN_set
  refine ⟨ρ1, v', w', s1, ?_, ?_, hag, by simpa using hl1, kp1⟩
  · rw [hA]; exact hH1.unLog hk hn
  · rw [hA]; exact hv1
/-- A cell handed back that holds no slice: an empty one of a row of its own. -/
theorem callOk_nilC {E : Env} {g : FuncId} {args : List Value} {H H' : Heap} {v : Value} {b o : Nat} {cs : List Value} {e' : TypeId} {gg : Option Nat} {e : TypeId} {z : Nat} (h : CallOk E g args H v H') (hb : getO H' b = some (.cells cs e' gg)) (ho : cs[o]? = some (.slice none 0 0)) :
    CallOk E g args H v (slot (H'.set b (some (.cells (cs.set o (.slice (some ⟨H'.length, 0, none⟩) 0 0)) e' gg))) (.cells [] e (some z))) := by
  intro Pr ρ args' c cs' w hH ha
  obtain ⟨ρ1, v', w', s1, hH1, hv1, hag, hl1, kp1⟩ := h Pr ρ args' c cs' w hH ha
  have hol : o < cs.length := (List.getElem?_eq_some_iff.1 ho).1
  have hbl := getO_lt hb
  have hp := hH1.phantom e z ⟨0, 0, 0, some z, true⟩ rfl rfl
  have hA : ∀ i, AN H' i → AN (slot H' (.cells [] e (some z))) i := AN_slot
  have hr : ∀ i, AN H' i → upd ρ1 H'.length ⟨0, 0, 0, some z, true⟩ i = ρ1 i := fun i hi => upd_old ρ1 _ _ hi
  have hgb : getO (slot H' (.cells [] e (some z))) b = some (.cells cs e' gg) := by rw [getO_slot_old hbl]; exact hb
  have h2 := hp.recell hgb (cs2 := cs.set o (.slice (some ⟨H'.length, 0, none⟩) 0 0)) (by omega) (by simp) (fun c1 hc1 => hc1.setL ho (fun v' hv => by
    cases hv with
    | snil => exact .nl0 _ _ _ (by unfold AN; rw [slot_length]; omega)))
  have e1 : (slot H' (.cells [] e (some z))).set b (some (.cells (cs.set o (.slice (some ⟨H'.length, 0, none⟩) 0 0)) e' gg)) = slot (H'.set b (some (.cells (cs.set o (.slice (some ⟨H'.length, 0, none⟩) 0 0)) e' gg))) (.cells [] e (some z)) := by
    unfold slot
    rw [List.set_append_left _ _ hbl]
  have hA2 : AN (slot (H'.set b (some (.cells (cs.set o (.slice (some ⟨H'.length, 0, none⟩) 0 0)) e' gg))) (.cells [] e (some z))) = AN (slot H' (.cells [] e (some z))) := by rw [← e1]; exact AN_set
  refine ⟨upd ρ1 H'.length ⟨0, 0, 0, some z, true⟩, v', w', s1, ?_, ?_, fun i hi => ?_, by rw [slot_length]; simp; omega, kp1⟩
  · rw [hA2, ← e1]; exact h2
  · rw [hA2]; exact hv1.mono (fun _ _ h => h) hA hr
  · have hi : i < H.length := hi
    rw [hr i (by unfold AN; omega)]
    exact hag i hi
end Go.Am
namespace Go.Proofs.Ytabloimmlmgcbaa

section
variable {mx first n : Int} {ln : Nat} {L : List Value} {l : List ByteArray}
theorem sset_in (h : sR mx first n ln L l) {i : Nat} (hi : i < l.length) (x : ByteArray) : sset_S0 mx first n ln L i x ∧ ∃ L', sset_t0 mx first n ln L i x = (true, L') ∧ sR mx first n ln L' (l.set i x) := by
  obtain ⟨a1, a2, a4, a5, a6, a7⟩ := sR_n h
  have hx : l[i]? = some l[i] := List.getElem?_eq_getElem hi
  have hidx : (IntKind.i64.wrap (first + (i : Int))).tmod (ln : Int) = ((first.toNat + i) % ln : Nat) := mod_idx a4 (by omega) (by omega) (by omega) (by omega)
  have hj : (first.toNat + i) % ln < ln := Nat.mod_lt _ (by omega)
  have hget := sR_get h hx
  have hL := sR_len h
  have hs := h.rep.set sEl (x := sC x) ⟨x, rfl⟩ (j := i) (by rw [sQ_len]; exact hi)
  have hsf := hs.flat sEl
  have d2 : decide ((i : Int) < 0) = false := by simp
  have d3 : decide (n ≤ (i : Int)) = false := by simp; omega
  have hN : ((ln : Int) != 0) = true := by simp; omega
  have hm : (0 + ((first.toNat + i) % ln) * 1) = ((first.toNat + i) % ln) * 1 := Nat.zero_add _
  constructor
  · unfold sset_S0
    simp only [d2, d3, hidx, Int.toNat_natCast, hget]
    rw [hm]
    refine ⟨(fun h => by cases h), fun _ => ⟨(fun h => by cases h), fun _ => ?_⟩⟩
    refine ⟨hsf, ?_⟩
    repeat' apply And.intro
    all_goals first | assumption | rfl | exact beq_self_eq_true _ | omega
  · refine ⟨setN L (((first.toNat + i) % ln) * 1) (sC x), ?_, ?_⟩
    · unfold sset_t0
      simp only [d2, d3, hidx, Int.toNat_natCast]
      rw [hm]
      rfl
    · refine ⟨?_, h.lnm, h.mxl⟩
      have e : sQ (l.set i x) = (sQ l).set i (sC x) := by simp [sQ, List.map_set]
      rw [e]
      exact hs
theorem sset_out (h : sR mx first n ln L l) {i : Int} (hi : i < 0 ∨ n ≤ i) (x : ByteArray) : sset_S0 mx first n ln L i x ∧ sset_t0 mx first n ln L i x = (false, L) := by
  have hLf := sR_flat h
  unfold sset_S0 sset_t0
  by_cases c : i < 0
  · rw [decide_eq_true c]
    exact ⟨⟨fun _ => hLf, (fun h => by cases h)⟩, rfl⟩
  · rw [decide_eq_false c, decide_eq_true (by omega : n ≤ i)]
    exact ⟨⟨(fun h => by cases h), fun _ => ⟨fun _ => hLf, (fun h => by cases h)⟩⟩, rfl⟩
theorem sclear_in (h : sR mx first n ln L l) : sclear_S0 mx first n ln L ∧ ∃ f' L', sclear_t0 mx first n ln L = (f', 0, L') ∧ sR mx f' 0 ln L' [] := by
  obtain ⟨a1, a2, a4, a5, a6, a7⟩ := sR_n h
  have hL := sR_len h
  by_cases c : 0 < n
  · have e : [] ++ rep [Value.string ⟨#[]⟩] ln ++ List.drop (0 + ln * 1) L = (List.replicate ln sZ).flatten := by
      rw [List.nil_append, rep_flat, List.drop_eq_nil_of_le (by omega), List.append_nil]
      rfl
    have hr := rep_new sEl (q := []) (by simp) (m := ln) (by simp; omega)
    have el : ([] : List (List Value)).length + ln = ln := by simp
    rw [el, List.nil_append] at hr
    unfold sclear_S0 sclear_t0
    rw [decide_eq_true c, e]
    exact ⟨⟨fun _ => ⟨hr.flat sEl, by omega⟩, (fun h => by cases h)⟩, _, _, rfl, hr, a6, a7⟩
  · have h0 : l = [] := List.length_eq_zero_iff.1 (by omega)
    subst h0
    have hn : n = 0 := a1
    subst hn
    unfold sclear_S0 sclear_t0
    rw [decide_eq_false c]
    exact ⟨⟨(fun h => by cases h), fun _ => sR_flat h⟩, _, _, rfl, h⟩
end

/-! ### the document's ring -/
def S (q : List ByteArray) : List Value := q.map Value.string
theorem S_get {q : List ByteArray} {i : Nat} {x : ByteArray} (h : q[i]? = some x) : (S q).getD i undef = .string x := by
  unfold S
  rw [List.getD_eq_getElem?_getD, List.getElem?_map, h]; rfl
theorem S_len (q : List ByteArray) : (S q).length = q.length := by simp [S]
theorem S_flat (q : List ByteArray) : (S q).all flat = true := by
  unfold S
  rw [List.all_eq_true]
  intro v hv
  obtain ⟨x, _, rfl⟩ := List.mem_map.1 hv
  rfl
theorem S_one (q : List ByteArray) : (S q).all one = true := by
  unfold S
  rw [List.all_eq_true]
  intro v hv
  obtain ⟨x, _, rfl⟩ := List.mem_map.1 hv
  rfl
theorem S_app (q : List ByteArray) (x : ByteArray) : S q ++ [.string x] = S (q ++ [x]) := by simp [S]
/-- Its list, in a row: what was popped stands ahead of it. -/
structure WR (l : List ByteArray) (wn wo : Nat) (W : List Value) : Prop where
  n : wn = l.length
  row : ∃ p : List ByteArray, p.length = wo ∧ W = S (p ++ l)
theorem WR.flat {l : List ByteArray} {wn wo : Nat} {W : List Value} (h : WR l wn wo W) : W.all flat = true := by
  obtain ⟨p, _, rfl⟩ := h.row
  exact S_flat _
theorem WR.len {l : List ByteArray} {wn wo : Nat} {W : List Value} (h : WR l wn wo W) : W.length = wo + wn := by
  obtain ⟨p, hp, rfl⟩ := h.row
  rw [S_len, List.length_append, hp, h.n]
theorem WR.get {l : List ByteArray} {wn wo : Nat} {W : List Value} (h : WR l wn wo W) {i : Nat} {x : ByteArray} (hx : l[i]? = some x) : W.getD (wo + i) undef = .string x := by
  obtain ⟨p, hp, rfl⟩ := h.row
  refine S_get ?_
  rw [List.getElem?_append_right (by omega), ← hp, Nat.add_sub_cancel_left]
  exact hx
theorem WR.take {l : List ByteArray} {wn wo : Nat} {W : List Value} (h : WR l wn wo W) : List.take (wn * 1) (List.drop wo W) = S l := by
  obtain ⟨p, hp, rfl⟩ := h.row
  have e : S (p ++ l) = S p ++ S l := by simp [S]
  rw [e, List.drop_left' (by rw [S_len, hp]), List.take_of_length_le (by rw [S_len, h.n]; omega)]
theorem WR.drop {l : List ByteArray} {wn wo : Nat} {W : List Value} (h : WR l wn wo W) : List.drop wo W = S l := by
  obtain ⟨p, hp, rfl⟩ := h.row
  have e : S (p ++ l) = S p ++ S l := by simp [S]
  rw [e, List.drop_left' (by rw [S_len, hp])]
theorem WR.new (l : List ByteArray) : WR l l.length 0 (S l) := ⟨rfl, [], rfl, rfl⟩
theorem WR.pop {x : ByteArray} {l : List ByteArray} {wn wo : Nat} {W : List Value} (h : WR (x :: l) wn wo W) : WR l (wn - 1) (wo + 1) W := by
  obtain ⟨p, hp, rfl⟩ := h.row
  refine ⟨by rw [h.n]; rfl, p ++ [x], by simp [hp], by simp⟩
end Go.Proofs.Ytabloimmlmgcbaa
