/-
  The abstract machine: a law's argument that is a slice of slices of structs.
-/
import Derived.Test.YtagacgeamobjcaaAmRows
set_option linter.unusedVariables false
set_option linter.unusedSimpArgs false
namespace Go.Am
open Go.ChangeShapes Go.WideShapes Go.ChangeAt Go.RowKit

theorem rowsV0 {H : Type} {enc : TypeId × Value → H} {P : Program} {W : World} {t e : TypeId} {w : Nat} (ht : P.underlying t = some (.slice e)) (hc : P.cellsOf e = w) (hpos : 0 < w) {Q : List Value → List Value → Prop}
  (hQ : ∀ (fuel : Nat) (cs : List Value) (x : DataW H × List MemPlace), DataW.trod enc P W 0 (fun _ => true) true fuel e cs = some x → ∃ as, Q as cs)
  (hV : ∀ as cs, Q as cs → as.length = w ∧ ∀ j, j < w → V0 (prOf W) (as.getD j undef) (cs.getD j undef)) {fuel : Nat} {cs : List Value} {x : DataW H × List MemPlace}
  (h : DataW.trod enc P W 0 (fun _ => true) true fuel t cs = some x) :
  ∃ (rows : List (List Value)) (v : Value), cs = [v] ∧ V0 (prOf W) (.iface rows.length (.agg rows.flatten.toArray)) v ∧ rows.length ≤ maxLen ∧ ∀ r ∈ rows, ∃ cs, Q r cs := by
 rcases DataW.trod_slice ht h with ⟨h1, _⟩ | ⟨a, len, cap, elems, rest, n, _, h1, _, _, h2, h3, hl, h4, _⟩
 ·exact ⟨[], _, h1, .rov0 _ _ _ rfl, Nat.zero_le _, fun n hn => by cases hn⟩
 ·rw [hc] at h4
  have hrow : ∀ i, i < len → ∃ cs as, W.cells? 0 (a.add (i * w)) w = some cs ∧ Q as cs := by
   intro i hi
   have h5 := h4 i hi
   have : i < elems.length := by omega
   rw [List.getElem?_eq_getElem this] at h5
   cases hcs : W.cells? 0 (a.add (i * w)) w with
   | none => rw [hcs] at h5; cases h5
   | some cs =>
    rw [hcs] at h5
    obtain ⟨as, q⟩ := hQ _ _ _ h5
    exact ⟨cs, as, rfl, q⟩
  let row : Nat → List Value := fun i => if hi : i < len then (hrow i hi).choose_spec.choose else []
  let mem : Nat → List Value := fun i => if hi : i < len then (hrow i hi).choose else []
  have hr : ∀ i, i < len → Q (row i) (mem i) ∧ ∀ j, j < w → W.cell? (a.add (i * w + j)) = some ((mem i).getD j undef) := by
   intro i hi
   have e1 : row i = (hrow i hi).choose_spec.choose := dif_pos hi
   have e2 : mem i = (hrow i hi).choose := dif_pos hi
   have sp := (hrow i hi).choose_spec.choose_spec
   rw [e1, e2]
   refine ⟨sp.2, fun j hj => ?_⟩
   have := (cells_get sp.1).2 j hj
   rw [← this, add_add]
  have hflat : ∀ m, m ≤ len → (((List.range m).map row).flatten).length = m * w ∧ ∀ i j, i < m → j < w → (((List.range m).map row).flatten).getD (i * w + j) undef = (row i).getD j undef := by
   intro m
   induction m with
   | zero => intro _; exact ⟨by simp, fun i j hi => absurd hi (Nat.not_lt_zero _)⟩
   | succ m ih =>
    intro hm
    obtain ⟨i1, i2⟩ := ih (by omega)
    have hlen := (hV _ _ (hr m (by omega)).1).1
    rw [List.range_succ, List.map_append, List.flatten_append]
    refine ⟨by rw [List.length_append, i1]; simp [hlen, Nat.succ_mul], fun i j hi hj => ?_⟩
    rcases Nat.lt_or_ge i m with hlt | hge
    ·have hb : i * w + j < m * w := by
      have := Nat.mul_le_mul_right w (show i + 1 ≤ m by omega)
      rw [Nat.succ_mul] at this
      omega
     rw [List.getD_eq_getElem?_getD, List.getElem?_append_left (by rw [i1]; exact hb), ← List.getD_eq_getElem?_getD]
     exact i2 i j hlt hj
    ·have : i = m := by omega
     subst this
     rw [List.getD_eq_getElem?_getD, List.getElem?_append_right (by rw [i1]; omega), i1, Nat.add_sub_cancel_left]
     simp [List.getD_eq_getElem?_getD]
  obtain ⟨f1, f2⟩ := hflat len (Nat.le_refl _)
  refine ⟨(List.range len).map row, _, h1, ?_, by simp; omega, fun r hr' => ?_⟩
  ·have e2 : ((List.range len).map row).length = len := by simp
   rw [e2]
   rcases Nat.eq_zero_or_pos len with h0 | h0
   ·subst h0
    exact .rov0 _ _ _ (by simp)
   ·have hs : a.spot = none := by
     have := (cell_rd ((hr 0 h0).2 0 hpos)).1
     unfold Addr.add at this
     simpa using this
    obtain ⟨b, o, s⟩ := a
    dsimp only at hs
    subst hs
    have hidx : ∀ k, k < len * w → k / w < len ∧ k % w < w ∧ (k / w) * w + k % w = k := by
     intro k hk
     refine ⟨(Nat.div_lt_iff_lt_mul hpos).2 hk, Nat.mod_lt _ hpos, Nat.div_add_mod' k w⟩
    refine .rov len _ b o cap (fun k => (mem (k / w)).getD (k % w) undef) h2 (fun k hk => ?_) (fun k hk => ?_)
    ·have hk : k < len * w := by rw [← f1]; simpa using hk
     obtain ⟨q1, q2, q3⟩ := hidx k hk
     have := (cell_rd ((hr (k / w) q1).2 (k % w) q2)).2
     rw [addr_add, q3] at this
     exact this
    ·have hk : k < len * w := by rw [← f1]; simpa using hk
     obtain ⟨q1, q2, q3⟩ := hidx k hk
     have e : (((List.range len).map row).flatten.toArray).getD k undef = (((List.range len).map row).flatten).getD k undef := by simp [Array.getD_eq_getD_getElem?, List.getD_eq_getElem?_getD]
     have e3 : (((List.range len).map row).flatten).getD k undef = (row (k / w)).getD (k % w) undef := by
      have := f2 _ _ q1 q2
      rw [q3] at this
      exact this
     rw [e, e3]
     exact (hV _ _ (hr (k / w) q1).1).2 _ q2
  ·rw [List.mem_map] at hr'
   obtain ⟨i, hi, rfl⟩ := hr'
   exact ⟨_, (hr i (by simpa using hi)).1⟩

def rowV (rows : List (List Value)) : Value := .iface rows.length (.agg rows.flatten.toArray)
theorem read_rows2 {H : Type} {enc : TypeId × Value → H} {P : Program} {W : World} {base : Nat} {t t1 e : TypeId} {v : Value} {d : DataW H} {p : List MemPlace} {ls : List Leaf} (ht : P.underlying t = some (.slice t1)) (ht1 : P.underlying t1 = some (.slice e)) (hc1 : P.cellsOf t1 = 1) (hc : P.cellsOf e = ls.length) (hpos : 0 < ls.length)
  (hL : TrodL enc P W 0 (fun _ => true) true e ls) (hval : Value.okWide P W .any base t v) (h : DataW.Trod enc P W 0 (fun _ => true) true t v d p) :
  ∃ rr : List (List (List Value)), (∀ A ρ, VR (prOf W) A ρ (.iface rr.length (.agg (rr.map rowV).toArray)) v) ∧ rr.length ≤ maxLen ∧ ∀ rows ∈ rr, rows.length ≤ maxLen ∧ ∀ r ∈ rows, AllL ls r := by
 obtain ⟨a0, len, cap, rfl⟩ := okWide_slice ht hval
 obtain ⟨fuel, hf⟩ := h
 have inner : ∀ (fuel : Nat) (cs : List Value) (x : DataW H × List MemPlace), DataW.trod enc P W 0 (fun _ => true) true fuel t1 cs = some x →
   ∃ as, (∃ (rows : List (List Value)) (v : Value), as = [rowV rows] ∧ cs = [v] ∧ V0 (prOf W) (rowV rows) v ∧ rows.length ≤ maxLen ∧ ∀ r ∈ rows, AllL ls r) := by
  intro fuel cs x hx
  obtain ⟨rows, v, e1, e2, e3, e4⟩ := rowsV0 (Q := fun as cs => as = cs ∧ AllL ls cs) ht1 hc hpos (fun f cs x hx => ⟨cs, rfl, hL f cs x hx⟩) (fun as cs ⟨q1, q2⟩ => by
   subst q1
   refine ⟨allL_length q2, fun j hj => ?_⟩
   have hm : as.getD j undef ∈ as := by
    have : j < as.length := by rw [allL_length q2]; exact hj
    rw [List.getD_eq_getElem?_getD, List.getElem?_eq_getElem this]
    exact List.getElem_mem this
   exact v0_leaves q2 _ hm) hx
  refine ⟨_, rows, v, rfl, e1, e2, e3, fun r hr => ?_⟩
  obtain ⟨cs, q1, q2⟩ := e4 r hr
  rw [q1]; exact q2
 obtain ⟨rows, v, e1, e2, e3, e4⟩ := rowsV0 (Q := fun as cs => ∃ (rows : List (List Value)) (v : Value), as = [rowV rows] ∧ cs = [v] ∧ V0 (prOf W) (rowV rows) v ∧ rows.length ≤ maxLen ∧ ∀ r ∈ rows, AllL ls r) ht hc1 (by omega) inner (fun as cs ⟨rows, v, q1, q2, q3, _⟩ => by
  subst q1 q2
  refine ⟨rfl, fun j hj => ?_⟩
  obtain rfl : j = 0 := by omega
  exact q3) hf
 have hv : Value.slice a0 len cap = v := by
  have e1 : [Value.slice a0 len cap] = [v] := e1
  cases e1; rfl
 -- the rows as rows
 have hall : ∀ rows : List (List Value), (∀ r ∈ rows, ∃ cs, ∃ (q : List (List Value)) (v : Value), r = [rowV q] ∧ cs = [v] ∧ V0 (prOf W) (rowV q) v ∧ q.length ≤ maxLen ∧ ∀ x ∈ q, AllL ls x) → ∃ rr : List (List (List Value)), rows = rr.map (fun q => [rowV q]) ∧ ∀ q ∈ rr, q.length ≤ maxLen ∧ ∀ x ∈ q, AllL ls x := by
  intro rows
  induction rows with
  | nil => intro _; exact ⟨[], rfl, fun q hq => by cases hq⟩
  | cons r rows ih =>
   intro hh
   obtain ⟨rr, g1, g2⟩ := ih (fun r hr => hh r (List.mem_cons_of_mem _ hr))
   obtain ⟨_, q, _, q1, _, _, q4, q5⟩ := hh r List.mem_cons_self
   refine ⟨q :: rr, by rw [q1, g1]; rfl, fun y hy => ?_⟩
   rcases List.mem_cons.1 hy with rfl | hy
   ·exact ⟨q4, q5⟩
   ·exact g2 y hy
 obtain ⟨rr, g1, g2⟩ := hall rows e4
 have hfl : rows.flatten = rr.map rowV := by
  rw [g1]
  clear g1 g2 e2 e3 e4 hf
  induction rr with
  | nil => rfl
  | cons q rr ih => simp only [List.map_cons, List.flatten_cons, ih]; rfl
 have hln : rows.length = rr.length := by rw [g1]; simp
 rw [hfl, hln] at e2
 have hlen : rr.length ≤ maxLen := by omega
 refine ⟨rr, fun A ρ => ?_, hlen, g2⟩
 rw [hv]
 clear hv e3 hln hfl g1 e4
 generalize rr.length = N at e2 ⊢
 generalize (rr.map rowV).toArray = CS at e2 ⊢
 cases e2 with
 | rov n cs b o c' f hn h hv2 => exact .rov _ _ _ _ _ f hn h hv2
 | rov0 cs a c' h => exact .rov0 _ _ _ h
end Go.Am
