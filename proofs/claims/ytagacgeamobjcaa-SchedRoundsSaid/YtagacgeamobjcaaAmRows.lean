/-
  The abstract machine: a law's argument that is a slice of structs of numbers, Bools, texts, and arrays of these.
-/
import Derived.Test.YtagacgeamobjcaaAmAgg
import Derived.OpenShut
set_option linter.unusedVariables false
set_option linter.unusedSimpArgs false
namespace Go.Am
open Go.ChangeShapes Go.WideShapes Go.ChangeAt Go.RowKit

theorem allL_append : ∀ {l r : List Leaf} {a b : List Value}, AllL l a → AllL r b → AllL (l ++ r) (a ++ b)
 | [], r, a, b, h, h2 => by
  have h : a = [] := h
  subst h
  exact h2
 | x :: l, r, a, b, h, h2 => by
  obtain ⟨v, q, rfl, h1, h3⟩ := h
  exact ⟨v, q ++ b, rfl, h1, allL_append h3 h2⟩
theorem allL_length : ∀ {l : List Leaf} {a : List Value}, AllL l a → a.length = l.length
 | [], a, h => by
  have h : a = [] := h
  subst h; rfl
 | x :: l, a, h => by
  obtain ⟨v, q, rfl, h1, h3⟩ := h
  simp [allL_length h3]

section
variable {H : Type} {enc : TypeId × Value → H} {P : Program} {W : World} {base : Nat} {sp : Nat → Bool} {held : Bool}
def TrodL (enc : TypeId × Value → H) (P : Program) (W : World) (base : Nat) (sp : Nat → Bool) (held : Bool) (t : TypeId) (ls : List Leaf) : Prop :=
 ∀ (fuel : Nat) (cs : List Value) (x : DataW H × List MemPlace), DataW.trod enc P W base sp held fuel t cs = some x → AllL ls cs
theorem trodL_int {t : TypeId} {k : IntKind} (h : P.underlying t = some (.int k)) : TrodL enc P W base sp held t [.int k] := by
 intro fuel cs x hx
 obtain ⟨n, rfl, _, hw⟩ := DataW.trod_int h hx
 exact ⟨_, _, rfl, ⟨n, rfl, hw⟩, rfl⟩
theorem trodL_bool {t : TypeId} (h : P.underlying t = some .bool) : TrodL enc P W base sp held t [.bool] := by
 intro fuel cs x hx
 obtain ⟨b, rfl, _⟩ := DataW.trod_bool h hx
 exact ⟨_, _, rfl, ⟨b, rfl⟩, rfl⟩
def FieldsL (enc : TypeId × Value → H) (P : Program) (W : World) (base : Nat) (sp : Nat → Bool) (held : Bool) : List Field → Nat → List Leaf → Prop
 | [], _, ls => ls = []
 | f :: fs, o, ls => ∃ l r, ls = l ++ r ∧ f.offset = o ∧ P.cellsOf f.type = l.length ∧ TrodL enc P W base sp held f.type l ∧ FieldsL enc P W base sp held fs (o + l.length) r
theorem fields_all {m : Nat} {cs : List Value} : ∀ {fs : List Field} {o : Nat} {ls : List Leaf}, FieldsL enc P W base sp held fs o ls → cs.length = o + ls.length →
  (∀ f ∈ fs, ∃ x, DataW.trod enc P W base sp held m f.type ((cs.drop f.offset).take (P.cellsOf f.type)) = some x) → AllL ls (cs.drop o)
 | [], o, ls, h, hl, _ => by
  have h : ls = [] := h
  subst h
  rw [List.drop_of_length_le (by simpa using Nat.le_of_eq hl)]
  rfl
 | f :: fs, o, ls, h, hl, hf => by
  obtain ⟨l, r, rfl, ho, hc, ht, hr⟩ := h
  obtain ⟨x, hx⟩ := hf f (by simp)
  rw [ho, hc] at hx
  have h1 := ht _ _ _ hx
  have h2 := fields_all (cs := cs) hr (by rw [hl, List.length_append]; omega) (fun g hg => hf g (by simp [hg]))
  have := allL_append h1 h2
  rw [← List.drop_drop, List.take_append_drop] at this
  exact this
theorem trodL_struct {t : TypeId} {fs : Array Field} {ls : List Leaf} (h : P.underlying t = some (.struct fs)) (hc : P.cellsOf t = ls.length) (hf : FieldsL enc P W base sp held fs.toList 0 ls) : TrodL enc P W base sp held t ls := by
 intro fuel cs x hx
 obtain ⟨xs, m, _, _, hl, hn, hi⟩ := DataW.trod_struct h hx
 have := fields_all (cs := cs) (m := m) hf (by rw [hl, hc]; omega) (fun f hf' => by
  obtain ⟨i, hi', rfl⟩ := List.getElem_of_mem hf'
  have h1 := hi i fs.toList[i] (by simp at hi' ⊢)
  have : i < xs.length := by rw [hn]; simpa using hi'
  rw [List.getElem?_eq_getElem this] at h1
  exact ⟨_, h1⟩)
 simpa using this
end

theorem add_add (a : Addr) (i j : Nat) : (a.add i).add j = a.add (i + j) := by
 unfold Addr.add
 by_cases hi : i = 0
 ·subst hi; simp
 ·by_cases hj : j = 0
  ·subst hj; simp [hi]
  ·simp [hi, hj, Nat.add_assoc]
theorem v0_leaf {Pr : Prot} {l : Leaf} {v : Value} (h : leafV l v) : V0 Pr v v := by
 cases l with
 | int k => obtain ⟨n, rfl, _⟩ := h; exact .int _ _
 | bool => obtain ⟨b, rfl⟩ := h; exact .bool _
 | str => obtain ⟨s, rfl, _⟩ := h; exact .str _
 | other => exact h.elim
 | row => exact h.elim
theorem v0_leaves {Pr : Prot} : ∀ {ls : List Leaf} {vs : List Value}, AllL ls vs → ∀ v ∈ vs, V0 Pr v v
 | [], vs, h, v, hv => by
  have h : vs = [] := h
  subst h; cases hv
 | l :: ls, vs, h, v, hv => by
  obtain ⟨a, r, rfl, h1, h2⟩ := h
  rw [List.mem_cons] at hv
  rcases hv with rfl | hv
  ·exact v0_leaf h1
  ·exact v0_leaves h2 v hv
theorem cells_get {w : World} {base : Nat} {a : Addr} {n : Nat} {cs : List Value} (h : w.cells? base a n = some cs) : cs.length = n ∧ ∀ i, i < n → w.cell? (a.add i) = some (cs.getD i undef) := by
 unfold World.cells? at h
 split at h
 ·have hl := mapM_some_length h
  refine ⟨by simpa using hl, fun i hi => ?_⟩
  have := mapM_some_get h i i (by simp [hi])
  rw [this]
  have hi2 : i < cs.length := by simp at hl; omega
  simp [List.getD_eq_getElem?_getD, hi2]
 ·cases h

end Go.Am
