/-
  The abstract machine: a law's argument that is a slice of structs of numbers, Bools, texts, and arrays of these.
-/
import Derived.Test.YtabloimmlmgcbaaAmAgg
import Derived.OpenShut
set_option linter.unusedVariables false
set_option linter.unusedSimpArgs false
namespace Go.Am
open Go.ChangeShapes Go.WideShapes Go.ChangeAt Go.RowKit

theorem allL_append : ∀ {l r : List Leaf} {a b : List Value}, AllL l a → AllL r b → AllL (l ++ r) (a ++ b)
  | [], r, a, b, h, h2 => by
    have h : a = [] := h
    subst h
    exact h2
  | x :: l, r, a, b, h, h2 => by
    obtain ⟨v, q, rfl, h1, h3⟩ := h
    exact ⟨v, q ++ b, rfl, h1, allL_append h3 h2⟩
theorem allL_length : ∀ {l : List Leaf} {a : List Value}, AllL l a → a.length = l.length
  | [], a, h => by
    have h : a = [] := h
    subst h; rfl
  | x :: l, a, h => by
    obtain ⟨v, q, rfl, h1, h3⟩ := h
    simp [allL_length h3]

section
variable {H : Type} {enc : TypeId × Value → H} {P : Program} {W : World} {base : Nat} {sp : Nat → Bool} {held : Bool}
/-- Whatever is read of a type has cells of these leaves. -/
def TrodL (enc : TypeId × Value → H) (P : Program) (W : World) (base : Nat) (sp : Nat → Bool) (held : Bool) (t : TypeId) (ls : List Leaf) : Prop :=
  ∀ (fuel : Nat) (cs : List Value) (x : DataW H × List MemPlace), DataW.trod enc P W base sp held fuel t cs = some x → AllL ls cs
theorem trodL_int {t : TypeId} {k : IntKind} (h : P.underlying t = some (.int k)) : TrodL enc P W base sp held t [.int k] := by
  intro fuel cs x hx
  obtain ⟨n, rfl, _, hw⟩ := DataW.trod_int h hx
  exact ⟨_, _, rfl, ⟨n, rfl, hw⟩, rfl⟩
theorem trodL_bool {t : TypeId} (h : P.underlying t = some .bool) : TrodL enc P W base sp held t [.bool] := by
  intro fuel cs x hx
  obtain ⟨b, rfl, _⟩ := DataW.trod_bool h hx
  exact ⟨_, _, rfl, ⟨b, rfl⟩, rfl⟩
theorem trodL_str {t : TypeId} (h : P.underlying t = some .string) : TrodL enc P W base sp held t [.str] := by
  intro fuel cs x hx
  obtain ⟨s, rfl, _, hs⟩ := DataW.trod_string h hx
  exact ⟨_, _, rfl, ⟨s, rfl, hs⟩, rfl⟩
theorem allL_blocks {l : List Leaf} : ∀ (n : Nat) (cs : List Value), cs.length = n * l.length → (∀ i, i < n → AllL l ((cs.drop (i * l.length)).take l.length)) → AllL (List.replicate n l).flatten cs
  | 0, cs, hl, _ => by
    have : cs = [] := List.length_eq_zero_iff.1 (by omega)
    subst this; rfl
  | n + 1, cs, hl, h => by
    have h0 := h 0 (by omega)
    rw [Nat.zero_mul, List.drop_zero] at h0
    have hr := allL_blocks (l := l) n (cs.drop l.length) (by rw [List.length_drop, hl, Nat.succ_mul]; omega) (fun i hi => by
      have := h (i + 1) (by omega)
      rw [Nat.succ_mul, Nat.add_comm, ← List.drop_drop] at this
      exact this)
    have := allL_append h0 hr
    rw [List.take_append_drop] at this
    rw [List.replicate_succ, List.flatten_cons]
    exact this
theorem trodL_arr {t e : TypeId} {n : Nat} {l : List Leaf} (h : P.underlying t = some (.array n e)) (hc : P.cellsOf e = l.length) (ht : P.cellsOf t = n * l.length) (he : TrodL enc P W base sp held e l) : TrodL enc P W base sp held t (List.replicate n l).flatten := by
  intro fuel cs x hx
  obtain ⟨xs, m, _, _, hl, hn, hi⟩ := DataW.trod_array h hx
  refine allL_blocks n cs (by rw [hl, ht]) (fun i hi' => ?_)
  have h1 := hi i hi'
  rw [hc] at h1
  have : i < xs.length := by omega
  rw [List.getElem?_eq_getElem this] at h1
  exact he m _ _ h1
/-- The fields of a struct, one behind the other. -/
def FieldsL (enc : TypeId × Value → H) (P : Program) (W : World) (base : Nat) (sp : Nat → Bool) (held : Bool) : List Field → Nat → List Leaf → Prop
  | [], _, ls => ls = []
  | f :: fs, o, ls => ∃ l r, ls = l ++ r ∧ f.offset = o ∧ P.cellsOf f.type = l.length ∧ TrodL enc P W base sp held f.type l ∧ FieldsL enc P W base sp held fs (o + l.length) r
theorem fields_all {m : Nat} {cs : List Value} : ∀ {fs : List Field} {o : Nat} {ls : List Leaf}, FieldsL enc P W base sp held fs o ls → cs.length = o + ls.length →
    (∀ f ∈ fs, ∃ x, DataW.trod enc P W base sp held m f.type ((cs.drop f.offset).take (P.cellsOf f.type)) = some x) → AllL ls (cs.drop o)
  | [], o, ls, h, hl, _ => by
    have h : ls = [] := h
    subst h
    rw [List.drop_of_length_le (by simpa using Nat.le_of_eq hl)]
    rfl
  | f :: fs, o, ls, h, hl, hf => by
    obtain ⟨l, r, rfl, ho, hc, ht, hr⟩ := h
    obtain ⟨x, hx⟩ := hf f (by simp)
    rw [ho, hc] at hx
    have h1 := ht _ _ _ hx
    have h2 := fields_all (cs := cs) hr (by rw [hl, List.length_append]; omega) (fun g hg => hf g (by simp [hg]))
    have := allL_append h1 h2
    rw [← List.drop_drop, List.take_append_drop] at this
    exact this
theorem trodL_struct {t : TypeId} {fs : Array Field} {ls : List Leaf} (h : P.underlying t = some (.struct fs)) (hc : P.cellsOf t = ls.length) (hf : FieldsL enc P W base sp held fs.toList 0 ls) : TrodL enc P W base sp held t ls := by
  intro fuel cs x hx
  obtain ⟨xs, m, _, _, hl, hn, hi⟩ := DataW.trod_struct h hx
  have := fields_all (cs := cs) (m := m) hf (by rw [hl, hc]; omega) (fun f hf' => by
    obtain ⟨i, hi', rfl⟩ := List.getElem_of_mem hf'
    have h1 := hi i fs.toList[i] (by simp at hi' ⊢)
    have : i < xs.length := by rw [hn]; simpa using hi'
    rw [List.getElem?_eq_getElem this] at h1
    exact ⟨_, h1⟩)
  simpa using this
end

theorem add_add (a : Addr) (i j : Nat) : (a.add i).add j = a.add (i + j) := by
  unfold Addr.add
  by_cases hi : i = 0
  · subst hi; simp
  · by_cases hj : j = 0
    · subst hj; simp [hi]
    · simp [hi, hj, Nat.add_assoc]
theorem v0_leaf {Pr : Prot} {l : Leaf} {v : Value} (h : leafV l v) : V0 Pr v v := by
  cases l with
  | int k => obtain ⟨n, rfl, _⟩ := h; exact .int _ _
  | bool => obtain ⟨b, rfl⟩ := h; exact .bool _
  | str => obtain ⟨s, rfl, _⟩ := h; exact .str _
  | other => exact h.elim
  | row => exact h.elim
theorem v0_leaves {Pr : Prot} : ∀ {ls : List Leaf} {vs : List Value}, AllL ls vs → ∀ v ∈ vs, V0 Pr v v
  | [], vs, h, v, hv => by
    have h : vs = [] := h
    subst h; cases hv
  | l :: ls, vs, h, v, hv => by
    obtain ⟨a, r, rfl, h1, h2⟩ := h
    rw [List.mem_cons] at hv
    rcases hv with rfl | hv
    · exact v0_leaf h1
    · exact v0_leaves h2 v hv
theorem cells_get {w : World} {base : Nat} {a : Addr} {n : Nat} {cs : List Value} (h : w.cells? base a n = some cs) : cs.length = n ∧ ∀ i, i < n → w.cell? (a.add i) = some (cs.getD i undef) := by
  unfold World.cells? at h
  split at h
  · have hl := mapM_some_length h
    refine ⟨by simpa using hl, fun i hi => ?_⟩
    have := mapM_some_get h i i (by simp [hi])
    rw [this]
    have hi2 : i < cs.length := by simp at hl; omega
    simp [List.getD_eq_getElem?_getD, hi2]
  · cases h

/-- A slice of structs that is handed in. -/
theorem read_rows {H : Type} {enc : TypeId × Value → H} {P : Program} {W : World} {base : Nat} {t e : TypeId} {v : Value} {d : DataW H} {p : List MemPlace} {ls : List Leaf} (ht : P.underlying t = some (.slice e)) (hc : P.cellsOf e = ls.length) (hpos : 0 < ls.length)
    (hL : TrodL enc P W 0 (fun _ => true) true e ls) (hval : Value.okWide P W .any base t v) (h : DataW.Trod enc P W 0 (fun _ => true) true t v d p) :
    ∃ rows : List (List Value), (∀ A ρ, VR (prOf W) A ρ (.iface rows.length (.agg rows.flatten.toArray)) v) ∧ rows.length ≤ maxLen ∧ ∀ r ∈ rows, AllL ls r := by
  obtain ⟨a0, len, cap, rfl⟩ := okWide_slice ht hval
  obtain ⟨fuel, hf⟩ := h
  rcases DataW.trod_slice ht hf with ⟨h1, _⟩ | ⟨a, l, c, elems, rest, n, _, h1, _, _, h2, h3, hl, h4, _⟩
  · simp only [Value.cells, List.cons.injEq, and_true] at h1
    cases h1
    exact ⟨[], fun A ρ => .rov0 _ _ _ rfl, Nat.zero_le _, fun n hn => by cases hn⟩
  · simp only [Value.cells, List.cons.injEq, and_true] at h1
    cases h1
    rw [hc] at h4
    have hrow : ∀ i, i < len → ∃ cs, W.cells? 0 (a.add (i * ls.length)) ls.length = some cs ∧ AllL ls cs := by
      intro i hi
      have h5 := h4 i hi
      have : i < elems.length := by omega
      rw [List.getElem?_eq_getElem this] at h5
      cases hcs : W.cells? 0 (a.add (i * ls.length)) ls.length with
      | none => rw [hcs] at h5; cases h5
      | some cs => rw [hcs] at h5; exact ⟨cs, rfl, hL _ _ _ h5⟩
    let row : Nat → List Value := fun i => (W.cells? 0 (a.add (i * ls.length)) ls.length).getD []
    have hr : ∀ i, i < len → AllL ls (row i) ∧ ∀ j, j < ls.length → W.cell? (a.add (i * ls.length + j)) = some ((row i).getD j undef) := by
      intro i hi
      obtain ⟨cs, e1, e2⟩ := hrow i hi
      have e3 : row i = cs := by show (W.cells? 0 (a.add (i * ls.length)) ls.length).getD [] = cs; rw [e1]; rfl
      rw [e3]
      refine ⟨e2, fun j hj => ?_⟩
      have := (cells_get e1).2 j hj
      rw [← this, add_add]
    have hflat : ∀ m, m ≤ len → (((List.range m).map row).flatten).length = m * ls.length ∧ ∀ i j, i < m → j < ls.length → (((List.range m).map row).flatten).getD (i * ls.length + j) undef = (row i).getD j undef := by
      intro m
      induction m with
      | zero => intro _; exact ⟨by simp, fun i j hi => absurd hi (Nat.not_lt_zero _)⟩
      | succ m ih =>
        intro hm
        obtain ⟨i1, i2⟩ := ih (by omega)
        have hlen := allL_length (hr m (by omega)).1
        rw [List.range_succ, List.map_append, List.flatten_append]
        refine ⟨by rw [List.length_append, i1]; simp [hlen, Nat.succ_mul], fun i j hi hj => ?_⟩
        rcases Nat.lt_or_ge i m with hlt | hge
        · have hb : i * ls.length + j < m * ls.length := by
            have := Nat.mul_le_mul_right ls.length (show i + 1 ≤ m by omega)
            rw [Nat.succ_mul] at this
            omega
          rw [List.getD_eq_getElem?_getD, List.getElem?_append_left (by rw [i1]; exact hb), ← List.getD_eq_getElem?_getD]
          exact i2 i j hlt hj
        · have : i = m := by omega
          subst this
          rw [List.getD_eq_getElem?_getD, List.getElem?_append_right (by rw [i1]; omega), i1, Nat.add_sub_cancel_left]
          simp [List.getD_eq_getElem?_getD]
    obtain ⟨f1, f2⟩ := hflat len (Nat.le_refl _)
    refine ⟨(List.range len).map row, fun A ρ => ?_, by simp; omega, fun r hr' => ?_⟩
    · have e2 : ((List.range len).map row).length = len := by simp
      rw [e2]
      rcases Nat.eq_zero_or_pos len with h0 | h0
      · subst h0
        exact .rov0 _ _ _ (by simp)
      · have hs : a.spot = none := by
          have := (cell_rd ((hr 0 h0).2 0 hpos)).1
          unfold Addr.add at this
          simpa using this
        obtain ⟨b, o, s⟩ := a
        dsimp only at hs
        subst hs
        have hidx : ∀ k, k < len * ls.length → k / ls.length < len ∧ k % ls.length < ls.length ∧ (k / ls.length) * ls.length + k % ls.length = k := by
          intro k hk
          refine ⟨(Nat.div_lt_iff_lt_mul hpos).2 hk, Nat.mod_lt _ hpos, Nat.div_add_mod' k ls.length⟩
        refine .rov len _ b o cap (fun k => (((List.range len).map row).flatten).getD k undef) h2 (fun k hk => ?_) (fun k hk => ?_)
        · have hk : k < len * ls.length := by rw [← f1]; simpa using hk
          obtain ⟨q1, q2, q3⟩ := hidx k hk
          have := (cell_rd ((hr (k / ls.length) q1).2 (k % ls.length) q2)).2
          rw [addr_add, q3] at this
          rw [this, ← f2 _ _ q1 q2, q3]
        · have hk : k < len * ls.length := by rw [← f1]; simpa using hk
          obtain ⟨q1, q2, q3⟩ := hidx k hk
          have e : (((List.range len).map row).flatten.toArray).getD k undef = (((List.range len).map row).flatten).getD k undef := by simp [Array.getD_eq_getD_getElem?, List.getD_eq_getElem?_getD]
          rw [e, ← q3, f2 _ _ q1 q2]
          have hl2 := allL_length (hr (k / ls.length) q1).1
          have hm : (row (k / ls.length)).getD (k % ls.length) undef ∈ row (k / ls.length) := by
            have : k % ls.length < (row (k / ls.length)).length := by rw [hl2]; exact q2
            rw [List.getD_eq_getElem?_getD, List.getElem?_eq_getElem this]
            exact List.getElem_mem this
          exact v0_leaves (hr (k / ls.length) q1).1 _ hm
    · rw [List.mem_map] at hr'
      obtain ⟨i, hi, rfl⟩ := hr'
      exact (hr i (by simpa using hi)).1
end Go.Am
