/-
  Plain laws of a row of elements of some cells each, and of a ring in such a row: no program here.
-/
import Derived.Test.YtabloimmlmgcbaaEnv
import Derived.Test.YtabloimmlmgcbaaAmFlex
set_option linter.unusedVariables false
set_option linter.unusedSimpArgs false
open Go Go.Am
namespace Go.Proofs.Ytabloimmlmgcbaa

/-! ### rows -/
theorem flat_len {w : Nat} : ∀ {es : List (List Value)}, (∀ e ∈ es, e.length = w) → es.flatten.length = es.length * w
  | [], _ => by simp
  | e :: r, h => by
    rw [List.flatten_cons, List.length_append, flat_len (fun e he => h e (List.mem_cons_of_mem _ he)), h e (by simp), List.length_cons, Nat.add_mul]
    omega
theorem getD_flat {w : Nat} : ∀ {es : List (List Value)} {j k : Nat} {e : List Value}, (∀ e ∈ es, e.length = w) → es[j]? = some e → k < w → es.flatten.getD (j * w + k) undef = e.getD k undef
  | [], j, k, e, _, h, _ => by simp at h
  | a :: r, 0, k, e, hw, h, hk => by
    simp at h
    subst h
    have := hw a (by simp)
    rw [List.flatten_cons, List.getD_eq_getElem?_getD, Nat.zero_mul, Nat.zero_add, List.getElem?_append_left (by omega), List.getD_eq_getElem?_getD]
  | a :: r, j + 1, k, e, hw, h, hk => by
    have := hw a (by simp)
    rw [List.flatten_cons, List.getD_eq_getElem?_getD, Nat.add_mul, List.getElem?_append_right (by omega), show j * w + 1 * w + k - a.length = j * w + k by omega, ← List.getD_eq_getElem?_getD]
    exact getD_flat (fun e he => hw e (List.mem_cons_of_mem _ he)) (by simpa using h) hk
theorem setN_app {a b : List Value} : ∀ {x : List Value} {o : Nat}, setN (a ++ b) (a.length + o) x = a ++ setN b o x
  | [], o => rfl
  | v :: r, o => by
    rw [setN, setN, List.set_append_right _ _ (by omega), Nat.add_assoc, setN_app]
    congr 2
    simp
theorem setN_self : ∀ {x b c : List Value} {o : Nat}, x.length = b.length → setN (b ++ c) 0 x = x ++ c
  | [], [], c, o, _ => rfl
  | [], _ :: _, c, o, h => by simp at h
  | _ :: _, [], c, o, h => by simp at h
  | v :: r, y :: b, c, o, h => by
    rw [setN]
    have e : (y :: b ++ c).set 0 v = [v] ++ (b ++ c) := rfl
    rw [e, show 0 + 1 = [v].length + 0 from rfl, setN_app, setN_self (o := 0) (by simpa using h)]
    rfl
theorem setN_flat {w : Nat} : ∀ {es : List (List Value)} {j : Nat} {x : List Value}, (∀ e ∈ es, e.length = w) → x.length = w → j < es.length → setN es.flatten (j * w) x = (es.set j x).flatten
  | [], j, x, _, _, h => by simp at h
  | a :: r, 0, x, hw, hx, _ => by
    have := hw a (by simp)
    rw [List.flatten_cons, Nat.zero_mul, setN_self (o := 0) (by omega)]
    rfl
  | a :: r, j + 1, x, hw, hx, h => by
    have := hw a (by simp)
    rw [List.flatten_cons, show (j + 1) * w = a.length + j * w by rw [Nat.add_mul]; omega, setN_app, setN_flat (fun e he => hw e (List.mem_cons_of_mem _ he)) hx (by simpa using h)]
    rfl
theorem all_flat {P : List Value → Prop} (hP : ∀ e, P e → e.all flat = true) : ∀ {es : List (List Value)}, (∀ e ∈ es, P e) → es.flatten.all flat = true
  | [], _ => rfl
  | e :: r, h => by
    rw [List.flatten_cons, List.all_append, hP e (h e (by simp)), all_flat hP (fun e he => h e (List.mem_cons_of_mem _ he))]
    rfl
theorem rep_flat (z : List Value) : ∀ n, rep z n = (List.replicate n z).flatten
  | 0 => rfl
  | n + 1 => by rw [rep, rep_flat z n, List.replicate_succ, List.flatten_cons]
theorem take_flat {w : Nat} : ∀ {es : List (List Value)} {n : Nat}, (∀ e ∈ es, e.length = w) → es.flatten.take (n * w) = (es.take n).flatten
  | [], n, _ => by simp
  | e :: r, 0, _ => by simp
  | e :: r, n + 1, h => by
    have := h e (by simp)
    rw [List.flatten_cons, List.take_append, List.take_succ_cons, List.flatten_cons, List.take_of_length_le (by rw [Nat.add_mul]; omega), show (n + 1) * w - e.length = n * w by rw [Nat.add_mul]; omega, take_flat (fun e he => h e (List.mem_cons_of_mem _ he))]

/-! ### rings -/
/-- What an element is: its cells. -/
structure El (w : Nat) (P : List Value → Prop) (z : List Value) : Prop where
  len : ∀ e, P e → e.length = w
  flat : ∀ e, P e → e.all Go.Am.flat = true
  z : P z
  pos : 0 < w
/-- The row of a ring of ln places holds the things q from its place 'first' on. -/
def Rep (P : List Value → Prop) (first n : Int) (ln : Nat) (L : List Value) (q : List (List Value)) : Prop :=
  ∃ es : List (List Value), L = es.flatten ∧ es.length = ln ∧ (∀ e ∈ es, P e) ∧ 0 ≤ first ∧ (first < ln ∨ first = 0 ∧ ln = 0) ∧ n = q.length ∧ q.length ≤ ln ∧ ∀ i x, q[i]? = some x → es[(first.toNat + i) % ln]? = some x
theorem mod_idx {first i : Int} {ln : Nat} (h0 : 0 ≤ first) (h1 : first < ln) (h2 : 0 ≤ i) (h3 : i ≤ 100000) (h4 : ln ≤ 100000) :
    (IntKind.i64.wrap (first + i)).tmod (ln : Int) = ((first.toNat + i.toNat) % ln : Nat) := by
  rw [wrap64_in (by omega) (by omega)]
  have : first + i = ((first.toNat + i.toNat : Nat) : Int) := by omega
  rw [this, ← Int.ofNat_tmod]
theorem Rep.mem {w : Nat} {P : List Value → Prop} {z : List Value} (hE : El w P z) {first n : Int} {ln : Nat} {L : List Value} {q : List (List Value)} (h : Rep P first n ln L q) : ∀ x ∈ q, P x := by
  obtain ⟨es, h1, h2, h3, h4, h5, h6, h7, h8⟩ := h
  intro x hx
  obtain ⟨i, hi⟩ := List.getElem?_of_mem hx
  exact h3 x (List.mem_of_getElem? (h8 i x hi))
theorem Rep.len {w : Nat} {P : List Value → Prop} {z : List Value} (hE : El w P z) {first n : Int} {ln : Nat} {L : List Value} {q : List (List Value)} (h : Rep P first n ln L q) : L.length = ln * w := by
  obtain ⟨es, h1, h2, h3, h4, h5, h6, h7, h8⟩ := h
  rw [h1, flat_len (fun e he => hE.len e (h3 e he)), h2]
theorem Rep.flat {w : Nat} {P : List Value → Prop} {z : List Value} (hE : El w P z) {first n : Int} {ln : Nat} {L : List Value} {q : List (List Value)} (h : Rep P first n ln L q) : L.all Go.Am.flat = true := by
  obtain ⟨es, h1, h2, h3, h4, h5, h6, h7, h8⟩ := h
  rw [h1]
  exact all_flat hE.flat h3
/-- The cell k of the i-th thing. -/
theorem Rep.get {w : Nat} {P : List Value → Prop} {z : List Value} (hE : El w P z) {first n : Int} {ln : Nat} {L : List Value} {q : List (List Value)} (h : Rep P first n ln L q) {i : Nat} {x : List Value} (hi : q[i]? = some x) {k : Nat} (hk : k < w) :
    L.getD (((first.toNat + i) % ln) * w + k) undef = x.getD k undef := by
  obtain ⟨es, h1, h2, h3, h4, h5, h6, h7, h8⟩ := h
  rw [h1]
  exact getD_flat (fun e he => hE.len e (h3 e he)) (h8 i x hi) hk
/-- A thing put behind the others, where there is a place. -/
theorem Rep.push {w : Nat} {P : List Value → Prop} {z : List Value} (hE : El w P z) {first n : Int} {ln : Nat} {L : List Value} {q : List (List Value)} (h : Rep P first n ln L q) {x : List Value} (hx : P x) (hn : q.length < ln) :
    Rep P first (n + 1) ln (setN L (((first.toNat + q.length) % ln) * w) x) (q ++ [x]) := by
  obtain ⟨es, h1, h2, h3, h4, h5, h6, h7, h8⟩ := h
  have hj : (first.toNat + q.length) % ln < ln := Nat.mod_lt _ (by omega)
  refine ⟨es.set ((first.toNat + q.length) % ln) x, by rw [h1]; exact setN_flat (fun e he => hE.len e (h3 e he)) (hE.len x hx) (by omega), by simp [h2], fun e he => ?_, h4, h5, by simp; omega, by simp; omega, fun i y hy => ?_⟩
  · rcases List.mem_or_eq_of_mem_set he with h | h
    · exact h3 e h
    · rw [h]; exact hx
  · rcases Nat.lt_or_ge i q.length with hi | hi
    · rw [List.getElem?_append_left hi] at hy
      rw [List.getElem?_set_ne]
      · exact h8 i y hy
      · intro e
        have hf : first.toNat < ln := by omega
        have a1 : first.toNat + q.length < 2 * ln := by omega
        have a2 : first.toNat + i < 2 * ln := by omega
        have b1 := Nat.div_add_mod (first.toNat + q.length) ln
        have b2 := Nat.div_add_mod (first.toNat + i) ln
        have c1 : (first.toNat + q.length) / ln < 2 := Nat.div_lt_of_lt_mul (by omega)
        have c2 : (first.toNat + i) / ln < 2 := Nat.div_lt_of_lt_mul (by omega)
        generalize (first.toNat + q.length) / ln = u at b1 c1
        generalize (first.toNat + i) / ln = v at b2 c2
        rcases (show u = 0 ∨ u = 1 by omega) with rfl | rfl <;> rcases (show v = 0 ∨ v = 1 by omega) with rfl | rfl <;> simp at b1 b2 <;> omega
    · have hlt := (List.getElem?_eq_some_iff.1 hy).1
      simp at hlt
      have : i = q.length := by omega
      subst this
      simp at hy
      subst hy
      rw [List.getElem?_set_self (by omega)]
/-- The first thing taken out. -/
theorem Rep.pop {w : Nat} {P : List Value → Prop} {z : List Value} (hE : El w P z) {first n : Int} {ln : Nat} {L : List Value} {x : List Value} {q : List (List Value)} (h : Rep P first n ln L (x :: q)) :
    Rep P (((first.toNat + 1) % ln : Nat) : Int) (n - 1) ln (setN L (first.toNat * w) z) q := by
  obtain ⟨es, h1, h2, h3, h4, h5, h6, h7, h8⟩ := h
  simp only [List.length_cons] at h6 h7
  have hj : (first.toNat + 1) % ln < ln := Nat.mod_lt _ (by omega)
  refine ⟨es.set first.toNat z, by rw [h1]; exact setN_flat (fun e he => hE.len e (h3 e he)) (hE.len z hE.z) (by omega), by simp [h2], fun e he => ?_, by omega, by omega, by omega, by omega, fun i y hy => ?_⟩
  · rcases List.mem_or_eq_of_mem_set he with h | h
    · exact h3 e h
    · rw [h]; exact hE.z
  · have hi := (List.getElem?_eq_some_iff.1 hy).1
    have e : (((first.toNat + 1) % ln : Nat) : Int).toNat = (first.toNat + 1) % ln := by omega
    rw [e, Nat.mod_add_mod, List.getElem?_set_ne]
    · have := h8 (i + 1) y (by simpa using hy)
      rw [show first.toNat + 1 + i = first.toNat + (i + 1) by omega]
      exact this
    · intro e
      have b1 := Nat.div_add_mod (first.toNat + 1 + i) ln
      have c1 : (first.toNat + 1 + i) / ln < 2 := Nat.div_lt_of_lt_mul (by omega)
      generalize (first.toNat + 1 + i) / ln = u at b1 c1
      rcases (show u = 0 ∨ u = 1 by omega) with rfl | rfl <;> simp at b1 <;> omega
/-- A thing set. -/
theorem Rep.set {w : Nat} {P : List Value → Prop} {z : List Value} (hE : El w P z) {first n : Int} {ln : Nat} {L : List Value} {q : List (List Value)} (h : Rep P first n ln L q) {x : List Value} (hx : P x) {j : Nat} (hj : j < q.length) :
    Rep P first n ln (setN L (((first.toNat + j) % ln) * w) x) (q.set j x) := by
  obtain ⟨es, h1, h2, h3, h4, h5, h6, h7, h8⟩ := h
  have hjl : (first.toNat + j) % ln < ln := Nat.mod_lt _ (by omega)
  refine ⟨es.set ((first.toNat + j) % ln) x, by rw [h1]; exact setN_flat (fun e he => hE.len e (h3 e he)) (hE.len x hx) (by omega), by simp [h2], fun e he => ?_, h4, h5, by simp; omega, by simp; omega, fun i y hy => ?_⟩
  · rcases List.mem_or_eq_of_mem_set he with h | h
    · exact h3 e h
    · rw [h]; exact hx
  · by_cases hij : i = j
    · subst hij
      rw [List.getElem?_set_self hj] at hy
      cases hy
      rw [List.getElem?_set_self (by omega)]
    · have hi := (List.getElem?_eq_some_iff.1 hy).1
      simp at hi
      rw [List.getElem?_set_ne (Ne.symm hij)] at hy
      rw [List.getElem?_set_ne]
      · exact h8 i y hy
      · intro e
        have b1 := Nat.div_add_mod (first.toNat + j) ln
        have b2 := Nat.div_add_mod (first.toNat + i) ln
        have c1 : (first.toNat + j) / ln < 2 := Nat.div_lt_of_lt_mul (by omega)
        have c2 : (first.toNat + i) / ln < 2 := Nat.div_lt_of_lt_mul (by omega)
        generalize (first.toNat + j) / ln = u at b1 c1
        generalize (first.toNat + i) / ln = v at b2 c2
        rcases (show u = 0 ∨ u = 1 by omega) with rfl | rfl <;> rcases (show v = 0 ∨ v = 1 by omega) with rfl | rfl <;> simp at b1 b2 <;> omega
/-- A row made anew: the things, zeros behind. -/
theorem rep_new {w : Nat} {P : List Value → Prop} {z : List Value} (hE : El w P z) {q : List (List Value)} (hq : ∀ x ∈ q, P x) {m : Nat} (hm : 0 < q.length + m) :
    Rep P 0 q.length (q.length + m) (q ++ List.replicate m z).flatten q := by
  refine ⟨q ++ List.replicate m z, rfl, by simp, fun e he => ?_, by omega, by omega, rfl, by omega, fun i x hx => ?_⟩
  · rcases List.mem_append.1 he with h | h
    · exact hq e h
    · rw [(List.mem_replicate.1 h).2]; exact hE.z
  · have := (List.getElem?_eq_some_iff.1 hx).1
    rw [show (0 : Int).toNat + i = i by simp, Nat.mod_eq_of_lt (by omega), List.getElem?_append_left this]
    exact hx
/-- How many places there are behind a growth. -/
def growN (mx : Int) (ln : Nat) : Nat := (bif decide (mx < bif decide (IntKind.i64.wrap (2 * (ln : Int)) < 8) then 8 else IntKind.i64.wrap (2 * (ln : Int))) then mx else bif decide (IntKind.i64.wrap (2 * (ln : Int)) < 8) then 8 else IntKind.i64.wrap (2 * (ln : Int))).toNat
theorem growN_val {mx : Int} {ln : Nat} (h1 : (ln : Int) ≤ mx) (h2 : mx ≤ 65536) : growN mx ln = min (max (2 * ln) 8) mx.toNat := by
  unfold growN
  rw [wrap64_in (by omega) (by omega)]
  by_cases c : 2 * (ln : Int) < 8
  · rw [decide_eq_true c, cond_true]
    by_cases d : mx < 8
    · rw [decide_eq_true d, cond_true]; omega
    · rw [decide_eq_false d, cond_false]; omega
  · rw [decide_eq_false c, cond_false]
    by_cases d : mx < 2 * (ln : Int)
    · rw [decide_eq_true d, cond_true]; omega
    · rw [decide_eq_false d, cond_false]; omega
/-- Push, on the ring's own fields. -/
def elemW (w : Nat) (L : List Value) (j : Nat) : List Value := (List.range w).map fun k => L.getD (j * w + k) undef
noncomputable def pushF (w : Nat) (z : List Value) (mx first n : Int) (ln : Nat) (L x : List Value) : Bool × Int × Int × Nat × List Value :=
  bif decide (mx ≤ n) then (false, first, n, ln, L)
  else bif decide (n = ln) then (true, 0, n + 1, growN mx ln, ((List.range n.toNat).map fun i => elemW w L ((first.toNat + i) % ln)).flatten ++ (x ++ (List.replicate (growN mx ln - n.toNat - 1) z).flatten))
  else (true, first, n + 1, ln, setN L (((first.toNat + n.toNat) % ln) * w) x)
theorem Rep.elem {w : Nat} {P : List Value → Prop} {z : List Value} (hE : El w P z) {first n : Int} {ln : Nat} {L : List Value} {q : List (List Value)} (h : Rep P first n ln L q) {i : Nat} {x : List Value} (hi : q[i]? = some x) : elemW w L ((first.toNat + i) % ln) = x := by
  have hx := hE.len x (h.mem hE x (List.mem_of_getElem? hi))
  unfold elemW
  apply List.ext_getElem
  · simp [hx]
  · intro k h1 h2
    simp at h1
    rw [List.getElem_map, List.getElem_range, h.get hE hi (by omega), List.getD_eq_getElem?_getD, List.getElem?_eq_getElem h2]
    rfl
theorem Rep.elems {w : Nat} {P : List Value → Prop} {z : List Value} (hE : El w P z) {first n : Int} {ln : Nat} {L : List Value} {q : List (List Value)} (h : Rep P first n ln L q) : ((List.range n.toNat).map fun i => elemW w L ((first.toNat + i) % ln)) = q := by
  have hn : n = q.length := by obtain ⟨_, _, _, _, _, _, h6, _⟩ := h; exact h6
  apply List.ext_getElem
  · simp [hn]
  · intro i h1 h2
    rw [List.getElem_map, List.getElem_range]
    exact h.elem hE (List.getElem?_eq_getElem h2)
theorem pushF_full {w : Nat} {z : List Value} {mx first n : Int} {ln : Nat} {L x : List Value} (h : mx ≤ n) : pushF w z mx first n ln L x = (false, first, n, ln, L) := by
  unfold pushF; rw [decide_eq_true h, cond_true]
theorem pushF_ok {w : Nat} {P : List Value → Prop} {z : List Value} (hE : El w P z) {mx first n : Int} {ln : Nat} {L : List Value} {q : List (List Value)} (h : Rep P first n ln L q) {x : List Value} (hx : P x) (hn : n < mx) (hl : (ln : Int) ≤ mx) (hm : mx ≤ 65536) :
    (pushF w z mx first n ln L x).1 = true ∧ ((pushF w z mx first n ln L x).2.2.2.1 : Int) ≤ mx ∧ Rep P (pushF w z mx first n ln L x).2.1 (pushF w z mx first n ln L x).2.2.1 (pushF w z mx first n ln L x).2.2.2.1 (pushF w z mx first n ln L x).2.2.2.2 (q ++ [x]) := by
  have h0 := h
  obtain ⟨es, h1, h2, h3, h4, h5, h6, h7, h8⟩ := h0
  unfold pushF
  rw [decide_eq_false (by omega : ¬ mx ≤ n), cond_false]
  by_cases c : n = (ln : Int)
  · rw [decide_eq_true c, cond_true, h.elems hE]
    have hg := growN_val hl hm
    refine ⟨rfl, by show (growN mx ln : Int) ≤ mx; omega, ?_⟩
    have hb : q.length + 1 ≤ growN mx ln := by omega
    have := rep_new hE (q := q ++ [x]) (fun y hy => by
      rcases List.mem_append.1 hy with h' | h'
      · exact h.mem hE y h'
      · simp at h'; rw [h']; exact hx) (m := growN mx ln - n.toNat - 1) (by rw [List.length_append]; show 0 < q.length + 1 + _; omega)
    simp only [List.length_append, List.length_cons, List.length_nil, Nat.zero_add] at this
    rw [show q.length + 1 + (growN mx ln - n.toNat - 1) = growN mx ln by omega, show ((q.length + 1 : Nat) : Int) = n + 1 by omega] at this
    simp only [List.flatten_append, List.flatten_cons, List.flatten_nil, List.append_nil, List.append_assoc] at this
    exact this
  · rw [decide_eq_false c, cond_false]
    refine ⟨rfl, hl, ?_⟩
    have := h.push hE hx (by omega)
    rw [show q.length = n.toNat by omega] at this
    exact this
end Go.Proofs.Ytabloimmlmgcbaa
