/-
  The abstract machine: regions whose order is drawn: rows of records, what a set of carried out operations makes of them; what stands ahead of what.
-/
import Derived.Test.YtabloimmlmgcbaaAmDraw3
namespace Go.Am

def tmD (D : Nat → Bool) : List DRec → Nat → Tm → Tm
  | [], _, tm => tm
  | d :: r, k, tm => tmD D r (k + 1) (if D k then put tm d.o.dst d.rc.v else tm)

def heapD (D : Nat → Bool) : List DRec → Nat → Heap → Heap
  | [], _, H => H
  | d :: r, k, H => heapD D r (k + 1) (if D k then d.rc.heap H else H)

def lk (D : Nat → Bool) (t : Tmp) : List DRec → Nat → Option Value → Option Value
  | [], _, b => b
  | d :: r, k, b => lk D t r (k + 1) (if D k ∧ d.o.dst = some t then some d.rc.v else b)

theorem getT_tmD {D : Nat → Bool} {t : Tmp} : ∀ {l : List DRec} {k : Nat} {tm : Tm}, getT (tmD D l k tm) t = lk D t l k (getT tm t)
  | [], _, _ => rfl
  | d :: r, k, tm => by
    simp only [tmD, lk, getT_tmD (l := r)]
    congr 1
    cases hD : D k
    · simp
    · cases hd : d.o.dst with
      | none => simp [put]
      | some q =>
        simp only [put, if_true, getT_setT, Option.some.injEq, true_and]

theorem lk_congr {D D' : Nat → Bool} {t : Tmp} : ∀ {l : List DRec} {k : Nat} {b : Option Value}, (∀ i d, l[i]? = some d → d.o.dst = some t → D (k + i) = D' (k + i)) → lk D t l k b = lk D' t l k b
  | [], _, _, _ => rfl
  | d :: r, k, b, h => by
    simp only [lk]
    have h0 : (D k = true ∧ d.o.dst = some t) ↔ (D' k = true ∧ d.o.dst = some t) := by
      constructor <;> intro ⟨h1, h2⟩
      · exact ⟨by have := h 0 d rfl h2; simp only [Nat.add_zero] at this; rw [← this]; exact h1, h2⟩
      · exact ⟨by have := h 0 d rfl h2; simp only [Nat.add_zero] at this; rw [this]; exact h1, h2⟩
    simp only [h0]
    exact lk_congr fun i d hi hd => by have := h (i + 1) d (by simpa using hi) hd; simpa [Nat.add_assoc, Nat.add_comm 1 i] using this

theorem lk_none {D : Nat → Bool} {t : Tmp} : ∀ {l : List DRec} {k : Nat} {b : Option Value}, (∀ i d, l[i]? = some d → d.o.dst = some t → D (k + i) = false) → lk D t l k b = b
  | [], _, _, _ => rfl
  | d :: r, k, b, h => by
    simp only [lk]
    have h0 : ¬ (D k = true ∧ d.o.dst = some t) := fun ⟨h1, h2⟩ => by have := h 0 d rfl h2; simp [h1] at this
    rw [if_neg h0]
    exact lk_none fun i d hi hd => by have := h (i + 1) d (by simpa using hi) hd; simpa [Nat.add_assoc, Nat.add_comm 1 i] using this

theorem lk_last {D : Nat → Bool} {t : Tmp} : ∀ {l : List DRec} {k j : Nat} {d : DRec} {b : Option Value}, l[j]? = some d → d.o.dst = some t → D (k + j) = true → (∀ i e, l[i]? = some e → e.o.dst = some t → j < i → D (k + i) = false) →
    lk D t l k b = some d.rc.v
  | [], _, _, _, _, h, _, _, _ => by simp at h
  | a :: r, k, 0, d, b, h, hd, hD, hl => by
    simp only [List.getElem?_cons_zero, Option.some.injEq] at h
    subst h
    simp only [lk, hd, and_true]
    simp only [Nat.add_zero] at hD
    simp only [hD, if_true]
    exact lk_none fun i e hi he => by have := hl (i + 1) e (by simpa using hi) he (by omega); simpa [Nat.add_assoc, Nat.add_comm 1 i] using this
  | a :: r, k, j + 1, d, b, h, hd, hD, hl => by
    simp only [lk]
    exact lk_last (j := j) (by simpa using h) hd (by simpa [Nat.add_assoc, Nat.add_comm 1 j] using hD) fun i e hi he hji => by
      have := hl (i + 1) e (by simpa using hi) he (by omega); simpa [Nat.add_assoc, Nat.add_comm 1 i] using this

theorem heapD_congr {D D' : Nat → Bool} : ∀ {l : List DRec} {k : Nat} {H : Heap}, (∀ i d, l[i]? = some d → d.rc.isTurn = true → D (k + i) = D' (k + i)) → heapD D l k H = heapD D' l k H
  | [], _, _, _ => rfl
  | d :: r, k, H, h => by
    simp only [heapD]
    have h0 : (if D k = true then d.rc.heap H else H) = (if D' k = true then d.rc.heap H else H) := by
      cases hd : d.rc with
      | keep v => simp [Rc.heap]
      | turn v H' => have := h 0 d rfl (by rw [hd]; rfl); simp only [Nat.add_zero] at this; rw [this]
    rw [h0]
    exact heapD_congr fun i d hi hd => by have := h (i + 1) d (by simpa using hi) hd; simpa [Nat.add_assoc, Nat.add_comm 1 i] using this

theorem heapD_none {D : Nat → Bool} : ∀ {l : List DRec} {k : Nat} {H : Heap}, (∀ i d, l[i]? = some d → d.rc.isTurn = true → D (k + i) = false) → heapD D l k H = H
  | [], _, _, _ => rfl
  | d :: r, k, H, h => by
    simp only [heapD]
    have h0 : (if D k = true then d.rc.heap H else H) = H := by
      cases hd : d.rc with
      | keep v => simp [Rc.heap]
      | turn v H' => have := h 0 d rfl (by rw [hd]; rfl); simp only [Nat.add_zero] at this; simp [this]
    rw [h0]
    exact heapD_none fun i d hi hd => by have := h (i + 1) d (by simpa using hi) hd; simpa [Nat.add_assoc, Nat.add_comm 1 i] using this

theorem heapD_last {D : Nat → Bool} {v : Value} {H' : Heap} : ∀ {l : List DRec} {k j : Nat} {d : DRec} {H : Heap}, l[j]? = some d → d.rc = .turn v H' → D (k + j) = true → (∀ i e, l[i]? = some e → e.rc.isTurn = true → j < i → D (k + i) = false) →
    heapD D l k H = H'
  | [], _, _, _, _, h, _, _, _ => by simp at h
  | a :: r, k, 0, d, H, h, hd, hD, hl => by
    simp only [List.getElem?_cons_zero, Option.some.injEq] at h
    subst h
    simp only [Nat.add_zero] at hD
    simp only [heapD, hd, hD, if_true, Rc.heap]
    exact heapD_none fun i e hi he => by have := hl (i + 1) e (by simpa using hi) he (by omega); simpa [Nat.add_assoc, Nat.add_comm 1 i] using this
  | a :: r, k, j + 1, d, H, h, hd, hD, hl => by
    simp only [heapD]
    exact heapD_last (j := j) (by simpa using h) hd (by simpa [Nat.add_assoc, Nat.add_comm 1 j] using hD) fun i e hi he hji => by
      have := hl (i + 1) e (by simpa using hi) he (by omega); simpa [Nat.add_assoc, Nat.add_comm 1 i] using this

/-! ### the facts of a row -/

section
variable {E : Env} {R : Caller} {ops : Array Oper} {nt : Nat}

def Facts (E : Env) (R : Caller) (ops : Array Oper) (nt : Nat) : List DRec → Heap → Tm → Prop
  | [], _, _ => True
  | d :: r, H, tm => (d.H = H ∧ d.tm = tm ∧ (∃ ok orc', dop E R ops d.o d.g d.p d.orc H tm = some (ok, orc', d.rc) ∧ AllT ok) ∧ dstOk nt d.o = true) ∧ Facts E R ops nt r (d.rc.heap H) (put tm d.o.dst d.rc.v)

theorem dpass_facts : ∀ {l : List Oper} {dk : DK} {orc orc' : Option (List Bool)} {H H' : Heap} {tm tm' : Tm} {ok : List Bool} {recs : List DRec}, dpass E R ops nt l dk orc H tm = some (ok, orc', recs, H', tm') → AllT ok →
    ∀ k, Facts E R ops nt recs H tm ∧ recs.map (·.o) = l ∧ H' = heapD (fun _ => true) recs k H ∧ tm' = tmD (fun _ => true) recs k tm
  | [], dk, orc, orc', H, H', tm, tm', ok, recs, h, _, k => by cases h; exact ⟨trivial, rfl, rfl, rfl⟩
  | o :: r, dk, orc, orc', H, H', tm, tm', ok, recs, h, hok, k => by
    simp only [dpass] at h
    split at h
    · rename_i g orc1 dk1 hg
      split at h
      · rename_i p orc2 dk2 hp
        split at h
        · rename_i ok1 orc3 rc hd
          split at h
          · rename_i hdst
            split at h
            · rename_i ok2 orc4 recs2 H2 tm2 hr
              cases h
              obtain ⟨k1, k2⟩ := AllT.app.1 hok
              obtain ⟨f1, f2, f3, f4⟩ := dpass_facts hr k1 (k + 1)
              refine ⟨⟨⟨rfl, rfl, ⟨ok1, orc3, hd, k2⟩, hdst⟩, f1⟩, by simp [f2], ?_, ?_⟩
              · simpa [heapD] using f3
              · simpa [tmD] using f4
            · cases h
          · cases h
        · cases h
      · cases h
    · cases h

theorem facts_get : ∀ {l : List DRec} {H : Heap} {tm : Tm} {k j : Nat} {d : DRec}, Facts E R ops nt l H tm → l[j]? = some d →
    d.H = heapD (fun i => decide (i < k + j)) l k H ∧ d.tm = tmD (fun i => decide (i < k + j)) l k tm ∧ (∃ ok orc', dop E R ops d.o d.g d.p d.orc d.H d.tm = some (ok, orc', d.rc) ∧ AllT ok) ∧ dstOk nt d.o = true
  | [], _, _, _, _, _, _, h => by simp at h
  | a :: r, H, tm, k, 0, d, hf, h => by
    simp only [List.getElem?_cons_zero, Option.some.injEq] at h
    subst h
    obtain ⟨⟨h1, h2, h3, h4⟩, _⟩ := hf
    refine ⟨?_, ?_, by rw [h1, h2]; exact h3, h4⟩
    · rw [h1, heapD_none fun i d _ _ => by simp]
    · rw [h2]
      have : ∀ (l : List DRec) (q : Nat), k ≤ q → tmD (fun i => decide (i < k + 0)) l q tm = tm := by
        intro l
        induction l with
        | nil => intro q _; rfl
        | cons b l ih =>
          intro q hq
          have : decide (q < k + 0) = false := by simp; omega
          simp only [tmD, this]
          exact ih (q + 1) (by omega)
      exact (this _ k (Nat.le_refl _)).symm
  | a :: r, H, tm, k, j + 1, d, hf, h => by
    obtain ⟨⟨h1, h2, h3, h4⟩, hr⟩ := hf
    have := facts_get (k := k + 1) (j := j) hr (by simpa using h)
    have hk : ∀ i, decide (i < k + 1 + j) = decide (i < k + (j + 1)) := fun i => by congr 1; simp; omega
    have h0 : decide (k < k + (j + 1)) = true := by simp
    simp only [hk] at this
    simp only [heapD, tmD, h0, if_true]
    exact this

end

/-! ### what stands ahead -/

inductive Bef (ops : Array Oper) : Nat → Nat → Prop
  | edge {j i : Nat} (o : Oper) (e : Edge) (ho : ops[j]? = some o) (he : e ∈ o.after.toList) (hb : Region.binds .any e = true) (h : e.on = i) : Bef ops j i
  | trans {j i : Nat} (o : Oper) (e : Edge) (ho : ops[j]? = some o) (he : e ∈ o.after.toList) (hb : Region.binds .any e = true) (h : Bef ops e.on i) : Bef ops j i

def Closed (ops : Array Oper) (D : Nat → Bool) : Prop := ∀ j o e, D j = true → ops[j]? = some o → e ∈ o.after.toList → Region.binds .any e = true → D e.on = true
def Ready (ops : Array Oper) (D : Nat → Bool) (j : Nat) : Prop := ∀ o e, ops[j]? = some o → e ∈ o.after.toList → Region.binds .any e = true → D e.on = true

theorem Bef.has {ops : Array Oper} {D : Nat → Bool} (hC : Closed ops D) {j i : Nat} (h : Bef ops j i) : Ready ops D j → D i = true := by
  induction h with
  | edge o e ho he hb h => intro hr; rw [← h]; exact hr o e ho he hb
  | trans o e ho he hb h ih => intro hr; exact ih fun o' e' ho' he' hb' => hC _ o' e' (hr o e ho he hb) ho' he' hb'

theorem mstep_bit {acc : List Nat} {i : Nat} : ∀ {l : List Edge} {s : Nat}, (mstep acc l s).testBit i = true → s.testBit i = true ∨ ∃ e ∈ l, Region.binds .any e = true ∧ (e.on = i ∨ (acc.getD e.on 0).testBit i = true)
  | [], s, h => .inl h
  | e :: r, s, h => by
    simp only [mstep] at h
    rcases mstep_bit h with h | ⟨e', he', h⟩
    · split at h
      · rename_i hb
        rw [Nat.testBit_or, Nat.testBit_or, Bool.or_eq_true, Bool.or_eq_true] at h
        rcases h with h | h | h
        · exact .inl h
        · rw [Nat.testBit_two_pow] at h
          exact .inr ⟨e, by simp, hb, .inl (by simpa using h)⟩
        · exact .inr ⟨e, by simp, hb, .inr h⟩
      · exact .inl h
    · exact .inr ⟨e', by simp [he'], h⟩

theorem masksL_bef {ops : Array Oper} : ∀ {l : List Oper} {acc : List Nat}, (∀ i o, l[i]? = some o → ops[acc.length + i]? = some o) → (∀ j i, (acc.getD j 0).testBit i = true → Bef ops j i) → ∀ j i, ((masksL l acc).getD j 0).testBit i = true → Bef ops j i
  | [], acc, _, ha, j, i, h => ha j i h
  | o :: r, acc, hl, ha, j, i, h => by
    simp only [masksL] at h
    refine masksL_bef (l := r) (acc := acc ++ [mstep acc o.after.toList 0]) ?_ ?_ j i h
    · intro q o' hq
      have := hl (q + 1) o' (by simpa using hq)
      simpa [Nat.add_assoc, Nat.add_comm 1 q] using this
    · intro j i h
      rcases Nat.lt_trichotomy j acc.length with hj | hj | hj
      · rw [List.getD_eq_getElem?_getD, List.getElem?_append_left hj, ← List.getD_eq_getElem?_getD] at h
        exact ha j i h
      · subst hj
        simp only [List.getD_eq_getElem?_getD, List.getElem?_concat_length, Option.getD_some] at h
        have ho := hl 0 o rfl
        simp only [Nat.add_zero] at ho
        rcases mstep_bit h with h | ⟨e, he, hb, h | h⟩
        · simp at h
        · exact .edge o e ho he hb h
        · exact .trans o e ho he hb (ha _ _ h)
      · rw [List.getD_eq_getElem?_getD, List.getElem?_eq_none (by simp; omega)] at h
        simp at h

theorem masks_bef {ops : Array Oper} {j i : Nat} (h : ((masksL ops.toList []).getD j 0).testBit i = true) : Bef ops j i :=
  masksL_bef (l := ops.toList) (acc := []) (fun i o h => by simpa using h) (fun j i h => by simp at h) j i h

end Go.Am
