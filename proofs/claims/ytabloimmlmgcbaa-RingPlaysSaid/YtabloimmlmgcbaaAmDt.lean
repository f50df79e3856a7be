/-
  The abstract machine: pieces of a way put together: choices, heads of loops written as a run's configuration with some places overwritten, ways that end, contracts of functions in a row.
-/
import Derived.Test.YtabloimmlmgcbaaAmPrune
set_option linter.unusedVariables false
set_option linter.unusedSimpArgs false
namespace Go.Am

noncomputable def pdec (p : Prop) : Bool := @decide p (Classical.propDecidable _)
theorem pdec_iff {p : Prop} : pdec p = true ↔ p := by simp [pdec]
theorem cond_intro {α : Type} {P : α → Prop} {x y : α} (b : Bool) (h1 : b = true → P x) (h0 : b = false → P y) : P (bif b then x else y) := by
  cases b
  · exact h0 rfl
  · exact h1 rfl
theorem dT {b : Bool} (h : b = true) : (b == true) = true := by rw [h]; rfl
theorem dF {b : Bool} (h : b = false) : (b == false) = true := by rw [h]; rfl
theorem allC {b : Bool} {l : List Bool} (h : b = true) (t : AllT l) : AllT (b :: l) := AllT.cons.2 ⟨h, t⟩
theorem allHd {b : Bool} {l : List Bool} (h : AllT (b :: l)) : b = true := (AllT.cons.1 h).1
theorem allTl {b : Bool} {l : List Bool} (h : AllT (b :: l)) : AllT l := (AllT.cons.1 h).2

/-! ### places overwritten -/
def wTmp (i : Nat) (v : Value) (C : Cfg) : Cfg := { C with fr := { C.fr with tm := setT C.fr.tm i v } }
def wFTmp (j i : Nat) (v : Value) (C : Cfg) : Cfg := { C with cs := C.cs.modify j fun f => { f with tm := setT f.tm i v } }
def wCell (b o : Nat) (v : Value) (C : Cfg) : Cfg :=
  match getO C.H b with
  | some (.cells cs e g) => { C with H := C.H.set b (some (.cells (cs.set o v) e g)) }
  | _ => C
def wCells (b : Nat) (l : List Value) (C : Cfg) : Cfg :=
  match getO C.H b with
  | some (.cells _ e g) => { C with H := C.H.set b (some (.cells l e g)) }
  | some (.log _ e z) => { C with H := C.H.set b (some (.log l e z)) }
  | some (.fro _ e z) => { C with H := C.H.set b (some (.fro l e z)) }
  | _ => C
def wObj (b : Nat) (J : Heap) (C : Cfg) : Cfg :=
  match getO C.H b with
  | some (.obj _) => { C with H := C.H.set b (some (.obj J)) }
  | _ => C

/-- A configuration with other temporaries and another memory. -/
def reCfg (S : Cfg) (tm : Tm) (H : Heap) : Cfg := { fr := { S.fr with tm := tm }, cs := S.cs, H := H }

/-! ### rows of their own for slices that are none -/
structure Fix where
  t : Bool
  b : Nat
  o : Nat
  e : Nat
  z : Nat
/-- z = 1000: the row that the cell o of block b holds is split (logSplit); z = 2000: the block b is a row as others again. -/
def fix1 (f : Fix) (C : Cfg) : Option (List Bool × Cfg) :=
  bif Nat.beq f.z 1000 then logSplit f.b f.o C else bif Nat.beq f.z 2000 then unLog f.b C else
  match (match f.t with | true => nilT f.b f.e f.z C | false => nilC f.b f.o f.e f.z C) with
  | some C' => some ([], C')
  | none => none
def fixes : List Fix → Cfg → Option (List Bool × Cfg)
  | [], C => some ([], C)
  | f :: r, C => match fix1 f C with
    | some (ok1, C1) => match fixes r C1 with
      | some (ok2, C2) => some (ok1 ++ ok2, C2)
      | none => none
    | none => none
theorem nilC_length {b o : Nat} {e : TypeId} {z : Nat} {C C' : Cfg} (h : nilC b o e z C = some C') : C.H.length ≤ C'.H.length := by
  unfold nilC at h
  split at h
  · split at h
    · cases h; simp [slot]
    · cases h
  · cases h
theorem nilT_length {t : Nat} {e : TypeId} {z : Nat} {C C' : Cfg} (h : nilT t e z C = some C') : C.H.length ≤ C'.H.length := by
  unfold nilT at h
  split at h
  · cases h; simp [slot]
  · cases h
theorem fix1_ok {E : Env} {f : Fix} {C C' : Cfg} {ok : List Bool} {B : Nat} (h : fix1 f C = some (ok, C')) (hok : AllT ok) (hB : B ≤ C.H.length) : Gets E B C C' ∧ C.H.length ≤ C'.H.length := by
  unfold fix1 at h
  cases h1 : Nat.beq f.z 1000 with
  | true =>
    rw [h1, cond_true] at h
    refine ⟨reach_logSplit h hok hB, ?_⟩
    unfold logSplit at h
    split at h
    · split at h
      · split at h
        · split at h
          · cases h; simp [slot]
          · cases h
        · cases h
      · cases h
    · cases h
  | false =>
    rw [h1, cond_false] at h
    cases h2 : Nat.beq f.z 2000 with
    | true =>
      rw [h2, cond_true] at h
      refine ⟨reach_unLog h, ?_⟩
      unfold unLog at h
      split at h
      · cases h; simp
      · cases h
    | false =>
      rw [h2, cond_false] at h
      split at h
      · rename_i C1 h3
        cases h
        split at h3
        · exact ⟨reach_nilT h3 hB, nilT_length h3⟩
        · exact ⟨reach_nilC h3 hB, nilC_length h3⟩
      · cases h
theorem reach_fixes {E : Env} {B : Nat} : ∀ {l : List Fix} {C C' : Cfg} {ok : List Bool}, fixes l C = some (ok, C') → AllT ok → B ≤ C.H.length → Gets E B C C'
  | [], C, C', ok, h, _, _ => by cases h; exact Gets.refl _
  | f :: r, C, C', ok, h, hok, hB => by
    unfold fixes at h
    split at h
    · rename_i ok1 C1 h1
      split at h
      · rename_i ok2 C2 h2
        cases h
        obtain ⟨k1, k2⟩ := AllT.app.1 hok
        obtain ⟨w1, w2⟩ := fix1_ok (E := E) (B := B) h1 k1 hB
        exact w1.trans (reach_fixes h2 k2 (Nat.le_trans hB w2))
      · cases h
    · cases h

/-- n steps, what is not named is forgotten; rows for what is none, forgotten again. -/
def goNil (E : Env) (K : Ctr) (N n : Nat) (ds : Option (List Bool)) (ls : List (List Nat)) (lp : List (Nat × List Nat)) (keep live : List Nat) (fx : List Fix) (keep2 live2 : List Nat) (C : Cfg) : Option (List Bool × Cfg) :=
  match goPr E K N n ds ls lp keep live C with
  | some (ok, C1) => match fx with
    | [] => some (ok, C1)
    | _ :: _ => match fixes fx C1 with
      | some (okf, C2) => match gc E keep2 live2 C2 with
        | some (ok2, C3) => some (ok2 ++ (okf ++ ok), C3)
        | none => none
      | none => none
  | none => none
theorem gc_length {E : Env} {l live : List Nat} {C C' : Cfg} {ok : List Bool} (h : gc E l live C = some (ok, C')) (hok : AllT ok) : C'.H.length = l.length := by
  unfold gc at h
  split at h
  · rename_i fr cs ok1 H hn hfr hcs hH
    cases h
    exact renHi_len hH hok
  · cases h
theorem reach_gn {E : Env} {K : Ctr} (hK : KOk E K) {N n : Nat} {ds : Option (List Bool)} {ls : List (List Nat)} {lp : List (Nat × List Nat)} {keep live keep2 live2 : List Nat} {fx : List Fix} {C C' : Cfg} {ok : List Bool} {B : Nat} (h : goNil E K N n ds ls lp keep live fx keep2 live2 C = some (ok, C')) (hok : AllT ok) (hB : B ≤ C.H.length)
    (hk : ∀ i, i < B → keep.getD i 0 = i) (hk2 : ∀ i, i < B → keep2.getD i 0 = i) (hl : B ≤ keep.length) : Gets E B C C' := by
  unfold goNil at h
  split at h
  · rename_i ok1 C1 h1
    split at h
    · cases h
      exact reach_gp hK h1 hok hB hk
    · split at h
      · rename_i okf C2 h2
        split at h
        · rename_i ok2 C3 h3
          cases h
          obtain ⟨k3, k1⟩ := AllT.app.1 hok
          obtain ⟨kf, k1⟩ := AllT.app.1 k1
          refine ((reach_gp hK h1 k1 hB hk).trans ((reach_fixes h2 kf ?_).trans (reach_gc h3 k3 hk2)))
          unfold goPr at h1
          split at h1
          · split at h1
            · rename_i ok4 C4 h4
              cases h1
              rw [gc_length h4 (AllT.app.1 k1).1]
              exact hl
            · cases h1
          · cases h1
        · cases h
      · cases h
  · cases h

/-! ### what must hold, as one Bool: what is closed falls away -/
def okB : List Bool → Bool
  | [] => true
  | b :: r => and b (okB r)
theorem okB_all : ∀ {l : List Bool}, okB l = true → AllT l
  | [], _ => AllT.nil
  | b :: r, h => by
    have h : (b && okB r) = true := h
    simp only [Bool.and_eq_true] at h
    exact AllT.cons.2 ⟨h.1, okB_all h.2⟩
theorem andI {a b : Bool} (h : a = true) (g : b = true) : and a b = true := by subst h; exact g
def goNilB (E : Env) (K : Ctr) (N n : Nat) (ds : Option (List Bool)) (ls : List (List Nat)) (lp : List (Nat × List Nat)) (keep live : List Nat) (fx : List Fix) (keep2 live2 : List Nat) (C : Cfg) : Option (Bool × Cfg) :=
  match goNil E K N n ds ls lp keep live fx keep2 live2 C with
  | some (ok, C') => some (okB ok, C')
  | none => none
theorem reach_gb {E : Env} {K : Ctr} (hK : KOk E K) {N n : Nat} {ds : Option (List Bool)} {ls : List (List Nat)} {lp : List (Nat × List Nat)} {keep live keep2 live2 : List Nat} {fx : List Fix} {C C' : Cfg} {ok : Bool} {B : Nat} (h : goNilB E K N n ds ls lp keep live fx keep2 live2 C = some (ok, C')) (hok : ok = true) (hB : B ≤ C.H.length)
    (hk : ∀ i, i < B → keep.getD i 0 = i) (hk2 : ∀ i, i < B → keep2.getD i 0 = i) (hl : B ≤ keep.length) : Gets E B C C' := by
  unfold goNilB at h
  split at h
  · rename_i ok1 C1 h1
    cases h
    exact reach_gn hK h1 (okB_all hok) hB hk hk2 hl
  · cases h
def goFinB (E : Env) (K : Ctr) (N n : Nat) (ds : Option (List Bool)) (keep live keepE : List Nat) (C : Cfg) : Option (Bool × Value × Heap) :=
  match goFin E K N n ds keep live keepE C with
  | some (ok, v, H) => some (okB ok, v, H)
  | none => none
theorem ends_ofB {E : Env} {K : Ctr} (hK : KOk E K) {g : FuncId} {H' : Heap} {C : Cfg} {N n : Nat} {ds : Option (List Bool)} {keep live keepE : List Nat} {ok : Bool} {v : Value} {B : Nat} (h : goFinB E K N n ds keep live keepE C = some (ok, v, H')) (hok : ok = true)
    (hfn : fnAt (goGc E K N n ds keep live C) = some g) (hB : B ≤ C.H.length) (hk : ∀ i, i < B → keep.getD i 0 = i) (hkE : ∀ i, i < B → keepE.getD i 0 = i) : AEnds E g B C v H' := by
  unfold goFinB at h
  split at h
  · rename_i ok1 v1 H1 h1
    cases h
    exact ends_of hK h1 (okB_all hok) hfn hB hk hkE
  · cases h

/-! ### contracts in a row -/
abbrev Ct := List Value → Heap → Option (List Bool × Value × Heap)
def KFor (E : Env) (g : Nat) (k : Ct) : Prop := ∀ args H ok v H', k args H = some (ok, v, H') → AllT ok → CallOk E g args H v H'
/-- g : where the contract counts (a look at the arguments), the contract. -/
def ctrOf (E : Env) : List (Nat × (List Value → Bool) × Ct) → Ctr
  | [] => fun _ _ _ => none
  | (n, p, k) :: r => fun g args H => bif Nat.beq g n && p args then liftR (inPart E (pickAll E) k args H) else ctrOf E r g args H
theorem ctr_nil {E : Env} : KOk E (ctrOf E []) := fun _ _ _ _ _ _ _ _ _ _ h => by cases h
theorem ctr_cons {E : Env} {n : Nat} {p : List Value → Bool} {k : Ct} {r : List (Nat × (List Value → Bool) × Ct)} (hk : KFor E n k) (hr : KOk E (ctrOf E r)) : KOk E (ctrOf E ((n, p, k) :: r)) := by
  intro g args H f orc lg ok orc' v H' h hf hok
  unfold ctrOf at h
  cases hb : (Nat.beq g n && p args) with
  | false => rw [hb] at h; exact hr _ _ _ _ _ _ _ _ _ _ h hf hok
  | true =>
    rw [hb] at h
    simp only [Bool.and_eq_true] at hb
    obtain rfl := Nat.eq_of_beq_eq_true hb.1
    simp only [cond_true] at h
    exact inPart_ok hk (liftR_some h hf) hok
/-! contracts that ask -/
abbrev CtD := List Value → Heap → KRes
def KForD (E : Env) (g : Nat) (k : CtD) : Prop := ∀ args H orc lg ok orc' v H', k args H orc = some (lg, ok, orc', v, H') → AllT ok → CallOk E g args H v H'
def kFin (k : Ct) : CtD := fun args H orc => match k args H with
  | some (ok, v, H') => some ([], ok, orc, v, H')
  | none => none
theorem kFin_ok {E : Env} {g : Nat} {k : Ct} (h : KFor E g k) : KForD E g (kFin k) := by
  intro args H orc lg ok orc' v H' hk hok
  unfold kFin at hk
  split at hk
  · rename_i ok1 v1 H1 h1
    cases hk
    exact h _ _ _ _ _ h1 hok
  · cases hk
/-- b is asked for: by the answer the one contract or the other. -/
def kAsk (b : List Value → Heap → Bool) (k1 k2 : CtD) : CtD := fun args H orc => match decide1 orc (b args H) with
  | some (true, okb, orc1) => match k1 args H orc1 with
    | some (lg, ok, orc2, v, H') => some (b args H :: lg, okb ++ ok, orc2, v, H')
    | none => none
  | some (false, okb, orc1) => match k2 args H orc1 with
    | some (lg, ok, orc2, v, H') => some (b args H :: lg, okb ++ ok, orc2, v, H')
    | none => none
  | none => none
theorem kAsk_ok {E : Env} {g : Nat} {b : List Value → Heap → Bool} {k1 k2 : CtD} (h1 : KForD E g k1) (h2 : KForD E g k2) : KForD E g (kAsk b k1 k2) := by
  intro args H orc lg ok orc' v H' hk hok
  unfold kAsk at hk
  split at hk
  · split at hk
    · rename_i hk1
      cases hk
      exact h1 _ _ _ _ _ _ _ _ hk1 (AllT.app.1 hok).2
    · cases hk
  · split at hk
    · rename_i hk1
      cases hk
      exact h2 _ _ _ _ _ _ _ _ hk1 (AllT.app.1 hok).2
    · cases hk
  · cases hk
def kOrD (p : List Value → Heap → Bool) (k1 k2 : CtD) : CtD := fun args H orc => match p args H with
  | true => k1 args H orc
  | false => k2 args H orc
theorem kOrD_ok {E : Env} {g : Nat} {p : List Value → Heap → Bool} {k1 k2 : CtD} (h1 : KForD E g k1) (h2 : KForD E g k2) : KForD E g (kOrD p k1 k2) := by
  intro args H orc lg ok orc' v H' h hok
  unfold kOrD at h
  split at h
  · exact h1 _ _ _ _ _ _ _ _ h hok
  · exact h2 _ _ _ _ _ _ _ _ h hok
/-- Contracts that ask, ahead of others. -/
def ctrD (E : Env) : List (Nat × (List Value → Bool) × CtD) → Ctr → Ctr
  | [], K => K
  | (n, p, k) :: r, K => fun g args H => bif Nat.beq g n && p args then inPartD E (pickAll E) k args H else ctrD E r K g args H
theorem ctrD_nil {E : Env} {K : Ctr} (h : KOk E K) : KOk E (ctrD E [] K) := h
theorem ctrD_cons {E : Env} {n : Nat} {p : List Value → Bool} {k : CtD} {r : List (Nat × (List Value → Bool) × CtD)} {K : Ctr} (hk : KForD E n k) (hr : KOk E (ctrD E r K)) : KOk E (ctrD E ((n, p, k) :: r) K) := by
  intro g args H f orc lg ok orc' v H' h hf hok
  unfold ctrD at h
  cases hb : (Nat.beq g n && p args) with
  | false => rw [hb] at h; exact hr _ _ _ _ _ _ _ _ _ _ h hf hok
  | true =>
    rw [hb] at h
    simp only [Bool.and_eq_true] at hb
    obtain rfl := Nat.eq_of_beq_eq_true hb.1
    simp only [cond_true] at h
    exact inPartD_ok hk h hf hok
def anyA (_ : List Value) : Bool := true
def ptrA (l : List Value) : Bool :=
  match l with
  | .pointer (some _) :: _ => true
  | _ => false
def nilA (l : List Value) : Bool :=
  match l with
  | .pointer none :: _ => true
  | _ => false

noncomputable def eqA (a b : List Value) : Bool := eqb a b
noncomputable def eqH (a b : Heap) : Bool := eqb a b
theorem eqA_self (a : List Value) : eqA a a = true := eqb_self a
theorem eqH_self (a : Heap) : eqH a a = true := eqb_self a
/-- What is read out of arguments and memory (ex) tells what these must be (sA, sH), what must hold (pre), and what is handed back (r, rH). -/
noncomputable def kP {α : Type} (ex : List Value → Heap → α) (sA : α → List Value) (sH : α → Heap) (pre : α → Prop) (r : α → Value) (rH : α → Heap) : Ct := fun args H =>
  some ([eqA args (sA (ex args H)), eqH H (sH (ex args H)), pdec (pre (ex args H))], r (ex args H), rH (ex args H))
theorem kP_ok {E : Env} {g : FuncId} {α : Type} {ex : List Value → Heap → α} {sA : α → List Value} {sH : α → Heap} {pre : α → Prop} {r : α → Value} {rH : α → Heap} (h : ∀ x, pre x → CallOk E g (sA x) (sH x) (r x) (rH x)) : KFor E g (kP ex sA sH pre r rH) := by
  intro args H ok v H' hk hok
  unfold kP at hk
  cases hk
  simp only [AllT.cons] at hok
  obtain ⟨h1, h2, h3, _⟩ := hok
  have e1 : args = _ := eqb_iff.1 h1
  have e2 : H = _ := eqb_iff.1 h2
  have := h _ (pdec_iff.1 h3)
  rw [← e1, ← e2] at this
  exact this

def funOf : Value → List Value × List Value
  | .func _ a b => (a.toList, b.toList)
  | _ => ([], [])
def strsOf (l : List Value) : List ByteArray := l.map toStr
@[simp] theorem strsOf_map (l : List ByteArray) : strsOf (l.map Value.string) = l := by
  unfold strsOf
  rw [List.map_map]
  exact List.map_id'' (fun _ => rfl) l
def sliceOff : Value → Nat
  | .slice (some a) _ _ => a.off
  | _ => 0
end Go.Am
