/-
  The abstract machine: pieces of a way put together: choices, heads of loops written as a run's configuration with some places overwritten, ways that end, contracts of functions in a row.
-/
import Derived.Test.YtfpnjpbdaniomaaAmPrune
set_option linter.unusedVariables false
set_option linter.unusedSimpArgs false
namespace Go.Am

noncomputable def pdec (p : Prop) : Bool := @decide p (Classical.propDecidable _)
theorem pdec_iff {p : Prop} : pdec p = true ↔ p := by simp [pdec]
theorem cond_intro {α : Type} {P : α → Prop} {x y : α} (b : Bool) (h1 : b = true → P x) (h0 : b = false → P y) : P (bif b then x else y) := by
 cases b
 ·exact h0 rfl
 ·exact h1 rfl
theorem dT {b : Bool} (h : b = true) : (b == true) = true := by rw [h]; rfl
theorem dF {b : Bool} (h : b = false) : (b == false) = true := by rw [h]; rfl
/-! ### places overwritten -/
def wTmp (i : Nat) (v : Value) (C : Cfg) : Cfg := { C with fr := { C.fr with tm := setT C.fr.tm i v } }
def wCell (b o : Nat) (v : Value) (C : Cfg) : Cfg :=
 match getO C.H b with
 | some (.cells cs e g) => { C with H := C.H.set b (some (.cells (cs.set o v) e g)) }
 | _ => C
def wCells (b : Nat) (l : List Value) (C : Cfg) : Cfg :=
 match getO C.H b with
 | some (.cells _ e g) => { C with H := C.H.set b (some (.cells l e g)) }
 | _ => C
def wObj (b : Nat) (J : Heap) (C : Cfg) : Cfg :=
 match getO C.H b with
 | some (.obj _) => { C with H := C.H.set b (some (.obj J)) }
 | _ => C

def reCfg (S : Cfg) (tm : Tm) (H : Heap) : Cfg := { fr := { S.fr with tm := tm }, cs := S.cs, H := H }

/-! ### rows of their own for slices that are none -/
structure Fix where
 t : Bool
 b : Nat
 o : Nat
 e : Nat
 z : Nat
def fixes : List Fix → Cfg → Option Cfg
 | [], C => some C
 | f :: r, C => match (match f.t with | true => nilT f.b f.e f.z C | false => nilC f.b f.o f.e f.z C) with
  | some C' => fixes r C'
  | none => none
theorem nilC_length {b o : Nat} {e : TypeId} {z : Nat} {C C' : Cfg} (h : nilC b o e z C = some C') : C.H.length ≤ C'.H.length := by
 unfold nilC at h
 split at h
 ·split at h
  ·cases h; simp [slot]
  ·cases h
 ·cases h
theorem nilT_length {t : Nat} {e : TypeId} {z : Nat} {C C' : Cfg} (h : nilT t e z C = some C') : C.H.length ≤ C'.H.length := by
 unfold nilT at h
 split at h
 ·cases h; simp [slot]
 ·cases h
theorem reach_fixes {E : Env} {B : Nat} : ∀ {l : List Fix} {C C' : Cfg}, fixes l C = some C' → B ≤ C.H.length → Gets E B C C'
 | [], C, C', h, _ => by cases h; exact Gets.refl _
 | f :: r, C, C', h, hB => by
  unfold fixes at h
  split at h
  ·rename_i C1 h1
   split at h1
   ·exact (reach_nilT h1 hB).trans (reach_fixes h (Nat.le_trans hB (nilT_length h1)))
   ·exact (reach_nilC h1 hB).trans (reach_fixes h (Nat.le_trans hB (nilC_length h1)))
  ·cases h

def goNil (E : Env) (K : Ctr) (N n : Nat) (ds : Option (List Bool)) (ls : List (List Nat)) (lp : List (Nat × List Nat)) (keep live : List Nat) (fx : List Fix) (keep2 live2 : List Nat) (C : Cfg) : Option (List Bool × Cfg) :=
 match goPr E K N n ds ls lp keep live C with
 | some (ok, C1) => match fx with
  | [] => some (ok, C1)
  | _ :: _ => match fixes fx C1 with
   | some C2 => match gc E keep2 live2 C2 with
    | some (ok2, C3) => some (ok2 ++ ok, C3)
    | none => none
   | none => none
 | none => none
theorem gc_length {E : Env} {l live : List Nat} {C C' : Cfg} {ok : List Bool} (h : gc E l live C = some (ok, C')) (hok : AllT ok) : C'.H.length = l.length := by
 unfold gc at h
 split at h
 ·rename_i fr cs ok1 H hn hfr hcs hH
  cases h
  exact renHi_len hH hok
 ·cases h
theorem reach_gn {E : Env} {K : Ctr} (hK : KOk E K) {N n : Nat} {ds : Option (List Bool)} {ls : List (List Nat)} {lp : List (Nat × List Nat)} {keep live keep2 live2 : List Nat} {fx : List Fix} {C C' : Cfg} {ok : List Bool} {B : Nat} (h : goNil E K N n ds ls lp keep live fx keep2 live2 C = some (ok, C')) (hok : AllT ok) (hB : B ≤ C.H.length)
  (hk : ∀ i, i < B → keep.getD i 0 = i) (hk2 : ∀ i, i < B → keep2.getD i 0 = i) (hl : B ≤ keep.length) : Gets E B C C' := by
 unfold goNil at h
 split at h
 ·rename_i ok1 C1 h1
  split at h
  ·cases h
   exact reach_gp hK h1 hok hB hk
  ·split at h
   ·rename_i C2 h2
    split at h
    ·rename_i ok2 C3 h3
     cases h
     obtain ⟨k3, k1⟩ := AllT.app.1 hok
     refine ((reach_gp hK h1 k1 hB hk).trans ((reach_fixes h2 ?_).trans (reach_gc h3 k3 hk2)))
     unfold goPr at h1
     split at h1
     ·split at h1
      ·rename_i ok4 C4 h4
       cases h1
       rw [gc_length h4 (AllT.app.1 k1).1]
       exact hl
      ·cases h1
     ·cases h1
    ·cases h
   ·cases h
 ·cases h

/-! ### what must hold, as one Bool: what is closed falls away -/
def okB : List Bool → Bool
 | [] => true
 | b :: r => and b (okB r)
theorem okB_all : ∀ {l : List Bool}, okB l = true → AllT l
 | [], _ => AllT.nil
 | b :: r, h => by
  have h : (b && okB r) = true := h
  simp only [Bool.and_eq_true] at h
  exact AllT.cons.2 ⟨h.1, okB_all h.2⟩
theorem andI {a b : Bool} (h : a = true) (g : b = true) : and a b = true := by subst h; exact g
def goNilB (E : Env) (K : Ctr) (N n : Nat) (ds : Option (List Bool)) (ls : List (List Nat)) (lp : List (Nat × List Nat)) (keep live : List Nat) (fx : List Fix) (keep2 live2 : List Nat) (C : Cfg) : Option (Bool × Cfg) :=
 match goNil E K N n ds ls lp keep live fx keep2 live2 C with
 | some (ok, C') => some (okB ok, C')
 | none => none
theorem reach_gb {E : Env} {K : Ctr} (hK : KOk E K) {N n : Nat} {ds : Option (List Bool)} {ls : List (List Nat)} {lp : List (Nat × List Nat)} {keep live keep2 live2 : List Nat} {fx : List Fix} {C C' : Cfg} {ok : Bool} {B : Nat} (h : goNilB E K N n ds ls lp keep live fx keep2 live2 C = some (ok, C')) (hok : ok = true) (hB : B ≤ C.H.length)
  (hk : ∀ i, i < B → keep.getD i 0 = i) (hk2 : ∀ i, i < B → keep2.getD i 0 = i) (hl : B ≤ keep.length) : Gets E B C C' := by
 unfold goNilB at h
 split at h
 ·rename_i ok1 C1 h1
  cases h
  exact reach_gn hK h1 (okB_all hok) hB hk hk2 hl
 ·cases h
def goFinB (E : Env) (K : Ctr) (N n : Nat) (ds : Option (List Bool)) (keep live keepE : List Nat) (C : Cfg) : Option (Bool × Value × Heap) :=
 match goFin E K N n ds keep live keepE C with
 | some (ok, v, H) => some (okB ok, v, H)
 | none => none
theorem ends_ofB {E : Env} {K : Ctr} (hK : KOk E K) {g : FuncId} {H' : Heap} {C : Cfg} {N n : Nat} {ds : Option (List Bool)} {keep live keepE : List Nat} {ok : Bool} {v : Value} {B : Nat} (h : goFinB E K N n ds keep live keepE C = some (ok, v, H')) (hok : ok = true)
  (hfn : fnAt (goGc E K N n ds keep live C) = some g) (hB : B ≤ C.H.length) (hk : ∀ i, i < B → keep.getD i 0 = i) (hkE : ∀ i, i < B → keepE.getD i 0 = i) : AEnds E g B C v H' := by
 unfold goFinB at h
 split at h
 ·rename_i ok1 v1 H1 h1
  cases h
  exact ends_of hK h1 (okB_all hok) hfn hB hk hkE
 ·cases h

/-! ### contracts in a row -/
abbrev Ct := List Value → Heap → Option (List Bool × Value × Heap)
def KFor (E : Env) (g : Nat) (k : Ct) : Prop := ∀ args H ok v H', k args H = some (ok, v, H') → AllT ok → CallOk E g args H v H'
def ctrOf (E : Env) : List (Nat × (List Value → Bool) × Ct) → Ctr
 | [] => fun _ _ _ => none
 | (n, p, k) :: r => fun g args H => bif Nat.beq g n && p args then liftR (inPart E (pickAll E) k args H) else ctrOf E r g args H
theorem ctr_nil {E : Env} : KOk E (ctrOf E []) := fun _ _ _ _ _ _ _ _ _ _ h => by cases h
theorem ctr_cons {E : Env} {n : Nat} {p : List Value → Bool} {k : Ct} {r : List (Nat × (List Value → Bool) × Ct)} (hk : KFor E n k) (hr : KOk E (ctrOf E r)) : KOk E (ctrOf E ((n, p, k) :: r)) := by
 intro g args H f orc lg ok orc' v H' h hf hok
 unfold ctrOf at h
 cases hb : (Nat.beq g n && p args) with
 | false => rw [hb] at h; exact hr _ _ _ _ _ _ _ _ _ _ h hf hok
 | true =>
  rw [hb] at h
  simp only [Bool.and_eq_true] at hb
  obtain rfl := Nat.eq_of_beq_eq_true hb.1
  simp only [cond_true] at h
  exact inPart_ok hk (liftR_some h hf) hok
/-! contracts that ask -/
def anyA (_ : List Value) : Bool := true
def ptrA (l : List Value) : Bool :=
 match l with
 | .pointer (some _) :: _ => true
 | _ => false
noncomputable def eqA (a b : List Value) : Bool := eqb a b
noncomputable def eqH (a b : Heap) : Bool := eqb a b
theorem eqA_self (a : List Value) : eqA a a = true := eqb_self a
theorem eqH_self (a : Heap) : eqH a a = true := eqb_self a
noncomputable def kP {α : Type} (ex : List Value → Heap → α) (sA : α → List Value) (sH : α → Heap) (pre : α → Prop) (r : α → Value) (rH : α → Heap) : Ct := fun args H =>
 some ([eqA args (sA (ex args H)), eqH H (sH (ex args H)), pdec (pre (ex args H))], r (ex args H), rH (ex args H))
theorem kP_ok {E : Env} {g : FuncId} {α : Type} {ex : List Value → Heap → α} {sA : α → List Value} {sH : α → Heap} {pre : α → Prop} {r : α → Value} {rH : α → Heap} (h : ∀ x, pre x → CallOk E g (sA x) (sH x) (r x) (rH x)) : KFor E g (kP ex sA sH pre r rH) := by
 intro args H ok v H' hk hok
 unfold kP at hk
 cases hk
 simp only [AllT.cons] at hok
 obtain ⟨h1, h2, h3, _⟩ := hok
 have e1 : args = _ := eqb_iff.1 h1
 have e2 : H = _ := eqb_iff.1 h2
 have := h _ (pdec_iff.1 h3)
 rw [← e1, ← e2] at this
 exact this

def strsOf (l : List Value) : List ByteArray := l.map toStr
@[simp] theorem strsOf_map (l : List ByteArray) : strsOf (l.map Value.string) = l := by
 unfold strsOf
 rw [List.map_map]
 exact List.map_id'' (fun _ => rfl) l
def sliceOff : Value → Nat
 | .slice (some a) _ _ => a.off
 | _ => 0
end Go.Am
