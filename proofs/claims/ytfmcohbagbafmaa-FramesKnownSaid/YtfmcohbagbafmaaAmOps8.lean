/-
  The abstract machine: every operation against the model's.
-/
import Derived.Test.YtfmcohbagbafmaaAmOps7
namespace Go.Am
section
variable {E : Env} {Pr : Nat → Option Obj} {ρ : Nat → Nm}

def evC (t : Array Value) : Operand → Value
  | .tmp i => t.getD i undef
  | .const v => v
  | .global g => .pointer (some ⟨g, 0, none⟩)
  | .func f => .func (.func f) #[] #[]

theorem eval_eq (f : Frame) : f.eval = evC f.tmps := funext fun x => by cases x <;> rfl

theorem evalT_sound {A : Nat → Prop} {tm : Tm} {nt : Nat} {t : Array Value} (h : TmR Pr A ρ tm nt t) {x : Operand} {v : Value} (he : evalT tm x = some v) : VR Pr A ρ v (evC t x) := by
  cases x with
  | tmp i =>
    obtain ⟨v', h1, h2⟩ := h.get i v he
    simpa [evC, Array.getD_eq_getD_getElem?, h1] using h2
  | const c =>
    simp only [evalT] at he
    split at he
    · rename_i hc; cases he; exact VR.const hc
    · cases he
  | global g => cases he
  | func f =>
    cases he
    exact .func f _ _ _ _ rfl rfl (by intro k hk; simp at hk) (by intro k hk; simp at hk)

theorem evalL_sound {A : Nat → Prop} {tm : Tm} {nt : Nat} {t : Array Value} (h : TmR Pr A ρ tm nt t) : ∀ {l : List Operand} {vs : List Value}, evalL tm l = some vs → VL Pr A ρ vs (l.map (evC t))
  | [], vs, he => by cases he; exact .nil
  | x :: l, vs, he => by
    simp only [evalL] at he
    split at he
    · rename_i v us h1 h2
      cases he
      exact .cons (evalT_sound h h1) (evalL_sound h h2)
    · cases he

theorem evalP_sound {A : Nat → Prop} {tm : Tm} {nt : Nat} {t : Array Value} (h : TmR Pr A ρ tm nt t) : ∀ {l : List (Nat × Operand)} {vs : List (Nat × Value)}, evalP tm l = some vs → PL Pr A ρ vs (l.map fun p => (p.1, evC t p.2))
  | [], vs, he => by cases he; exact .nil
  | (i, x) :: l, vs, he => by
    simp only [evalP] at he
    split at he
    · rename_i v us h1 h2
      cases he
      exact .cons i (evalT_sound h h1) (evalP_sound h h2)
    · cases he

theorem evalO_sound {A : Nat → Prop} {tm : Tm} {nt : Nat} {t : Array Value} (h : TmR Pr A ρ tm nt t) {x : Option Operand} {v : Option Value} (he : evalO tm x = some v) : OVR Pr A ρ v (x.map (evC t)) := by
  cases x with
  | none => cases he; exact .none
  | some x =>
    simp only [evalO] at he
    split at he
    · rename_i u hu; cases he; exact .some (evalT_sound h hu)
    · cases he

/-- What an operation has done. -/
def DidN (E : Env) (Pr : Nat → Option Obj) (ρ : Nat → Nm) (H : Heap) (w : World) (s : Sem Next) (v : Value) (H' : Heap) : Prop :=
  ∃ v' w' ρ', (s.run E.P w = .ok (.value v') w' ∨ (s.run E.P w = .ok .skip w' ∧ v' = undef)) ∧ HR Pr (AN H') ρ' H' w'.heap ∧ VR Pr (AN H') ρ' v v' ∧ (∀ i, AN H i → ρ' i = ρ i) ∧ H.length ≤ H'.length ∧ Kp w w'

def NxOk (E : Env) (Pr : Nat → Option Obj) (ρ : Nat → Nm) (H : Heap) (w : World) (s : Sem Next) : Nx → Prop
  | .val v H' => DidN E Pr ρ H w s v H'
  | .enter g args => ∃ args', s.run E.P w = .ok (.enter g args'.toArray) w ∧ VL Pr (AN H) ρ args args'
  | .yield l args => ∃ args', s.run E.P w = (Instr.yield (ρ l).blk args'.toArray).run E.P w ∧ VL Pr (AN H) ρ args args' ∧ AN H l

theorem DidN.of {H : Heap} {w : World} {s : Sem Value} {v : Value} {H' : Heap} (h : Did E Pr ρ H w s v H') : DidN E Pr ρ H w (do pure (.value (← s))) v H' := by
  obtain ⟨v', w', ρ', h1, h2⟩ := h
  exact ⟨v', w', ρ', .inl (by simp [h1]), h2⟩

theorem DidN.same {H : Heap} {w : World} (hH : HR Pr (AN H) ρ H w.heap) {s : Sem Value} {v v' : Value} {H' : Heap} (h : s.run E.P w = .ok v' w ∧ VR Pr (AN H) ρ v v' ∧ H' = H) : DidN E Pr ρ H w (do pure (.value (← s))) v H' := by
  obtain ⟨h1, h2, rfl⟩ := h
  exact DidN.of (Did.same hH h1 h2)

theorem run_callFunc {g : FuncId} {F : Func} (hF : E.fn g = some F) (hb : F.body.isSome = true) (args : Array Value) (w : World) : (callFunc g args).run E.P w = .ok (.enter g args) w := by
  have h1 := E.fnOk g F hF
  have h2 := E.fnName g F hF
  have h3 : F.body.isNone = false := by
    cases hx : F.body with
    | none => rw [hx] at hb; cases hb
    | some _ => rfl
  simp only [callFunc, program, Sem.run_bind, Sem.run, Result.andThen_ok, h1, h2, h3]
  rfl

theorem callOp_sound {H : Heap} {w : World} {f f' : Value} {args args' : List Value} {nx : Nx} {ok : List Bool} (h : callOp E f args = some (nx, ok)) (hf : VR Pr (AN H) ρ f f') (ha : VL Pr (AN H) ρ args args') :
    NxOk E Pr ρ H w (do let d ← Deferred.ofValue f' args'.toArray; invoke d.target d.args) nx := by
  unfold callOp at h
  split at h
  · rename_i g first caps
    split at h
    · rename_i F hF
      split at h
      · rename_i hb
        cases h
        cases hf with
        | func _ _ _ fs' cs' h1 h2 h3 h4 =>
          refine ⟨fs'.toList ++ args' ++ cs'.toList, ?_, ((VL.toArray h1 h3).append ha).append (VL.toArray h2 h4)⟩
          have := run_callFunc hF hb (fs' ++ args'.toArray ++ cs') w
          simp only [Deferred.ofValue, pure_bind, invoke]
          rw [this]
          congr 2
          apply Array.ext'
          simp
      · cases h
    · cases h
  · rename_i l first caps
    cases h
    cases hf with
    | yld _ _ _ fs' cs' hl h1 h3 =>
      refine ⟨fs'.toList ++ args', ?_, (VL.toArray h1 h3).append ha, hl⟩
      simp only [Deferred.ofValue, pure_bind, invoke]
      have : fs' ++ args'.toArray = (fs'.toList ++ args').toArray := by
        apply Array.ext'
        simp
      rw [this]
  · cases h

/-! every helper hands back a value -/
def IsVal (r : Res) : Prop := ∀ nx ok, r = some (nx, ok) → ∃ v H', nx = .val v H'
theorem IsVal.none : IsVal none := fun _ _ h => by cases h
theorem IsVal.some (v : Value) (H : Heap) (ok : List Bool) : IsVal (some (.val v H, ok)) := fun _ _ h => by cases h; exact ⟨_, _, rfl⟩
theorem IsVal.ite {c : Prop} [Decidable c] {a b : Res} (ha : IsVal a) (hb : IsVal b) : IsVal (if c then a else b) := by split <;> assumption
theorem IsVal.more {ok : List Bool} {r : Res} (h : IsVal r) : IsVal (more ok r) := by
  intro nx ok' he
  cases r with
  | none => cases he
  | some p =>
    obtain ⟨n, o⟩ := p
    simp only [Am.more, Option.some.injEq, Prod.mk.injEq] at he
    obtain ⟨rfl, rfl⟩ := he
    exact h _ _ rfl
theorem IsVal.append1 (H : Heap) (e : TypeId) (i : TI) (s : Value) (m : Nat) (news : List Value) : IsVal (append1 H e i s m news) := by
  unfold Am.append1
  repeat' split
  all_goals first | exact .none | exact .some _ _ _
theorem IsVal.appendOp (H : Heap) (t u : TypeId) (s x : Value) : IsVal (appendOp E H t u s x) := by
  unfold Am.appendOp
  repeat' split
  all_goals first | exact .none | exact (IsVal.append1 _ _ _ _ _ _).more
theorem IsVal.copyOp (H : Heap) (t : TypeId) (s x : Value) : IsVal (copyOp E H t s x) := by
  unfold Am.copyOp
  repeat' split
  all_goals first | exact .none | exact .some _ _ _
theorem IsVal.clearOp (H : Heap) (t : TypeId) (x : Value) : IsVal (clearOp E H t x) := by
  unfold Am.clearOp
  repeat' split
  all_goals first | exact .none | exact .some _ _ _
theorem IsVal.makeOp (H : Heap) (t : TypeId) (s x : Value) : IsVal (makeOp E H t s x) := by
  unfold Am.makeOp
  repeat' split
  all_goals first | exact .none | exact .some _ _ _
theorem IsVal.storeOp (H : Heap) (t : TypeId) (s x : Value) : IsVal (storeOp E H t s x) := by
  unfold Am.storeOp
  repeat' split
  all_goals first | exact .none | exact .some _ _ _
theorem IsVal.loadOp (H : Heap) (t : TypeId) (s : Value) : IsVal (loadOp E H t s) := by
  unfold Am.loadOp
  repeat' split
  all_goals first | exact .none | exact .some _ _ _
theorem IsVal.faddrOp (H : Heap) (t : TypeId) (s : Value) (f : Nat) : IsVal (faddrOp E H t s f) := by
  unfold Am.faddrOp
  repeat' split
  all_goals first | exact .none | exact .some _ _ _
theorem IsVal.fieldOp (H : Heap) (t : TypeId) (s : Value) (f : Nat) : IsVal (fieldOp E H t s f) := by
  unfold Am.fieldOp
  repeat' split
  all_goals first | exact .none | exact .some _ _ _
theorem IsVal.iaddrOp (H : Heap) (t : TypeId) (s x : Value) : IsVal (iaddrOp E H t s x) := by
  unfold Am.iaddrOp
  repeat' split
  all_goals first | exact .none | exact .some _ _ _
theorem IsVal.indexOp (H : Heap) (t : TypeId) (s x : Value) : IsVal (indexOp E H t s x) := by
  unfold Am.indexOp
  repeat' split
  all_goals first | exact .none | exact .some _ _ _
theorem IsVal.sliceOp (H : Heap) (t : TypeId) (s : Value) (x y : Option Value) : IsVal (sliceOp E H t s x y) := by
  unfold Am.sliceOp
  repeat' split
  all_goals first | exact .none | exact .some _ _ _
theorem IsVal.convOp (H : Heap) (t u : TypeId) (s : Value) : IsVal (convOp E H t u s) := by
  unfold Am.convOp
  repeat' split
  all_goals first | exact .none | exact .some _ _ _
theorem IsVal.buildOp (H : Heap) (t : TypeId) (l : List (Nat × Value)) : IsVal (buildOp E H t l) := by
  unfold Am.buildOp
  repeat' split
  all_goals first | exact .none | exact .some _ _ _
theorem IsVal.buildSOp (H : Heap) (t : TypeId) (n : Nat) (l : List (Nat × Value)) : IsVal (buildSOp E H t n l) := by
  unfold Am.buildSOp
  repeat' split
  all_goals first | exact .none | exact .some _ _ _

theorem len1 {α : Type} {a : Array α} {x : α} (h : a.toList = [x]) : a = #[x] := by apply Array.ext'; simpa using h
theorem len2 {α : Type} {a : Array α} {x y : α} (h : a.toList = [x, y]) : a = #[x, y] := by apply Array.ext'; simpa using h

theorem builtin_sound {H : Heap} {w : World} (hH : HR Pr (AN H) ρ H w.heap) {b : Builtin} {ts : Array TypeId} {ty : TypeId} {consts : Array Bool} {vs vs' : List Value} {nx : Nx} {ok : List Bool} (h : builtinOp E H b ts.toList vs = some (nx, ok)) (hok : AllT ok)
    (hv : VL Pr (AN H) ρ vs vs') : NxOk E Pr ρ H w (Go.builtin b ts ty consts vs'.toArray) nx := by
  unfold builtinOp at h
  split at h
  · rename_i t x hts
    have hts := len1 hts
    cases hv with
    | cons hx ht =>
      rename_i v' _
      cases ht
      subst hts
      split at h
      · rename_i s hu
        cases h; cases hx
        exact DidN.same hH ⟨by simp [Builtin.len_, undT_run hu w, slen_eq, goInt], .int _ _, rfl⟩
      · rename_i e a n c hu
        cases h
        have hx' : ∃ a' c', v' = .slice a' n c' := by cases hx <;> exact ⟨_, _, rfl⟩
        obtain ⟨a', c', rfl⟩ := hx'
        exact DidN.same hH ⟨by simp [Builtin.len_, undT_run hu w, goInt], .int _ _, rfl⟩
      · rename_i e n cs hu
        cases h
        have hx' : ∃ a' c', v' = .slice a' n c' := by cases hx <;> exact ⟨_, _, rfl⟩
        obtain ⟨a', c', rfl⟩ := hx'
        exact DidN.same hH ⟨by simp [Builtin.len_, undT_run hu w, goInt], .int _ _, rfl⟩
      · rename_i n e hu
        cases h
        exact DidN.same hH ⟨by simp [Builtin.len_, undT_run hu w, goInt], .int _ _, rfl⟩
      · cases h
  · rename_i t u s x hts
    have hts := len2 hts
    subst hts
    cases hv with
    | cons hs hv =>
      cases hv with
      | cons hx ht =>
        cases ht
        obtain ⟨v, H', rfl⟩ := IsVal.appendOp (E := E) _ _ _ _ _ nx ok h
        exact DidN.of (append_sound hH h hok hs hx)
  · rename_i t u s x hts
    have hts := len2 hts
    subst hts
    cases hv with
    | cons hs hv =>
      cases hv with
      | cons hx ht =>
        cases ht
        obtain ⟨v, H', rfl⟩ := IsVal.copyOp (E := E) _ _ _ _ nx ok h
        exact DidN.of (copy_sound hH h hok hs hx)
  · rename_i t x hts
    have hts := len1 hts
    subst hts
    cases hv with
    | cons hx hv =>
      cases hv
      obtain ⟨v, H', rfl⟩ := IsVal.clearOp (E := E) _ _ _ nx ok h
      exact DidN.of (clear_sound hH h hok hx)
  · rename_i x y
    cases hv with
    | cons hx hv =>
      cases hv with
      | cons hy ht =>
        cases ht
        split at h
        · rename_i v hm
          cases h
          unfold min2 at hm
          split at hm
          · cases hm; cases hx; cases hy
            refine DidN.same hH ⟨?_, .int _ _, rfl⟩
            simp [Builtin.min_, Builtin.min2, Bool.cond_decide]
          · cases hm
        · cases h
  · rename_i x y
    cases hv with
    | cons hx hv =>
      cases hv with
      | cons hy ht =>
        cases ht
        split at h
        · rename_i v hm
          cases h
          unfold max2 at hm
          split at hm
          · cases hm; cases hx; cases hy
            refine DidN.same hH ⟨?_, .int _ _, rfl⟩
            simp [Builtin.max_, Builtin.max2, Bool.cond_decide]
          · cases hm
        · cases h
  · cases h

/-- EVERY OPERATION. -/
theorem aop_sound {H : Heap} {w : World} (hH : HR Pr (AN H) ρ H w.heap) {tm : Tm} {nt : Nat} {t : Array Value} (ht : TmR Pr (AN H) ρ tm nt t) {o : Oper} {nx : Nx} {ok : List Bool} (h : aop E H tm o.op = some (nx, ok)) (hok : AllT ok) :
    NxOk E Pr ρ H w (execOp (evC t) o) nx := by
  have hval : ∀ {x : Operand} {k : Value → Res}, with1 (evalT tm x) k = some (nx, ok) → ∃ v, evalT tm x = some v ∧ k v = some (nx, ok) ∧ VR Pr (AN H) ρ v (evC t x) := by
    intro x k hk
    unfold with1 at hk
    split at hk
    · rename_i v hv; exact ⟨v, hv, hk, evalT_sound ht hv⟩
    · cases hk
  unfold aop at h
  split at h
  · rename_i x ho
    obtain ⟨v, h1, h2, h3⟩ := hval h
    cases h2
    simp only [execOp, ho]
    exact ⟨_, w, ρ, .inl rfl, hH, h3, fun _ _ => rfl, Nat.le_refl _, Kp.refl _⟩
  · rename_i x ho
    obtain ⟨v, h1, h2, h3⟩ := hval h
    cases h2
    simp only [execOp, ho]
    exact ⟨_, w, ρ, .inl rfl, hH, h3, fun _ _ => rfl, Nat.le_refl _, Kp.refl _⟩
  · rename_i e ho
    split at h
    · rename_i i hi
      cases h
      have hz := (AllT.cons.1 hok).1
      have hzv : VL Pr (AN H) ρ i.zero.cells.toList i.zero.cells.toList := (VR.const (Pr := Pr) (A := AN H) (ρ := ρ) hz).cells
      simp only [execOp, ho]
      refine DidN.of ?_
      obtain ⟨v', w', ρ', q1, q2⟩ := newVar_sound (E := E) hH (c := i.zero.cells) e hzv
      refine ⟨v', w', ρ', ?_, q2⟩
      have : (Instr.alloc e true (.tuple #[])).run E.P w = (do pure (.pointer (some (← newRow e i.zero.cells))) : Sem Value).run E.P w := by
        simp [Instr.alloc, ty_run_zero hi w, newVar]
      rw [this]; exact q1
    · cases h
  · rename_i e x ho
    obtain ⟨v, h1, h2, h3⟩ := hval h
    cases h2
    simp only [execOp, ho]
    exact DidN.of (newVar_sound (E := E) hH e h3.cells)
  · rename_i t' ps ho
    split at h
    · rename_i l hl
      have hp := evalP_sound ht hl
      obtain ⟨v, H', rfl⟩ := IsVal.buildOp (E := E) _ _ _ nx ok h
      obtain ⟨v', q1, q2, q3⟩ := build_sound (w := w) h hok hp
      simp only [execOp, ho]
      refine DidN.same hH ⟨?_, q2, q3⟩
      rw [← q1]
      congr 2
      apply Array.ext'
      simp
    · cases h
  · rename_i t' n ps ho
    split at h
    · rename_i l hl
      have hp := evalP_sound ht hl
      obtain ⟨v, H', rfl⟩ := IsVal.buildSOp (E := E) _ _ _ _ nx ok h
      have q := buildS_sound hH h hok hp
      simp only [execOp, ho]
      refine DidN.of ?_
      have e1 : (ps.map fun (i, x) => (i, evC t x)) = (ps.toList.map fun p => (p.1, evC t p.2)).toArray := by
        apply Array.ext'
        simp
      rw [e1]
      exact q
    · cases h
  · rename_i t' a ho
    obtain ⟨v, h1, h2, h3⟩ := hval h
    obtain ⟨r, H', rfl⟩ := IsVal.loadOp (E := E) _ _ _ nx ok h2
    simp only [execOp, ho]
    obtain ⟨v', q⟩ := load_sound hH h2 hok h3
    exact DidN.same hH q
  · rename_i t' a x ho
    obtain ⟨v, h1, h2, h3⟩ := hval h
    unfold with1 at h2
    split at h2
    · rename_i u hu
      have h4 := evalT_sound ht hu
      obtain ⟨r, H', rfl⟩ := IsVal.storeOp (E := E) _ _ _ _ nx ok h2
      obtain ⟨w', q1, q2, q3, q4, q5⟩ := store_sound hH h2 hok h3 h4
      subst q3
      simp only [execOp, ho]
      refine ⟨undef, w', ρ, .inr ⟨by simp [q1], rfl⟩, ?_, VR.undef, fun _ _ => rfl, (by omega), q5⟩
      have : AN H' = AN H := by unfold AN; rw [q4]
      rw [this]; exact q2
    · cases h2
  · rename_i x ho
    obtain ⟨v, h1, h2, h3⟩ := hval h
    split at h2
    · cases h2
      obtain ⟨p, hp⟩ : ∃ p, evC t x = .pointer (some p) := by generalize evC t x = y at h3; cases h3; exact ⟨_, rfl⟩
      rw [hp] at h3
      simp only [execOp, ho, hp]
      exact ⟨_, w, ρ, .inl rfl, hH, h3, fun _ _ => rfl, Nat.le_refl _, Kp.refl _⟩
    · cases h2
      obtain ⟨p, hp⟩ : ∃ p, evC t x = .pointer (some p) := by generalize evC t x = y at h3; cases h3; exact ⟨_, rfl⟩
      rw [hp] at h3
      simp only [execOp, ho, hp]
      exact ⟨_, w, ρ, .inl rfl, hH, h3, fun _ _ => rfl, Nat.le_refl _, Kp.refl _⟩
    · cases h2
      obtain ⟨g, fs, cs, hp⟩ : ∃ g fs cs, evC t x = .func (.func g) fs cs := by generalize evC t x = y at h3; cases h3; exact ⟨_, _, _, rfl⟩
      rw [hp] at h3
      simp only [execOp, ho, hp]
      exact ⟨_, w, ρ, .inl rfl, hH, h3, fun _ _ => rfl, Nat.le_refl _, Kp.refl _⟩
    · cases h2
      obtain ⟨g, fs, cs, hp⟩ : ∃ g fs cs, evC t x = .func (.yield g) fs cs := by generalize evC t x = y at h3; cases h3; exact ⟨_, _, _, rfl⟩
      rw [hp] at h3
      simp only [execOp, ho, hp]
      exact ⟨_, w, ρ, .inl rfl, hH, h3, fun _ _ => rfl, Nat.le_refl _, Kp.refl _⟩
    · cases h2
  · rename_i op t' x y u' ho
    obtain ⟨v, h1, h2, h3⟩ := hval h
    unfold with1 at h2
    split at h2
    · rename_i u hu
      have h4 := evalT_sound ht hu
      dsimp only at h2
      split at h2
      · rename_i r ok1 hb
        cases h2
        obtain ⟨q1, q2, q3⟩ := binop_sound hb hok h3 h4 w
        simp only [execOp, ho]
        refine ⟨r, w, ρ, .inl ?_, hH, q2, fun _ _ => rfl, Nat.le_refl _, Kp.refl _⟩
        simp [q3 x y, q1]
      · cases h2
    · cases h2
  · rename_i op t' x ho
    obtain ⟨v, h1, h2, h3⟩ := hval h
    split at h2
    · rename_i r hr
      cases h2
      obtain ⟨q1, q2⟩ := unop_sound (E := E) hr h3 w
      simp only [execOp, ho]
      exact DidN.same hH ⟨q1, q2, rfl⟩
    · cases h2
  · rename_i s d x ho
    obtain ⟨v, h1, h2, h3⟩ := hval h
    obtain ⟨r, H', rfl⟩ := IsVal.convOp (E := E) _ _ _ _ nx ok h2
    simp only [execOp, ho]
    exact DidN.of (conv_sound hH h2 hok h3)
  · rename_i fn first caps ho
    split at h
    · rename_i vs us hv hu
      cases h
      have q1 := evalL_sound ht hv
      have q2 := evalL_sound ht hu
      have hfn := (AllT.cons.1 hok).1
      simp only [execOp, ho]
      have e1 : first.map (evC t) = (first.toList.map (evC t)).toArray := by apply Array.ext'; simp
      have e2 : caps.map (evC t) = (caps.toList.map (evC t)).toArray := by apply Array.ext'; simp
      refine DidN.same hH ⟨rfl, ?_, rfl⟩
      rw [e1, e2]
      cases fn <;> simp at hfn
      refine .func _ _ _ _ _ (by simpa using q1.length) (by simpa using q2.length) (fun k hk => ?_) (fun k hk => ?_)
      · have := q1.get k (by simpa using hk)
        simpa [Array.getD_eq_getD_getElem?, List.getD_eq_getElem?_getD] using this
      · have := q2.get k (by simpa using hk)
        simpa [Array.getD_eq_getD_getElem?, List.getD_eq_getElem?_getD] using this
    · cases h
  · rename_i t' l c ho
    obtain ⟨v, h1, h2, h3⟩ := hval h
    unfold with1 at h2
    split at h2
    · rename_i u hu
      obtain ⟨r, H', rfl⟩ := IsVal.makeOp (E := E) _ _ _ _ nx ok h2
      simp only [execOp, ho]
      exact DidN.of (make_sound hH h2 hok h3 (evalT_sound ht hu))
    · cases h2
  · rename_i t' x lo hi ho
    obtain ⟨v, h1, h2, h3⟩ := hval h
    split at h2
    · rename_i l hh e1 e2
      obtain ⟨r, H', rfl⟩ := IsVal.sliceOp (E := E) _ _ _ _ _ nx ok h2
      obtain ⟨v', q⟩ := slice_sound hH h2 hok h3 (evalO_sound ht e1) (evalO_sound ht e2) w
      simp only [execOp, ho, Option.map_none]
      exact DidN.same hH q
    · cases h2
  · rename_i s x f ho
    obtain ⟨v, h1, h2, h3⟩ := hval h
    obtain ⟨r, H', rfl⟩ := IsVal.faddrOp (E := E) _ _ _ _ nx ok h2
    obtain ⟨v', q⟩ := faddr_sound h2 h3 w
    simp only [execOp, ho]
    exact DidN.same hH q
  · rename_i s x f ho
    obtain ⟨v, h1, h2, h3⟩ := hval h
    obtain ⟨r, H', rfl⟩ := IsVal.fieldOp (E := E) _ _ _ _ nx ok h2
    obtain ⟨v', q⟩ := field_sound h2 hok h3 w
    simp only [execOp, ho]
    exact DidN.same hH q
  · rename_i t' x i ho
    obtain ⟨v, h1, h2, h3⟩ := hval h
    unfold with1 at h2
    split at h2
    · rename_i u hu
      obtain ⟨r, H', rfl⟩ := IsVal.iaddrOp (E := E) _ _ _ _ nx ok h2
      obtain ⟨v', q⟩ := iaddr_sound h2 hok h3 (evalT_sound ht hu) w
      simp only [execOp, ho]
      exact DidN.same hH q
    · cases h2
  · rename_i t' x i ho
    obtain ⟨v, h1, h2, h3⟩ := hval h
    unfold with1 at h2
    split at h2
    · rename_i u hu
      obtain ⟨r, H', rfl⟩ := IsVal.indexOp (E := E) _ _ _ _ nx ok h2
      obtain ⟨v', q⟩ := index_sound h2 hok h3 (evalT_sound ht hu) w
      simp only [execOp, ho]
      exact DidN.same hH q
    · cases h2
  · rename_i x i ho
    obtain ⟨v, h1, h2, h3⟩ := hval h
    split at h2
    · rename_i vs
      split at h2
      · rename_i r hr
        cases h2
        obtain ⟨vs', hx, q⟩ := h3.tupInv
        simp only [execOp, ho]
        have hlt : i < vs.size := (Array.getElem?_eq_some_iff.1 hr).1
        have hlt' : i < vs'.size := by have := q.length; simp at this; omega
        refine DidN.same hH (v' := vs'[i]) ⟨by simp [hx, Instr.extract, hlt'], ?_, rfl⟩
        have := q.get i (by simpa using hlt)
        have e1 : vs[i] = r := by simpa [hlt] using hr
        simpa [List.getD_eq_getElem?_getD, hlt, hlt', e1] using this
      · cases h2
    · cases h2
  · rename_i c ho
    split at h
    · rename_i vs hvs
      have q1 := evalL_sound ht hvs
      have e1 : c.args.map (evC t) = (c.args.toList.map (evC t)).toArray := by apply Array.ext'; simp
      split at h
      · rename_i b hb
        have q := builtin_sound (ty := o.type) (consts := c.args.map fun | .const _ => true | _ => false) hH h hok q1
        simp only [execOp, ho, resolve, hb, pure_bind, invoke]
        rw [e1]
        exact q
      · rename_i f hb
        obtain ⟨v, h1, h2, h3⟩ := hval h
        have q := callOp_sound (w := w) h2 h3 q1
        simp only [execOp, ho, resolve, hb]
        rw [e1]
        exact q
      · cases h
    · cases h
  · cases h

end
end Go.Am
