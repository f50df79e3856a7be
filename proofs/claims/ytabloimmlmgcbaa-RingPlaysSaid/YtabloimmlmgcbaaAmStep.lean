/-
  The abstract machine: its steps against the model's machine's.
-/
import Derived.Test.YtabloimmlmgcbaaAmOps8
namespace Go.Am

theorem getT_setT {tm : Tm} {d i : Nat} {v : Value} : getT (setT tm d v) i = if d = i then some v else getT tm i := by
  induction tm generalizing d i with
  | al l =>
    simp only [setT, getT, List.lookup_cons]
    by_cases h : d = i
    · subst h; simp
    · have : (i == d) = false := by simp; omega
      rw [this, if_neg h]
  | node u l r ihl ihr =>
    have hb : ∀ n : Nat, Nat.beq n 0 = decide (n = 0) := fun n => by cases n <;> rfl
    have hm : ∀ n : Nat, Nat.beq (Nat.mod n 2) 1 = decide (n % 2 = 1) := fun n => by
      show Nat.beq (n % 2) 1 = _
      rw [Bool.eq_iff_iff, Nat.beq_eq]; simp
    simp only [setT, hb, hm]
    by_cases h0 : d = 0
    · subst h0
      simp only [decide_true, cond_true, getT, hb]
      by_cases hi : i = 0
      · subst hi; simp
      · simp [hi, Ne.symm hi]
    · by_cases h1 : d % 2 = 1
      · simp only [h0, h1, decide_false, decide_true, cond_false, cond_true, getT, hb, hm]
        by_cases hi : i = 0
        · subst hi; simp [h0]
        · by_cases h2 : i % 2 = 1
          · simp only [hi, h2, decide_false, decide_true, cond_false, cond_true]
            rw [ihl]
            show (if d / 2 = i / 2 then _ else _) = _
            by_cases he : d = i
            · subst he; simp
            · rw [if_neg he, if_neg (by omega)]
          · simp only [hi, h2, decide_false, cond_false]
            rw [if_neg (by rintro rfl; exact h2 h1)]
      · simp only [h0, h1, decide_false, cond_false, getT, hb, hm]
        by_cases hi : i = 0
        · subst hi; simp [h0]
        · by_cases h2 : i % 2 = 1
          · simp only [hi, h2, decide_false, decide_true, cond_false, cond_true]
            rw [if_neg (by rintro rfl; exact h1 h2)]
          · simp only [hi, h2, decide_false, cond_false]
            rw [ihr]
            show (if d / 2 - 1 = i / 2 - 1 then _ else _) = _
            by_cases he : d = i
            · subst he; simp
            · rw [if_neg he, if_neg (by omega)]

theorem getT_setT_same (tm : Tm) (d : Nat) (v : Value) : getT (setT tm d v) d = some v := by rw [getT_setT, if_pos rfl]

theorem getT_setT_other (tm : Tm) (d i : Nat) (v u : Value) (h : d ≠ i) (he : getT (setT tm d v) i = some u) : getT tm i = some u := by
  rw [getT_setT, if_neg h] at he
  exact he

theorem getT_emptyT : ∀ d i, getT (emptyT d) i = none
  | 0, i => rfl
  | d + 1, i => by
    simp only [emptyT, getT]
    cases Nat.beq i 0
    · cases Nat.beq (Nat.mod i 2) 1
      · exact getT_emptyT d _
      · exact getT_emptyT d _
    · rfl

theorem getT_putArgs : ∀ (l : List Value) (t : Tm) (k i : Nat) (v : Value), getT (putArgs t k l) i = some v → (∃ j, i = k + j ∧ l[j]? = some v) ∨ getT t i = some v
  | [], t, k, i, v, h => .inr h
  | a :: r, t, k, i, v, h => by
    rcases getT_putArgs r _ _ _ _ h with ⟨j, h1, h2⟩ | h
    · exact .inl ⟨j + 1, by omega, by simpa using h2⟩
    · rw [getT_setT] at h
      split at h
      · rename_i he
        cases h
        exact .inl ⟨0, by omega, rfl⟩
      · exact .inr h

section
variable {E : Env} {Pr : Prot} {A : Nat → Prop} {ρ : Nat → Nm}

theorem TmR.set {tm : Tm} {nt : Nat} {t : Array Value} (h : TmR Pr A ρ tm nt t) {d : Nat} (hd : d < nt) {v v' : Value} (hv : VR Pr A ρ v v') : TmR Pr A ρ (setT tm d v) nt (t.setIfInBounds d v') := by
  refine ⟨by simpa using h.size, fun i u hu => ?_⟩
  have hs := h.size
  by_cases hi : d = i
  · subst hi
    rw [getT_setT_same] at hu
    cases hu
    exact ⟨v', by rw [Array.getElem?_setIfInBounds_self_of_lt (by omega)], hv⟩
  · obtain ⟨u', h1, h2⟩ := h.get i u (getT_setT_other _ _ _ _ _ hi hu)
    exact ⟨u', by rw [Array.getElem?_setIfInBounds_ne hi]; exact h1, h2⟩

/-- The frame written out. -/
def mkF (fn : FuncId) (t : Array Value) (todo : List Item) (ds : List Deferred) (rnd : Option Nat) : Frame :=
  { fn := fn, tmps := t, todo := todo, defers := ds, mode := .run, kind := .normal, roundOf := rnd }

theorem FR.eq {fr : AFr} {f : Frame} (h : FR Pr A ρ fr f) : f = mkF fr.fn f.tmps f.todo (fr.defers.map fun d => { target := .collected (ρ d).blk, args := #[] }) (fr.rnd.map fun l => (ρ l).blk) := by
  obtain ⟨h1, _, _, h4, _, h6, h7, h8, _⟩ := h
  cases f
  simp only at h1 h4 h6 h7 h8
  subst h1 h4 h6 h7 h8
  rfl

theorem FR.turn {fr : AFr} {f : Frame} (h : FR Pr A ρ fr f) {tm : Tm} {t : Array Value} {k k' : List Item} {dk : List Tmp} (ht : TmR Pr A ρ tm fr.nt t) (hk : TodoR A ρ k k') :
    FR Pr A ρ { fr with tm := tm, todo := k, dk := dk } { f with tmps := t, todo := k' } :=
  ⟨h.fn, ht, hk, h.defers, h.dA, h.mode, h.kind, h.rnd, h.rA⟩

theorem FR.to {fr : AFr} {f : Frame} (h : FR Pr A ρ fr f) {k k' : List Item} {dk : List Tmp} (hk : TodoR A ρ k k') : FR Pr A ρ { fr with todo := k, dk := dk } { f with todo := k' } :=
  ⟨h.fn, h.tm, hk, h.defers, h.dA, h.mode, h.kind, h.rnd, h.rA⟩

theorem FR.dk {fr : AFr} {f : Frame} (h : FR Pr A ρ fr f) (dk : List Tmp) : FR Pr A ρ { fr with dk := dk } f :=
  ⟨h.fn, h.tm, h.todo, h.defers, h.dA, h.mode, h.kind, h.rnd, h.rA⟩

theorem finish_sound {fr fr' : AFr} {f : Frame} {v v' : Value} (h : finish fr v = some fr') (hf : FR Pr A ρ fr f) (hv : VR Pr A ρ v v') : FR Pr A ρ fr' (f.finish v') := by
  have htodo := hf.todo
  unfold finish at h
  split at h
  · rename_i ops i rest k hk
    rw [hk] at htodo
    generalize hft : f.todo = ft at htodo
    cases htodo with
    | inRegion _ _ t =>
      rename_i k'
      split at h
      · rename_i d hd
        split at h
        · rename_i hlt
          cases h
          have : f.finish v' = { f with tmps := f.tmps.setIfInBounds d v', todo := .inRegion ops rest :: k' } := by
            unfold Frame.finish; rw [hft]; simp only [hd]
          rw [this]
          exact hf.turn (hf.tm.set hlt hv) (.inRegion _ _ t)
        · cases h
      · rename_i hd
        cases h
        have : f.finish v' = { f with todo := .inRegion ops rest :: k' } := by
          unfold Frame.finish; rw [hft]; simp only [hd]
        rw [this]
        exact hf.to (.inRegion _ _ t)
  · rename_i l k hk
    cases h
    rw [hk] at htodo
    generalize hft : f.todo = ft at htodo
    cases htodo with
    | inRange _ hl t =>
      rename_i k'
      have : f.finish v' = { f with todo := .endRangeFunc (ρ l).blk :: k' } := by
        unfold Frame.finish; rw [hft]
      rw [this]
      exact hf.to (.endRange _ hl t)
  · rename_i k hk
    cases h
    rw [hk] at htodo
    generalize hft : f.todo = ft at htodo
    cases htodo with
    | begin t =>
      rename_i k'
      have : f.finish v' = { f with todo := k' } := by
        unfold Frame.finish; rw [hft]
      rw [this]
      exact hf.to t
  · cases h

theorem exitTo_sound {id : Nat} : ∀ {k k' : List Item}, TodoR A ρ k k' → (∀ r, aexitTo id k = some r → ∃ r', exitTo id k' = some r' ∧ TodoR A ρ r r') ∧ (aexitTo id k = none → exitTo id k' = none) := by
  intro k k' h
  induction h with
  | nil => exact ⟨fun r h => (by cases h), fun _ => rfl⟩
  | code c t ih => exact ih
  | inBlock id' t ih =>
    by_cases hid : id' = id
    · subst hid
      simp only [aexitTo, exitTo, if_true, beq_self_eq_true]
      exact ⟨fun r hr => (by cases hr; exact ⟨_, rfl, t⟩), fun h => (by cases h)⟩
    · have : (id' == id) = false := by simpa using hid
      simp only [aexitTo, exitTo, if_neg hid, this, Bool.false_eq_true, if_false]
      exact ih
  | inLoop c t ih => exact ih
  | inScope c t ih => exact ih
  | inRegion ops l t ih => exact ih
  | inRange l h t ih => exact ih
  | endRange l h t ih => exact ih
  | begin t ih => exact ih

/-- What one or more steps reach. -/
def Goes (E : Env) (Pr : Prot) (ρ : Nat → Nm) (C C' : Cfg) (cs0 : List Frame) (m : Machine) : Prop :=
  ∃ ρ' m', Steps E.P m m' ∧ CR Pr ρ' C' cs0 m' ∧ (∀ i, AN C.H i → ρ' i = ρ i) ∧ C.H.length ≤ C'.H.length ∧ Kp m.world m'.world

theorem Goes.refl {C : Cfg} {cs0 : List Frame} {m : Machine} (h : CR Pr ρ C cs0 m) : Goes E Pr ρ C C cs0 m := ⟨ρ, m, .refl _ _, h, fun _ _ => rfl, Nat.le_refl _, Kp.refl _⟩

theorem Goes.trans {C C1 C2 : Cfg} {cs0 : List Frame} {m : Machine} (h1 : Goes E Pr ρ C C1 cs0 m) (h2 : ∀ ρ1 m1, CR Pr ρ1 C1 cs0 m1 → Goes E Pr ρ1 C1 C2 cs0 m1) : Goes E Pr ρ C C2 cs0 m := by
  obtain ⟨ρ1, m1, s1, c1, r1, l1, k1⟩ := h1
  obtain ⟨ρ2, m2, s2, c2, r2, l2, k2⟩ := h2 ρ1 m1 c1
  exact ⟨ρ2, m2, s1.trans s2, c2, fun i hi => by rw [r2 i (by unfold AN at *; omega), r1 i hi], by omega, k1.trans k2⟩

/-- A step within the frame that leaves memory alone. -/
theorem Goes.stay {C : Cfg} {cs0 : List Frame} {f : Frame} {fs : List Frame} {w : World} (hfs : FsR Pr (AN C.H) ρ C.cs fs) (hH : HR Pr (AN C.H) ρ C.H w.heap)
    {fr' : AFr} {f' : Frame} (hs : Steps E.P (lone f (fs ++ cs0) w) (lone f' (fs ++ cs0) w)) (hf' : FR Pr (AN C.H) ρ fr' f') : Goes E Pr ρ C { C with fr := fr' } cs0 (lone f (fs ++ cs0) w) :=
  ⟨ρ, _, hs, ⟨f', fs, w, rfl, hf', hfs, hH⟩, fun _ _ => rfl, Nat.le_refl _, Kp.refl _⟩


/-! ### the machine's own steps -/

theorem stepG_oper {P : Program} {f : Frame} {cs : List Frame} {w : World} {ops : Array Oper} {i : Nat} {rest : List Nat} {k : List Item} {o : Oper} (hm : f.mode = .run) (ht : f.todo = .inRegion ops (i :: rest) :: k) (ho : ops[i]? = some o)
    (hw : Region.wanted o (yielded ops f.tmps) = true) (hd : ∀ c, o.op ≠ .defer c) :
    stepG P true { frame := f, callers := cs, status := .running, dying := none } w = stepG.apply P true f cs none (execOp (evC f.tmps) o) w := by
  have h1 : stepG P true { frame := f, callers := cs, status := .running, dying := none } w = stepG.oper P true f cs none w := by
    simp [stepG, hm, stepG.exec, ht, ho, hw]
  rw [h1]
  unfold stepG.oper
  have h2 : f.oper? = some o := by simp [Frame.oper?, ht, ho]
  rw [h2, ← eval_eq]
  simp only
  split
  · rename_i c _ hc; exact absurd hc (hd _)
  · rfl

theorem step_value {P : Program} {f : Frame} {cs : List Frame} {w w' : World} {ops : Array Oper} {i : Nat} {rest : List Nat} {k : List Item} {o : Oper} {v : Value} (hm : f.mode = .run) (ht : f.todo = .inRegion ops (i :: rest) :: k) (ho : ops[i]? = some o)
    (hw : Region.wanted o (yielded ops f.tmps) = true) (hd : ∀ c, o.op ≠ .defer c) (hr : (execOp (evC f.tmps) o).run P w = .ok (.value v) w' ∨ ((execOp (evC f.tmps) o).run P w = .ok .skip w' ∧ v = undef)) :
    step P (lone f cs w) = .next (lone (f.finish v) cs w') := by
  refine step_lone_go ?_
  rw [stepG_oper hm ht ho hw hd]
  rcases hr with hr | ⟨hr, rfl⟩ <;> simp [stepG.apply, hr]

theorem step_enter {P : Program} {f : Frame} {cs : List Frame} {w w' : World} {ops : Array Oper} {i : Nat} {rest : List Nat} {k : List Item} {o : Oper} {g : FuncId} {args : Array Value} (hm : f.mode = .run) (ht : f.todo = .inRegion ops (i :: rest) :: k) (ho : ops[i]? = some o)
    (hw : Region.wanted o (yielded ops f.tmps) = true) (hd : ∀ c, o.op ≠ .defer c) (hr : (execOp (evC f.tmps) o).run P w = .ok (.enter g args) w') :
    step P (lone f cs w) = .next (lone (Frame.enter P g args .normal) (f :: cs) w') := by
  refine step_lone_go ?_
  rw [stepG_oper hm ht ho hw hd]
  simp [stepG.apply, hr, ht]

theorem step_round {P : Program} {f : Frame} {cs : List Frame} {w w' : World} {ops : Array Oper} {i : Nat} {rest : List Nat} {k : List Item} {o : Oper} {l g : Nat} {t : Array Value} {a b : Code} (hm : f.mode = .run) (ht : f.todo = .inRegion ops (i :: rest) :: k) (ho : ops[i]? = some o)
    (hw : Region.wanted o (yielded ops f.tmps) = true) (hd : ∀ c, o.op ≠ .defer c) (hr : (execOp (evC f.tmps) o).run P w = .ok (.round l g t a b) w') :
    step P (lone f cs w) = .next (lone (Frame.round l g t a b .normal) (f :: cs) w') := by
  refine step_lone_go ?_
  rw [stepG_oper hm ht ho hw hd]
  simp [stepG.apply, hr]

theorem step_unwanted {P : Program} {f : Frame} {cs : List Frame} {w : World} {ops : Array Oper} {i : Nat} {rest : List Nat} {k : List Item} {o : Oper} (hm : f.mode = .run) (ht : f.todo = .inRegion ops (i :: rest) :: k) (ho : ops[i]? = some o)
    (hw : Region.wanted o (yielded ops f.tmps) = false) : step P (lone f cs w) = .next (lone (f.finish undef) cs w) := by
  refine step_lone_go ?_
  simp [stepG, hm, stepG.exec, ht, ho, hw]

theorem enter_sound {g : FuncId} {F : Func} {c : Code} (hF : E.fn g = some F) (hb : F.body = some c) {args args' : List Value} (ha : VL Pr A ρ args args') (hlen : args.length ≤ F.ntmps) :
    FR Pr A ρ (enterFr g F.ntmps c args) (Frame.enter E.P g args'.toArray .normal) := by
  have hP := E.fnOk g F hF
  have hl := ha.length
  have ht : (Frame.enter E.P g args'.toArray .normal).tmps = args'.toArray ++ Array.replicate (F.ntmps - args'.length) undef := by simp [Frame.enter, hP]
  have htodo : (Frame.enter E.P g args'.toArray .normal).todo = [.code c] := by simp [Frame.enter, hP, hb]
  refine ⟨rfl, ⟨?_, fun i v hv => ?_⟩, ?_, rfl, (by intro d hd; cases hd), rfl, rfl, rfl, (by intro l hl; cases hl)⟩
  · rw [ht]
    show _ = F.ntmps
    simp only [Array.size_append, List.size_toArray, Array.size_replicate]
    omega
  · have hv : getT (putArgs (emptyT (Nat.log2 (F.ntmps + 1) + 1)) 0 args) i = some v := hv
    rw [ht]
    rcases getT_putArgs _ _ _ _ _ hv with ⟨j, hj, hvi⟩ | h
    · have hij : i = j := by omega
      subst hij
      have hi : i < args.length := (List.getElem?_eq_some_iff.1 hvi).1
      have := ha.get i hi
      have hi' : i < args'.length := by omega
      have hge : i < args'.toArray.size := by simpa using hi'
      refine ⟨args'[i], ?_, ?_⟩
      · rw [Array.getElem?_append_left hge]
        simp
      simpa [List.getD_eq_getElem?_getD, hvi, hi'] using this
    · rw [getT_emptyT] at h
      cases h
  · rw [htodo]
    exact .code c .nil


theorem TmR.over {tm : Tm} {nt : Nat} {t : Array Value} (h : TmR Pr A ρ tm nt t) {d : Nat} {v v' : Value} (ht : t[d]? = some v') (hv : VR Pr A ρ v v') : TmR Pr A ρ (setT tm d v) nt t := by
  refine ⟨h.size, fun i u hu => ?_⟩
  by_cases hi : d = i
  · subst hi
    rw [getT_setT_same] at hu
    cases hu
    exact ⟨v', ht, hv⟩
  · exact h.get i u (getT_setT_other _ _ _ _ _ hi hu)

theorem roundTm_sound {nt : Nat} : ∀ {ps : List Tmp} {vs vs' : List Value} {tm : Tm} {t : Array Value}, TmR Pr A ρ tm nt t → VL Pr A ρ vs vs' → ps.all (· < nt) = true →
    TmR Pr A ρ (roundTm tm ps vs) nt ((ps.zip vs').foldl (fun t p => t.setIfInBounds p.1 p.2) t)
  | [], vs, vs', tm, t, h, _, _ => by simpa [roundTm] using h
  | p :: ps, [], vs', tm, t, h, hv, _ => by cases hv; simpa [roundTm] using h
  | p :: ps, v :: vs, vs', tm, t, h, hv, hp => by
    cases hv with
    | cons h1 h2 =>
      simp only [List.all_cons, Bool.and_eq_true, decide_eq_true_eq] at hp
      simp only [roundTm, List.zip_cons_cons, List.foldl_cons]
      exact roundTm_sound (h.set hp.1 h1) h2 hp.2

theorem run_yieldA {P : Program} {w : World} {l : Nat} {r : Loop} {args : List Value} (h : w.heap[l]? = some (.loop r)) (hs : args.length = r.params.size) :
    (Instr.yield l args.toArray).run P w = .ok (.round l r.fn ((r.params.toList.zip args).foldl (fun t p => t.setIfInBounds p.1 p.2) r.tmps) r.assign r.body) w := by
  have hz : (r.params.zip args.toArray).foldl (fun tmps (x : Nat × Value) => tmps.setIfInBounds x.1 x.2) r.tmps = (r.params.toList.zip args).foldl (fun t p => t.setIfInBounds p.1 p.2) r.tmps := by
    rw [← Array.foldl_toList]
    simp
  simp only [Instr.yield, Instr.getLoop, getObj, Sem.run_bind, Sem.run, h, Result.andThen_ok]
  simp [hs, ← hz]

/-- What is done with an operation's outcome. -/
theorem doNx_sound {orc : Option (List Bool)} {ok ok' : List Bool} {orc' : Option (List Bool)} {C C' : Cfg} {nx : Nx} {cs0 : List Frame} {m0 : Machine} {f : Frame} {fs : List Frame} {w : World} {s : Sem Next}
    (h0 : Kp m0.world w) (h : doNx E orc ok C nx = some (ok', orc', C')) (hf : FR Pr (AN C.H) ρ C.fr f) (hfs : FsR Pr (AN C.H) ρ C.cs fs) (hH : HR Pr (AN C.H) ρ C.H w.heap) (hn : NxOk E Pr ρ C.H w s nx)
    (hv : ∀ v' w', (s.run E.P w = .ok (.value v') w' ∨ (s.run E.P w = .ok .skip w' ∧ v' = undef)) → Steps E.P m0 (lone (f.finish v') (fs ++ cs0) w'))
    (he : ∀ g args w', s.run E.P w = .ok (.enter g args) w' → Steps E.P m0 (lone (Frame.enter E.P g args .normal) (f :: (fs ++ cs0)) w'))
    (hr : ∀ l g t a b w', s.run E.P w = .ok (.round l g t a b) w' → Steps E.P m0 (lone (Frame.round l g t a b .normal) (f :: (fs ++ cs0)) w')) :
    ok' = ok ∧ Goes E Pr ρ C C' cs0 m0 := by
  unfold doNx at h
  split at h
  · rename_i v H'
    split at h
    · rename_i fr hfin
      cases h
      obtain ⟨v', w', ρ', h1, h2, h3, h4, h5, h6⟩ := hn
      have hA : ∀ i, AN C.H i → AN H' i := fun i hi => by unfold AN at *; omega
      refine ⟨rfl, ρ', _, hv v' w' h1, ⟨_, fs, w', rfl, finish_sound hfin (hf.mono (fun _ _ h => h) hA h4) h3, hfs.mono (fun _ _ h => h) hA h4, h2⟩, h4, h5, h0.trans h6⟩
    · cases h
  · rename_i g args
    split at h
    · rename_i F hF
      split at h
      · rename_i c hc
        split at h
        · rename_i hlen
          cases h
          obtain ⟨args', h1, h2⟩ := hn
          exact ⟨rfl, ρ, _, he g _ w h1, ⟨_, f :: fs, w, rfl, enter_sound hF hc h2 hlen, .cons hf hfs, hH⟩, fun _ _ => rfl, Nat.le_refl _, h0⟩
        · cases h
      · cases h
    · cases h
  · rename_i l args
    split at h
    · rename_i st pd fn tm nt ps as bd ds hl
      split at h
      · rename_i hc
        cases h
        obtain ⟨args', h1, h2, h3⟩ := hn
        obtain ⟨hA, ho, _⟩ := hH.realL hl (fun _ _ _ h => by cases h)
        obtain ⟨t, g1, g2, g3⟩ := ho
        have hlen : args'.length = ps.size := by rw [← h2.length]; exact hc.1
        have hy := run_yieldA (P := E.P) g1 hlen
        rw [hy] at h1
        refine ⟨rfl, ρ, _, hr _ _ _ _ _ w h1, ⟨_, f :: fs, w, rfl, ⟨rfl, roundTm_sound g2 h2 hc.2, .code _ (.begin (.code _ .nil)), rfl, (by intro d hd; cases hd), rfl, rfl, rfl, ?_⟩, .cons hf hfs, hH⟩, fun _ _ => rfl, Nat.le_refl _, h0⟩
        intro l' hl'
        cases hl'
        exact h3
      · cases h
    · cases h

theorem decide1_sound {orc orc' : Option (List Bool)} {b d : Bool} {ok : List Bool} (h : decide1 orc b = some (d, ok, orc')) (hok : AllT ok) : d = b := by
  unfold decide1 at h
  split at h
  · cases h; rfl
  · cases h
    have := (AllT.cons.1 hok).1
    exact (by simpa using this : b = d).symm
  · cases h

theorem wanted_sound {orc orc' : Option (List Bool)} {fr fr' : AFr} {f : Frame} {ops : Array Oper} {o : Oper} {d : Bool} {ok : List Bool} (h : wantedA orc fr ops o = some (d, ok, orc', fr')) (hok : AllT ok) (hf : FR Pr A ρ fr f) :
    Region.wanted o (yielded ops f.tmps) = d ∧ FR Pr A ρ fr' f ∧ fr'.todo = fr.todo := by
  unfold wantedA at h
  split at h
  · rename_i hg
    cases h
    exact ⟨by simp [Region.wanted, hg], hf, rfl⟩
  · rename_i j want hg
    split at h
    · rename_i t ht
      split at h
      · rename_i b hb
        obtain ⟨v', h1, h2⟩ := hf.tm.get t _ hb
        cases h2
        have hy : yielded ops f.tmps j = some b := by simp [yielded, ht, h1]
        have hw : Region.wanted o (yielded ops f.tmps) = (b == want) := by
          simp only [Region.wanted, hg, hy]
          rfl
        split at h
        · cases h
          exact ⟨hw, hf, rfl⟩
        · split at h
          · rename_i x ok1 orc1 hd
            cases h
            have := decide1_sound hd hok
            subst this
            exact ⟨hw, (hf.turn (dk := fr.dk) (hf.tm.over h1 (.bool x)) hf.todo).dk _, rfl⟩
          · cases h
      · rename_i cs hb
        cases h
        obtain ⟨v', h1, h2⟩ := hf.tm.get t _ hb
        obtain ⟨cs', rfl, _⟩ := h2.tupInv
        refine ⟨?_, hf, rfl⟩
        have hy : yielded ops f.tmps j = none := by simp [yielded, ht, h1]
        simp only [Region.wanted, hg, hy]
        rfl
      · cases h
    · cases h

theorem oper_sound {orc orc' : Option (List Bool)} {ok ok' : List Bool} {C C' : Cfg} {cs0 : List Frame} {f : Frame} {fs : List Frame} {w : World} {ops : Array Oper} {i : Nat} {rest : List Nat} {k : List Item} {o : Oper}
    (h : operA E orc ok C o = some (ok', orc', C')) (hok : AllT ok') (hf : FR Pr (AN C.H) ρ C.fr f) (hfs : FsR Pr (AN C.H) ρ C.cs fs) (hH : HR Pr (AN C.H) ρ C.H w.heap)
    (ht : f.todo = .inRegion ops (i :: rest) :: k) (ho : ops[i]? = some o) (hw : Region.wanted o (yielded ops f.tmps) = true) : AllT ok ∧ Goes E Pr ρ C C' cs0 (lone f (fs ++ cs0) w) := by
  have hm := hf.mode
  unfold operA at h
  split at h
  · rename_i c a b hop
    split at h
    · rename_i x hx
      split at h
      · rename_i d ok1 orc1 hd
        split at h
        · rename_i v hv
          have hnd : ∀ c, o.op ≠ .defer c := by intro c; rw [hop]; simp
          obtain ⟨v', h1, h2⟩ := hf.tm.get c _ hx
          cases h2
          have hrun : AllT ok1 → (execOp (evC f.tmps) o).run E.P w = .ok (.value (evC f.tmps (if d then a else b))) w := by
            intro hok1
            have hdx : d = x := by
              split at hd
              · cases hd; rfl
              · exact decide1_sound hd hok1
            subst hdx
            have : evC f.tmps (.tmp c) = .bool d := by simp [evC, Array.getD_eq_getD_getElem?, h1]
            simp only [execOp, hop, this, asBool, pure_bind]
            cases d <;> rfl
          have hk : ok' = ok1 ++ ok := by
            unfold doNx at h
            split at h <;> rename_i hnx <;> first | (cases hnx; split at h <;> cases h; rfl) | cases hnx
          subst hk
          obtain ⟨k1, k2⟩ := AllT.app.1 hok
          have hev := evalT_sound hf.tm hv
          refine ⟨k2, (doNx_sound (s := execOp (evC f.tmps) o) (Kp.refl w) h hf hfs hH ⟨_, w, ρ, .inl (hrun k1), hH, hev, fun _ _ => rfl, Nat.le_refl _, Kp.refl _⟩ ?_ ?_ ?_).2⟩
          · intro v' w' hr; exact .one (step_value hm ht ho hw hnd hr)
          · intro g args w' hr; exact .one (step_enter hm ht ho hw hnd hr)
          · intro l g t a b w' hr; exact .one (step_round hm ht ho hw hnd hr)
        · cases h
      · cases h
    · cases h
  · cases h
  · rename_i hnp hnd
    have hnd' : ∀ c, o.op ≠ .defer c := by intro c hc; exact hnd c hc
    split at h
    · rename_i b hb
      split at h
      · rename_i ok1 orc1 hd
        have hk : ok' = ok1 ++ ok := by
          unfold doNx at h
          repeat' split at h
          all_goals first | (cases h; rfl) | cases h
        subst hk
        obtain ⟨k1, k2⟩ := AllT.app.1 hok
        have hbt : true = b := decide1_sound hd k1
        rw [← hbt] at hb
        refine ⟨k2, (doNx_sound (Kp.refl w) h hf hfs hH (nilApp_sound hH hf.tm hb) ?_ ?_ ?_).2⟩
        · intro v' w' hr; exact .one (step_value hm ht ho hw hnd' hr)
        · intro g args w' hr; exact .one (step_enter hm ht ho hw hnd' hr)
        · intro l g t a b w' hr; exact .one (step_round hm ht ho hw hnd' hr)
      · rename_i ok1 orc1 hd
        split at h
        · rename_i nx ok2 ha
          have hk : ok' = ok2 ++ (ok1 ++ ok) := by
            unfold doNx at h
            repeat' split at h
            all_goals first | (cases h; rfl) | cases h
          subst hk
          obtain ⟨k1, k2⟩ := AllT.app.1 hok
          obtain ⟨_, k3⟩ := AllT.app.1 k2
          have hnx := aop_sound hH hf.tm ha k1
          refine ⟨k3, (doNx_sound (Kp.refl w) h hf hfs hH hnx ?_ ?_ ?_).2⟩
          · intro v' w' hr; exact .one (step_value hm ht ho hw hnd' hr)
          · intro g args w' hr; exact .one (step_enter hm ht ho hw hnd' hr)
          · intro l g t a b w' hr; exact .one (step_round hm ht ho hw hnd' hr)
        · cases h
      · cases h
    · split at h
      · rename_i nx ok1 ha
        have hk : ok' = ok1 ++ ok := by
          unfold doNx at h
          repeat' split at h
          all_goals first | (cases h; rfl) | cases h
        subst hk
        obtain ⟨k1, k2⟩ := AllT.app.1 hok
        have hnx := aop_sound hH hf.tm ha k1
        refine ⟨k2, (doNx_sound (Kp.refl w) h hf hfs hH hnx ?_ ?_ ?_).2⟩
        · intro v' w' hr; exact .one (step_value hm ht ho hw hnd' hr)
        · intro g args w' hr; exact .one (step_enter hm ht ho hw hnd' hr)
        · intro l g t a b w' hr; exact .one (step_round hm ht ho hw hnd' hr)
      · cases h

end
end Go.Am
