/-
  The abstract machine: returns, rounds, ranges over functions; then: every step, every run.
-/
import Derived.Test.YtabloimmlmgcbaaAmStep
namespace Go.Am
section
variable {E : Env} {Pr : Prot} {A : Nat → Prop} {ρ : Nat → Nm}

/-! ### results -/

theorem resultsOf_sound {H : Heap} {w : World} (hH : HR Pr A ρ H w.heap) {tm : Tm} {nt : Nat} {t : Array Value} (ht : TmR Pr A ρ tm nt t) (g : ResultVar → Sem Value) (hg1 : ∀ i, g (.tmp i) = pure (t.getD i undef)) (hg2 : ∀ a y, g (.cell a y) = do loadVar y (← asAddr (t.getD a undef))) :
    ∀ {l : List ResultVar} {vs : List Value} {ok : List Bool}, resultsOf H E tm l = some (vs, ok) → AllT ok → ∃ vs', (l.mapM g).run E.P w = .ok vs' w ∧ VL Pr A ρ vs vs'
  | [], vs, ok, h, _ => by cases h; exact ⟨[], rfl, .nil⟩
  | .tmp i :: r, vs, ok, h, hok => by
    simp only [resultsOf] at h
    split at h
    · rename_i v us ok1 hv hr
      cases h
      obtain ⟨v', h1, h2⟩ := ht.get i _ hv
      obtain ⟨us', h3, h4⟩ := resultsOf_sound hH ht g hg1 hg2 hr hok
      refine ⟨v' :: us', ?_, .cons h2 h4⟩
      have hg : t.getD i undef = v' := by simp [Array.getD_eq_getD_getElem?, h1]
      simp only [List.mapM_cons, hg1, Sem.run_bind, Sem.run_pure, Result.andThen_ok, h3, hg]
    · cases h
  | .cell a y :: r, vs, ok, h, hok => by
    simp only [resultsOf] at h
    split at h
    · rename_i p hp
      split at h
      · rename_i v H' ok1 us ok2 hv hr
        cases h
        obtain ⟨k1, k2⟩ := AllT.app.1 hok
        obtain ⟨p', h1, h2⟩ := ht.get a _ hp
        obtain ⟨us', h3, h4⟩ := resultsOf_sound hH ht g hg1 hg2 hr k2
        obtain ⟨v', q1, q2, q3⟩ := load_sound hH hv k1 h2
        refine ⟨v' :: us', ?_, .cons q2 h4⟩
        obtain ⟨ad, hp'⟩ : ∃ ad, p' = .pointer (some ad) := by
          unfold loadOp at hv
          split at hv
          · exact h2.pinv
          · exact h2.roinv
          · cases hv
        subst hp'
        simp only [Instr.loadAt, Instr.sureAddr, pure_bind] at q1
        have hg : t.getD a undef = .pointer (some ad) := by simp [Array.getD_eq_getD_getElem?, h1]
        have ha : (asAddr (.pointer (some ad)) : Sem Addr) = pure ad := rfl
        simp only [List.mapM_cons, hg2, Sem.run_bind, Sem.run_pure, Result.andThen_ok, h3, hg, ha, q1]
      · cases h
    · cases h

theorem resultV_sound {H : Heap} {w : World} (hH : HR Pr A ρ H w.heap) {fr : AFr} {f : Frame} (hf : FR Pr A ρ fr f) {v : Value} {ok : List Bool} (h : resultV H E fr = some (v, ok)) (hok : AllT ok) :
    ∃ fn v', E.P.funcs[f.fn]? = some fn ∧ (results fn f.tmps).run E.P w = .ok v' w ∧ VR Pr A ρ v v' := by
  unfold resultV at h
  split at h
  · rename_i F hF
    have hP := E.fnOk _ _ hF
    refine ⟨F, ?_⟩
    have key : ∀ {vs : List Value} {ok : List Bool}, resultsOf H E fr.tm F.results.toList = some (vs, ok) → AllT ok → ∃ vs', (results F f.tmps).run E.P w = .ok (if h : vs'.toArray.size = 1 then vs'.toArray[0] else .tuple vs'.toArray) w ∧ VL Pr A ρ vs vs' := by
      intro vs ok hr hok
      obtain ⟨vs', h1, h2⟩ := resultsOf_sound hH hf.tm (fun
        | .tmp t => pure (f.tmps.getD t undef)
        | .cell a t => do loadVar t (← asAddr (f.tmps.getD a undef))) (fun _ => rfl) (fun _ _ => rfl) hr hok
      refine ⟨vs', ?_, h2⟩
      have he : results F f.tmps = (do
          let vs ← (List.toArray <$> F.results.toList.mapM (fun
            | .tmp t => pure (f.tmps.getD t undef)
            | .cell a t => do loadVar t (← asAddr (f.tmps.getD a undef))))
          pure (if h : vs.size = 1 then vs[0] else .tuple vs)) := by
        unfold results
        rw [Array.mapM_eq_mapM_toList]
        rfl
      rw [he]
      simp only [Sem.run_bind, Sem.run_map, h1, Result.andThen_ok]
      rfl
    rw [hf.fn]
    split at h
    · rename_i u ok1 hr
      cases h
      obtain ⟨vs', h1, h2⟩ := key hr hok
      cases h2 with
      | cons hu ht =>
        cases ht
        exact ⟨_, hP, by simpa using h1, hu⟩
    · rename_i us ok1 hne hr
      cases h
      obtain ⟨vs', h1, h2⟩ := key hr hok
      have hl := h2.length
      have h1' : ¬ vs'.toArray.size = 1 := by
        intro h1
        have : us.length = 1 := by simpa [hl] using h1
        match us, this with
        | [u], _ => exact hne u rfl
      rw [dif_neg h1'] at h1
      exact ⟨_, hP, h1, VR.tupL h2⟩
    · cases h
  · cases h


/-! ### a return -/

/-- The frame about to hand back. -/
def retF (f : Frame) (ds : List Deferred) : Frame := { f with mode := .returning, defers := ds }

theorem step_leave {P : Program} {f : Frame} {cs : List Frame} {w : World} (hm : f.mode = .run) (hr : f.roundOf = none) (ht : f.todo = [] ∨ ∃ k, f.todo = .code .ret :: k) : step P (lone f cs w) = .next (lone (retF f f.defers) cs w) := by
  refine step_lone_go ?_
  rcases ht with ht | ⟨k, ht⟩ <;> simp [stepG, stepG.exec, hm, ht, hr, retF]

theorem step_take {P : Program} {f : Frame} {b : Nat} {ds : List Deferred} {cs : List Frame} {w : World} (h : w.heap[b]? = some (.deferred (some []))) :
    step P (lone (retF f ({ target := .collected b, args := #[] } :: ds)) cs w) = .next (lone (retF f ds) cs { w with heap := w.heap.setIfInBounds b (.deferred none) }) := by
  refine step_lone_go ?_
  simp [stepG, retF, unwind, Instr.takeDeferred, getObj, setObj, Sem.run, h]

theorem takeDefs_sound {f : Frame} {cs : List Frame} : ∀ {l : List Nat} {H H' : Heap} {w : World}, takeDefs H l = some H' → HR Pr A ρ H w.heap →
    ∃ w', Steps E.P (lone (retF f (l.map fun d => { target := .collected (ρ d).blk, args := #[] })) cs w) (lone (retF f []) cs w') ∧ HR Pr A ρ H' w'.heap ∧ H'.length = H.length ∧ Kp w w'
  | [], H, H', w, h, hH => by cases h; exact ⟨w, .refl _ _, hH, rfl, Kp.refl _⟩
  | d :: l, H, H', w, h, hH => by
    simp only [takeDefs] at h
    split at h
    · rename_i hd
      obtain ⟨_, ho, hpr, hph⟩ := hH.realL hd (fun _ _ _ h => by cases h)
      have ho : w.heap[(ρ d).blk]? = some (.deferred (some [])) := ho
      have hH2 : HR Pr A ρ (H.set d (some (.defs false))) ({ w with heap := w.heap.setIfInBounds (ρ d).blk (.deferred none) } : World).heap := by
        refine hH.turn hd hph hpr _ ?_
        show (w.heap.setIfInBounds (ρ d).blk (.deferred none))[(ρ d).blk]? = _
        rw [Array.getElem?_setIfInBounds_self_of_lt (Array.getElem?_eq_some_iff.1 ho).1]
        rfl
      obtain ⟨w', s1, s2, s3, s4⟩ := takeDefs_sound h hH2
      exact ⟨w', .head (step_take ho) s1, s2, by simpa using s3, Kp.trans ⟨rfl, rfl⟩ s4⟩
    · cases h

theorem step_return {P : Program} {f c : Frame} {cs : List Frame} {w : World} {fn : Func} {v : Value} (hk : f.kind = .normal) (hf : P.funcs[f.fn]? = some fn) (hr : (results fn f.tmps).run P w = .ok v w) :
    step P (lone (retF f []) (c :: cs) w) = .next (lone (c.finish v) cs w) := by
  refine step_lone_go ?_
  simp [stepG, retF, unwind, doReturn, hk, hf, hr]

theorem step_endRound {P : Program} {f c : Frame} {cs : List Frame} {w w' : World} {l : Nat} {jump : Option Code} {v : Value} (hm : f.mode = .run) (hk : f.kind = .normal) (hr : f.roundOf = some l)
    (ht : (f.todo = [] ∧ jump = none) ∨ (∃ k, f.todo = .code .ret :: k ∧ jump = some .ret) ∨ (∃ id k, f.todo = .code (.exit id) :: k ∧ exitTo id k = none ∧ jump = some (.exit id))) (he : (Instr.endRound l jump).run P w = .ok v w') :
    step P (lone f (c :: cs) w) = .next (lone (c.finish v) cs w') := by
  refine step_lone_go ?_
  rcases ht with ⟨ht, rfl⟩ | ⟨k, ht, rfl⟩ | ⟨id, k, ht, hx, rfl⟩
  · simp [stepG, stepG.exec, hm, ht, hr, he, doReturn, hk]
  · simp [stepG, stepG.exec, hm, ht, hr, he, doReturn, hk]
  · simp [stepG, stepG.exec, hm, ht, hr, he, doReturn, hk, hx]

theorem loop_turn {H : Heap} {w : World} (hH : HR Pr A ρ H w.heap) {l : Nat} {st st' : LoopState} {pd pd' : Option Code} {fn : FuncId} {tm : Tm} {nt : Nat} {ps : Array Tmp} {as bd : Code} {ds : Nat} (hl : getO H l = some (.loop st pd fn tm nt ps as bd ds)) :
    ∃ r : Loop, w.heap[(ρ l).blk]? = some (.loop r) ∧ r.state = st ∧ r.pending = pd ∧
      HR Pr A ρ (H.set l (some (.loop st' pd' fn tm nt ps as bd ds))) (w.heap.setIfInBounds (ρ l).blk (.loop { r with state := st', pending := pd' })) := by
  obtain ⟨_, ho, hpr, hph⟩ := hH.realL hl (fun _ _ _ h => by cases h)
  obtain ⟨t, g1, g2, g3⟩ := ho
  refine ⟨_, g1, rfl, rfl, hH.turn hl hph hpr _ ⟨t, ?_, g2, g3⟩⟩
  rw [Array.getElem?_setIfInBounds_self_of_lt (Array.getElem?_eq_some_iff.1 g1).1]

theorem back_sound {orc orc' : Option (List Bool)} {ok : List Bool} {C C' : Cfg} {jump : Option Code} {cs0 : List Frame} {f : Frame} {fs : List Frame} {w : World} (h : back E orc C jump = some (ok, orc', C')) (hok : AllT ok)
    (hf : FR Pr (AN C.H) ρ C.fr f) (hfs : FsR Pr (AN C.H) ρ C.cs fs) (hH : HR Pr (AN C.H) ρ C.H w.heap)
    (ht : (f.todo = [] ∧ jump = none) ∨ (∃ k, f.todo = .code .ret :: k ∧ jump = some .ret) ∨ (∃ id k, f.todo = .code (.exit id) :: k ∧ exitTo id k = none ∧ jump = some (.exit id))) : Goes E Pr ρ C C' cs0 (lone f (fs ++ cs0) w) := by
  unfold back at h
  split at h
  · rename_i c cs hr hcs
    rw [hcs] at hfs
    cases hfs with
    | cons hc ht2 =>
    rename_i fc fr0
    have hro : f.roundOf = none := by rw [hf.rnd, hr]; rfl
    have main : (f.todo = [] ∨ ∃ k, f.todo = .code .ret :: k) → (match takeDefs C.H C.fr.defers with
        | some H => match resultV H E C.fr with
          | some (v, ok) => match finish c v with
            | some c' => some (ok, orc, ({ fr := c', cs := cs, H := H } : Cfg))
            | none => none
          | none => none
        | none => none) = some (ok, orc', C') → Goes E Pr ρ C C' cs0 (lone f ((fc :: fr0) ++ cs0) w) := by
      intro htodo h
      split at h
      · rename_i H htk
        split at h
        · rename_i v ok1 hv
          split at h
          · rename_i c' hfin
            cases h
            obtain ⟨w', s1, s2, s3, s4⟩ := takeDefs_sound (E := E) (f := f) (cs := (fc :: fr0) ++ cs0) htk hH
            have hA : AN H = AN C.H := by unfold AN; rw [s3]
            obtain ⟨fn, v', q1, q2, q3⟩ := resultV_sound (f := f) s2 hf hv hok
            have hd := hf.defers
            refine ⟨ρ, _, (Steps.one (step_leave hf.mode hro htodo)).trans ?_, ⟨fc.finish v', fr0, w', rfl, ?_, ?_, ?_⟩, fun _ _ => rfl, (by simp [s3]), s4⟩
            · rw [hd]
              exact s1.trans (.one (step_return hf.kind q1 q2))
            · show FR Pr (AN H) ρ c' _
              rw [hA]
              exact finish_sound hfin hc q3
            · show FsR Pr (AN H) ρ cs _
              rw [hA]; exact ht2
            · show HR Pr (AN H) ρ H _
              rw [hA]; exact s2
          · cases h
        · cases h
      · cases h
    rcases ht with ⟨ht, rfl⟩ | ⟨k, ht, rfl⟩ | ⟨id, k, ht, hx, rfl⟩
    · exact main (.inl ht) h
    · exact main (.inr ⟨k, ht⟩) h
    · cases h
  · rename_i l c cs hr hcs
    rw [hcs] at hfs
    cases hfs with
    | cons hc ht2 =>
    rename_i fc fr0
    split at h
    · rename_i st pd fn tm nt ps as bd ds hl hds
      split at h
      · rename_i c' hfin
        cases h
        have hro : f.roundOf = some (ρ l).blk := by rw [hf.rnd, hr]; rfl
        obtain ⟨r, g1, g2, g3, g4⟩ := loop_turn (st' := if jump.isNone then .ready else .done) (pd' := jump) hH hl
        have he : (Instr.endRound (ρ l).blk jump).run E.P w = .ok (.bool jump.isNone) { w with heap := w.heap.setIfInBounds (ρ l).blk (.loop { r with state := if jump.isNone then .ready else .done, pending := jump }) } := by
          simp [Instr.endRound, Instr.getLoop, getObj, setObj, Sem.run, g1]
        have hA : AN (C.H.set l (some (.loop (if jump.isNone then .ready else .done) jump fn tm nt ps as bd ds))) = AN C.H := AN_set
        refine ⟨ρ, _, .one (step_endRound hf.mode hf.kind hro ht he), ⟨_, fr0, _, rfl, ?_, ?_, ?_⟩, fun _ _ => rfl, (by simp), ⟨rfl, rfl⟩⟩
        · show FR Pr (AN (C.H.set l _)) ρ c' _
          rw [hA]
          exact finish_sound hfin hc (.bool _)
        · show FsR Pr (AN (C.H.set l _)) ρ cs _
          rw [hA]; exact ht2
        · show HR Pr (AN (C.H.set l _)) ρ _ _
          rw [hA]; exact g4
      · cases h
    · cases h
  · cases h


/-! ### ranges over functions -/

theorem step_range {P : Program} {f : Frame} {cs : List Frame} {w w1 : World} {x : Operand} {ps : Array Tmp} {as bd : Code} {k : List Item} {l : Nat} {mark : List Deferred} (hm : f.mode = .run) (ht : f.todo = .code (.rangeFunc x ps as bd) :: k)
    (he : (Instr.enterLoop f.fn f.tmps ps as bd f.roundOf).run P w = .ok (l, mark) w1) :
    (stepG P true { frame := f, callers := cs, status := .running, dying := none } w).bare =
      (stepG.apply P true { f with todo := .inRangeFunc l :: k, defers := mark ++ f.defers } cs none (do let d ← Deferred.ofValue (evC f.tmps x) #[.func (.yield l) #[] #[]]; invoke d.target d.args) w1).bare := by
  simp [stepG, stepG.exec, hm, ht, he, resolve]
  cases x <;> rfl

theorem range_next {P : Program} {f : Frame} {cs : List Frame} {w w1 w2 : World} {x : Operand} {ps : Array Tmp} {as bd : Code} {k : List Item} {l : Nat} {mark : List Deferred} (hm : f.mode = .run) (ht : f.todo = .code (.rangeFunc x ps as bd) :: k)
    (he : (Instr.enterLoop f.fn f.tmps ps as bd f.roundOf).run P w = .ok (l, mark) w1) {n : Next} (hr : (do let d ← Deferred.ofValue (evC f.tmps x) #[.func (.yield l) #[] #[]]; invoke d.target d.args : Sem Next).run P w1 = .ok n w2) :
    (∀ v, n = .value v → step P (lone f cs w) = .next (lone (({ f with todo := .inRangeFunc l :: k, defers := mark ++ f.defers } : Frame).finish v) cs w2)) ∧
    (n = .skip → step P (lone f cs w) = .next (lone (({ f with todo := .inRangeFunc l :: k, defers := mark ++ f.defers } : Frame).finish undef) cs w2)) ∧
    (∀ g args, n = .enter g args → step P (lone f cs w) = .next (lone (Frame.enter P g args .normal) ({ f with todo := .inRangeFunc l :: k, defers := mark ++ f.defers } :: cs) w2)) ∧
    (∀ l' g t a b, n = .round l' g t a b → step P (lone f cs w) = .next (lone (Frame.round l' g t a b .normal) ({ f with todo := .inRangeFunc l :: k, defers := mark ++ f.defers } :: cs) w2)) := by
  have hs := step_range (P := P) (cs := cs) hm ht he
  refine ⟨fun v hn => ?_, fun hn => ?_, fun g args hn => ?_, fun l' g t a b hn => ?_⟩ <;> subst hn <;> refine step_lone_go ?_ <;> rw [hs] <;> simp [stepG.apply, hr]

theorem HR.allocDefs {H : Heap} {hp : Array Obj} (h : HR Pr (AN H) ρ H hp) : HR Pr (AN (slot H (.defs true))) (upd ρ H.length ⟨hp.size, 0, 0, none, false⟩) (slot H (.defs true)) (hp.push (.deferred (some []))) := by
  refine h.alloc _ _ _ rfl rfl ?_
  show (hp.push (.deferred (some [])))[hp.size]? = _
  simp

theorem HR.allocLoop {H : Heap} {hp : Array Obj} (h : HR Pr (AN H) ρ H hp) {fn : FuncId} {tm : Tm} {nt : Nat} {t : Array Value} (ht : TmR Pr (AN H) ρ tm nt t) {ps : Array Tmp} {as bd : Code} {ds : Nat} (hd : AN H ds) :
    HR Pr (AN (slot H (.loop .ready none fn tm nt ps as bd ds))) (upd ρ H.length ⟨hp.size, 0, 0, none, false⟩) (slot H (.loop .ready none fn tm nt ps as bd ds))
      (hp.push (.loop { state := .ready, pending := none, fn := fn, tmps := t, params := ps, assign := as, body := bd, defers := (ρ ds).blk })) := by
  refine h.alloc _ _ _ rfl rfl ⟨t, ?_, ht.mono (fun _ _ h => h) AN_slot (fun i hi => upd_old ρ _ _ hi), AN_slot _ hd⟩
  rw [upd_old ρ _ _ hd]
  simp

theorem callOp_notVal {f : Value} {args : List Value} {nx : Nx} {ok : List Bool} (h : callOp E f args = some (nx, ok)) : ok = [] := by
  unfold callOp at h
  repeat' split at h
  all_goals first | (cases h; rfl) | cases h

/-- EVERY STEP. -/
theorem astep_sound {orc orc' : Option (List Bool)} {ok : List Bool} {C C' : Cfg} {cs0 : List Frame} {m : Machine} (h : astep E orc C = some (ok, orc', C')) (hok : AllT ok) (hC : CR Pr ρ C cs0 m) : Goes E Pr ρ C C' cs0 m := by
  obtain ⟨f, fs, w, rfl, hf, hfs, hH⟩ := hC
  have hm := hf.mode
  have htd := hf.todo
  unfold astep at h
  split at h
  · rename_i hk
    rw [hk] at htd
    generalize hft : f.todo = ft at htd
    cases htd
    exact back_sound h hok hf hfs hH (.inl ⟨hft, rfl⟩)
  · rename_i k hk
    rw [hk] at htd
    generalize hft : f.todo = ft at htd
    cases htd with
    | code _ t => exact back_sound h hok hf hfs hH (.inr (.inl ⟨_, hft, rfl⟩))
  · rename_i k hk
    rw [hk] at htd
    generalize hft : f.todo = ft at htd
    cases htd with
    | code _ t =>
      cases h
      exact Goes.stay hfs hH (.one (step_lone_go (by simp [stepG, stepG.exec, hm, hft]))) (hf.to t)
  · rename_i l k hk
    rw [hk] at htd
    generalize hft : f.todo = ft at htd
    cases htd with
    | code _ t =>
      cases h
      exact Goes.stay hfs hH (.one (step_lone_go (by simp [stepG, stepG.exec, hm, hft]))) (hf.to t)
  · rename_i l k hk
    rw [hk] at htd
    generalize hft : f.todo = ft at htd
    cases htd with
    | inBlock _ t =>
      cases h
      exact Goes.stay hfs hH (.one (step_lone_go (by simp [stepG, stepG.exec, hm, hft]))) (hf.to t)
  · rename_i l k hk
    rw [hk] at htd
    generalize hft : f.todo = ft at htd
    cases htd with
    | inScope _ t =>
      cases h
      exact Goes.stay hfs hH (.one (step_lone_go (by simp [stepG, stepG.exec, hm, hft]))) (hf.to t)
  · rename_i a b k hk
    rw [hk] at htd
    generalize hft : f.todo = ft at htd
    cases htd with
    | code _ t =>
      cases h
      exact Goes.stay hfs hH (.one (step_lone_go (by simp [stepG, stepG.exec, hm, hft]))) (hf.to (.code _ (.code _ t)))
  · rename_i c x y k hk
    rw [hk] at htd
    generalize hft : f.todo = ft at htd
    cases htd with
    | code _ t =>
      split at h
      · rename_i b hb
        split at h
        · rename_i d ok1 orc1 hd
          cases h
          have hdb := decide1_sound hd hok
          subst hdb
          have hev := evalT_sound hf.tm hb
          generalize hvx : evC f.tmps c = vx at hev
          cases hev
          have hev2 : f.eval c = .bool d := by rw [eval_eq]; exact hvx
          exact Goes.stay hfs hH (.one (step_lone_go (by simp [stepG, stepG.exec, hm, hft, hev2]))) (hf.to (dk := []) (.code _ t))
        · cases h
      · cases h
  · rename_i id c k hk
    rw [hk] at htd
    generalize hft : f.todo = ft at htd
    cases htd with
    | code _ t =>
      cases h
      exact Goes.stay hfs hH (.one (step_lone_go (by simp [stepG, stepG.exec, hm, hft]))) (hf.to (.code _ (.inBlock _ t)))
  · rename_i c k hk
    rw [hk] at htd
    generalize hft : f.todo = ft at htd
    cases htd with
    | code _ t =>
      cases h
      exact Goes.stay hfs hH (.one (step_lone_go (by simp [stepG, stepG.exec, hm, hft]))) (hf.to (.code _ (.inLoop _ t)))
  · rename_i c k hk
    rw [hk] at htd
    generalize hft : f.todo = ft at htd
    cases htd with
    | inLoop _ t =>
      cases h
      exact Goes.stay hfs hH (.one (step_lone_go (by simp [stepG, stepG.exec, hm, hft]))) (hf.to (.code _ (.inLoop _ t)))
  · rename_i c k hk
    rw [hk] at htd
    generalize hft : f.todo = ft at htd
    cases htd with
    | code _ t =>
      cases h
      exact Goes.stay hfs hH (.one (step_lone_go (by simp [stepG, stepG.exec, hm, hft]))) (hf.to (.code _ (.inScope _ t)))
  · rename_i id k hk
    rw [hk] at htd
    generalize hft : f.todo = ft at htd
    cases htd with
    | code _ t =>
      obtain ⟨x1, x2⟩ := exitTo_sound (id := id) t
      split at h
      · rename_i k' hx
        cases h
        obtain ⟨r', q1, q2⟩ := x1 _ hx
        exact Goes.stay hfs hH (.one (step_lone_go (by simp [stepG, stepG.exec, hm, hft, q1]))) (hf.to q2)
      · rename_i hx
        exact back_sound h hok hf hfs hH (.inr (.inr ⟨id, _, hft, x2 hx, rfl⟩))
  · rename_i id ops k hk
    rw [hk] at htd
    generalize hft : f.todo = ft at htd
    cases htd with
    | code _ t =>
      cases h
      exact Goes.stay hfs hH (.one (step_lone_go (by simp [stepG, stepG.exec, hm, hft]))) (hf.to (.inRegion _ _ t))
  · rename_i ops k hk
    rw [hk] at htd
    generalize hft : f.todo = ft at htd
    cases htd with
    | inRegion _ _ t =>
      cases h
      exact Goes.stay hfs hH (.one (step_lone_go (by simp [stepG, stepG.exec, hm, hft]))) (hf.to (dk := []) t)
  · rename_i ops i rest k hk
    rw [hk] at htd
    generalize hft : f.todo = ft at htd
    cases htd with
    | inRegion _ _ t =>
      split at h
      · rename_i o ho
        split at h
        · rename_i ok1 orc1 fr1 hw
          have hsplit : ∃ ok2, ok = ok2 ++ ok1 := by
            unfold operA at h
            repeat' split at h
            all_goals first
              | cases h
              | (unfold doNx at h; repeat' split at h
                 all_goals first | (cases h; exact ⟨_, rfl⟩) | (cases h; exact ⟨_, (List.append_assoc _ _ _).symm⟩) | cases h)
          obtain ⟨ok2, rfl⟩ := hsplit
          obtain ⟨_, k1⟩ := AllT.app.1 hok
          obtain ⟨w1, w2, w3⟩ := wanted_sound hw k1 hf
          have := oper_sound (C := { C with fr := fr1 }) (cs0 := cs0) (f := f) (fs := fs) (w := w) h hok w2 hfs hH hft ho w1
          exact this.2
        · rename_i ok1 orc1 fr1 hw
          split at h
          · rename_i fr2 hfin
            cases h
            obtain ⟨w1, w2, w3⟩ := wanted_sound hw hok hf
            exact Goes.stay hfs hH (.one (step_unwanted hm hft ho w1)) (finish_sound hfin w2 VR.undef)
          · cases h
        · cases h
      · cases h
  · rename_i x ps as bd k hk
    rw [hk] at htd
    generalize hft : f.todo = ft at htd
    cases htd with
    | code _ t =>
      rename_i k'
      split at h
      · rename_i v hv hr
        dsimp only at h
        split at h
        · rename_i nx ok1 hc
          have hro : f.roundOf = none := by rw [hf.rnd, hr]; rfl
          have he : (Instr.enterLoop f.fn f.tmps ps as bd f.roundOf).run E.P w = .ok (w.heap.size + 1, [{ target := .collected w.heap.size, args := #[] }])
              { w with heap := (w.heap.push (.deferred (some []))).push (.loop { state := .ready, pending := none, fn := f.fn, tmps := f.tmps, params := ps, assign := as, body := bd, defers := w.heap.size }) } := by
            rw [hro]
            simp [Instr.enterLoop, newObj, Sem.run]
            rfl
          have h1 := hH.allocDefs
          have hA1 : ∀ i, AN C.H i → AN (slot C.H (.defs true)) i := AN_slot
          have hr1 : ∀ i, AN C.H i → upd ρ C.H.length ⟨w.heap.size, 0, 0, none, false⟩ i = ρ i := fun i hi => upd_old ρ _ _ hi
          have hDA : AN (slot C.H (.defs true)) C.H.length := by unfold AN; rw [slot_length]; omega
          have h2 := h1.allocLoop (fn := C.fr.fn) (hf.tm.mono (fun _ _ h => h) hA1 hr1) (ps := ps) (as := as) (bd := bd) hDA
          rw [upd_same] at h2
          simp only [slot_length, Array.size_push] at h2
          let H2 := slot (slot C.H (.defs true)) (.loop .ready none C.fr.fn C.fr.tm C.fr.nt ps as bd C.H.length)
          let ρ2 := upd (upd ρ C.H.length ⟨w.heap.size, 0, 0, none, false⟩) (C.H.length + 1) ⟨w.heap.size + 1, 0, 0, none, false⟩
          have hA2 : ∀ i, AN C.H i → AN H2 i := fun i hi => AN_slot _ (AN_slot _ hi)
          have hr2 : ∀ i, AN C.H i → ρ2 i = ρ i := fun i hi => by
            unfold AN at hi
            show upd _ _ _ i = _
            rw [upd_old _ _ _ (by omega)]
            exact hr1 i hi
          have hl2 : H2.length = C.H.length + 2 := by show (slot (slot C.H _) _).length = _; rw [slot_length, slot_length]
          have hf2 := hf.mono (fun _ _ h => h) hA2 hr2
          have hD2 : (ρ2 C.H.length).blk = w.heap.size := by
            show (upd _ _ _ C.H.length).blk = _
            rw [upd_old _ _ _ (by omega), upd_same]
          have hL2 : (ρ2 (C.H.length + 1)).blk = w.heap.size + 1 := by
            show (upd _ _ _ (C.H.length + 1)).blk = _
            rw [upd_same]
          have hfn := hf.fn
          let f1 : Frame := { f with todo := .inRangeFunc (w.heap.size + 1) :: k', defers := [{ target := .collected w.heap.size, args := #[] }] ++ f.defers }
          let fr1 : AFr := { C.fr with todo := .inRangeFunc (C.H.length + 1) :: k, defers := C.H.length :: C.fr.defers }
          have hf1 : FR Pr (AN H2) ρ2 fr1 f1 := by
            refine ⟨hf2.fn, hf2.tm, ?_, ?_, ?_, hf2.mode, hf2.kind, hf2.rnd, hf2.rA⟩
            · show TodoR (AN H2) ρ2 (.inRangeFunc (C.H.length + 1) :: k) (.inRangeFunc (w.heap.size + 1) :: k')
              rw [← hL2]
              exact .inRange _ (by unfold AN; omega) (t.mono hA2 hr2)
            · show [{ target := .collected w.heap.size, args := #[] }] ++ f.defers = _
              simp only [fr1, List.map_cons, hD2, hf2.defers]
              rfl
            · intro d hd
              rcases List.mem_cons.1 hd with rfl | hd
              · unfold AN; omega
              · exact hf2.dA d hd
          have hvv := (evalT_sound hf.tm hv).mono (Pr' := Pr) (fun _ _ h => h) hA2 hr2
          have hH2 : HR Pr (AN H2) ρ2 H2 ({ w with heap := (w.heap.push (.deferred (some []))).push (.loop { state := .ready, pending := none, fn := f.fn, tmps := f.tmps, params := ps, assign := as, body := bd, defers := w.heap.size }) } : World).heap := by
            rw [hfn]; exact h2
          have hya : VL Pr (AN H2) ρ2 [.func (.yield (C.H.length + 1)) #[] #[]] [.func (.yield (w.heap.size + 1)) #[] #[]] := by
            refine .cons ?_ .nil
            have := VR.yld (Pr := Pr) (A := AN H2) (ρ := ρ2) (C.H.length + 1) #[] #[] #[] #[] (by unfold AN; omega) rfl (by intro k hk; simp at hk)
            rw [hL2] at this
            exact this
          have hnx := callOp_sound (E := E) (H := H2) (w := { w with heap := (w.heap.push (.deferred (some []))).push (.loop { state := .ready, pending := none, fn := f.fn, tmps := f.tmps, params := ps, assign := as, body := bd, defers := w.heap.size }) }) hc hvv hya
          have hgo := doNx_sound (E := E) (C := { C with fr := fr1, H := H2 }) (cs0 := cs0) (m0 := lone f (fs ++ cs0) w) (f := f1) (fs := fs) (by exact ⟨rfl, rfl⟩) h hf1 (hfs.mono (fun _ _ h => h) hA2 hr2) hH2 hnx
            (fun v' w' hr => by
              rcases hr with hr | ⟨hr, rfl⟩
              · exact .one ((range_next hm hft he hr).1 v' rfl)
              · exact .one ((range_next hm hft he hr).2.1 rfl))
            (fun g args w' hr => .one ((range_next hm hft he hr).2.2.1 g args rfl))
            (fun l g t a b w' hr => .one ((range_next hm hft he hr).2.2.2 l g t a b rfl))
          obtain ⟨_, ρ3, m3, s3, c3, r3, l3, k3⟩ := hgo
          refine ⟨ρ3, m3, s3, c3, fun i hi => by rw [r3 i (hA2 i hi), hr2 i hi], ?_, k3⟩
          have : H2.length ≤ C'.H.length := l3
          omega
        · cases h
      · rename_i v l hv hr
        split at h
        · rename_i st0 pd0 fn0 tm0 nt0 ps0 as0 bd0 ds hl
          dsimp only at h
          split at h
          · rename_i nx ok1 hc
            have hro : f.roundOf = some (ρ l).blk := by rw [hf.rnd, hr]; rfl
            obtain ⟨_, ho, _⟩ := hH.realL hl (fun _ _ _ h => by cases h)
            obtain ⟨t0, g1, g2, g3⟩ := ho
            have he : (Instr.enterLoop f.fn f.tmps ps as bd f.roundOf).run E.P w = .ok (w.heap.size, [])
                { w with heap := w.heap.push (.loop { state := .ready, pending := none, fn := f.fn, tmps := f.tmps, params := ps, assign := as, body := bd, defers := (ρ ds).blk }) } := by
              rw [hro]
              simp [Instr.enterLoop, newObj, Instr.getLoop, getObj, Sem.run, g1]
            have h2 := hH.allocLoop (fn := C.fr.fn) hf.tm (ps := ps) (as := as) (bd := bd) g3
            let H2 := slot C.H (.loop .ready none C.fr.fn C.fr.tm C.fr.nt ps as bd ds)
            let ρ2 := upd ρ C.H.length ⟨w.heap.size, 0, 0, none, false⟩
            have hA2 : ∀ i, AN C.H i → AN H2 i := AN_slot
            have hr2 : ∀ i, AN C.H i → ρ2 i = ρ i := fun i hi => upd_old ρ _ _ hi
            have hl2 : H2.length = C.H.length + 1 := slot_length _ _
            have hf2 := hf.mono (fun _ _ h => h) hA2 hr2
            have hL2 : (ρ2 C.H.length).blk = w.heap.size := by
              show (upd _ _ _ C.H.length).blk = _
              rw [upd_same]
            have hfn := hf.fn
            let f1 : Frame := { f with todo := .inRangeFunc w.heap.size :: k', defers := [] ++ f.defers }
            let fr1 : AFr := { C.fr with todo := .inRangeFunc C.H.length :: k }
            have hf1 : FR Pr (AN H2) ρ2 fr1 f1 := by
              refine ⟨hf2.fn, hf2.tm, ?_, hf2.defers, hf2.dA, hf2.mode, hf2.kind, hf2.rnd, hf2.rA⟩
              show TodoR (AN H2) ρ2 (.inRangeFunc C.H.length :: k) (.inRangeFunc w.heap.size :: k')
              rw [← hL2]
              exact .inRange _ (by unfold AN; omega) (t.mono hA2 hr2)
            have hvv := (evalT_sound hf.tm hv).mono (Pr' := Pr) (fun _ _ h => h) hA2 hr2
            have hH2 : HR Pr (AN H2) ρ2 H2 ({ w with heap := w.heap.push (.loop { state := .ready, pending := none, fn := f.fn, tmps := f.tmps, params := ps, assign := as, body := bd, defers := (ρ ds).blk }) } : World).heap := by
              rw [hfn]; exact h2
            have hya : VL Pr (AN H2) ρ2 [.func (.yield C.H.length) #[] #[]] [.func (.yield w.heap.size) #[] #[]] := by
              refine .cons ?_ .nil
              have := VR.yld (Pr := Pr) (A := AN H2) (ρ := ρ2) C.H.length #[] #[] #[] #[] (by unfold AN; omega) rfl (by intro k hk; simp at hk)
              rw [hL2] at this
              exact this
            have hnx := callOp_sound (E := E) (H := H2) (w := { w with heap := w.heap.push (.loop { state := .ready, pending := none, fn := f.fn, tmps := f.tmps, params := ps, assign := as, body := bd, defers := (ρ ds).blk }) }) hc hvv hya
            have hgo := doNx_sound (E := E) (C := { C with fr := fr1, H := H2 }) (cs0 := cs0) (m0 := lone f (fs ++ cs0) w) (f := f1) (fs := fs) (by exact ⟨rfl, rfl⟩) h hf1 (hfs.mono (fun _ _ h => h) hA2 hr2) hH2 hnx
              (fun v' w' hr => by
                rcases hr with hr | ⟨hr, rfl⟩
                · exact .one ((range_next hm hft he hr).1 v' rfl)
                · exact .one ((range_next hm hft he hr).2.1 rfl))
              (fun g args w' hr => .one ((range_next hm hft he hr).2.2.1 g args rfl))
              (fun l g t a b w' hr => .one ((range_next hm hft he hr).2.2.2 l g t a b rfl))
            obtain ⟨_, ρ3, m3, s3, c3, r3, l3, k3⟩ := hgo
            refine ⟨ρ3, m3, s3, c3, fun i hi => by rw [r3 i (hA2 i hi), hr2 i hi], ?_, k3⟩
            have : H2.length ≤ C'.H.length := l3
            omega
          · cases h
        · cases h
      · cases h
  · rename_i k hk
    rw [hk] at htd
    generalize hft : f.todo = ft at htd
    cases htd with
    | begin t =>
      rename_i k'
      split at h
      · rename_i l hr
        split at h
        · rename_i pd fn tm nt ps as bd ds hl
          cases h
          have hro : f.roundOf = some (ρ l).blk := by rw [hf.rnd, hr]; rfl
          obtain ⟨r, g1, g2, g3, g4⟩ := loop_turn (st' := .busy) (pd' := pd) hH hl
          have hb : (Instr.beginRound (ρ l).blk).run E.P w = .ok () { w with heap := w.heap.setIfInBounds (ρ l).blk (.loop { r with state := .busy, pending := pd }) } := by
            have : ({ r with state := .busy, pending := pd } : Loop) = { r with state := .busy } := by rw [← g3]
            rw [this]
            simp [Instr.beginRound, Instr.getLoop, getObj, setObj, Sem.run, g1, g2]
          have hs : step E.P (lone f (fs ++ cs0) w) = .next (lone { f with todo := k' } (fs ++ cs0) { w with heap := w.heap.setIfInBounds (ρ l).blk (.loop { r with state := .busy, pending := pd }) }) := by
            refine step_lone_go ?_
            simp [stepG, stepG.exec, hm, hft, hro, stepG.apply, hb, Frame.finish]
          refine ⟨ρ, _, .one hs, ⟨_, fs, _, rfl, ?_, ?_, ?_⟩, fun _ _ => rfl, (by simp), ⟨rfl, rfl⟩⟩
          · show FR Pr (AN (C.H.set l _)) ρ _ _
            rw [AN_set]; exact hf.to t
          · show FsR Pr (AN (C.H.set l _)) ρ _ _
            rw [AN_set]; exact hfs
          · show HR Pr (AN (C.H.set l _)) ρ _ _
            rw [AN_set]; exact g4
        · cases h
      · cases h
  · rename_i l k hk
    rw [hk] at htd
    generalize hft : f.todo = ft at htd
    cases htd with
    | endRange _ hlA t =>
      rename_i k'
      split at h
      · rename_i st pd fn tm nt ps as bd ds hl
        have main : st ≠ .busy → (some ([], orc, ({ C with fr := { C.fr with todo := pendItems pd ++ k }, H := C.H.set l (some (.loop .exhausted pd fn tm nt ps as bd ds)) } : Cfg)) : St) = some (ok, orc', C') → Goes E Pr ρ C C' cs0 (lone f (fs ++ cs0) w) := by
          intro hst h
          cases h
          obtain ⟨r, g1, g2, g3, g4⟩ := loop_turn (st' := .exhausted) (pd' := pd) hH hl
          have hst' : r.state ≠ LoopState.busy := by rw [g2]; exact hst
          have hb : (Instr.endLoop (ρ l).blk).run E.P w = .ok pd { w with heap := w.heap.setIfInBounds (ρ l).blk (.loop { r with state := .exhausted, pending := pd }) } := by
            have : ({ r with state := .exhausted, pending := pd } : Loop) = { r with state := .exhausted } := by rw [← g3]
            rw [this]
            simp [Instr.endLoop, Instr.getLoop, getObj, setObj, Sem.run, g1, hst', g3]
          have hs : step E.P (lone f (fs ++ cs0) w) = .next (lone { f with todo := (pd.map Item.code).toList ++ k' } (fs ++ cs0) { w with heap := w.heap.setIfInBounds (ρ l).blk (.loop { r with state := .exhausted, pending := pd }) }) := by
            refine step_lone_go ?_
            simp [stepG, stepG.exec, hm, hft, hb]
          refine ⟨ρ, _, .one hs, ⟨_, fs, _, rfl, ?_, ?_, ?_⟩, fun _ _ => rfl, (by simp), ⟨rfl, rfl⟩⟩
          · show FR Pr (AN (C.H.set l _)) ρ _ _
            rw [AN_set]
            refine hf.to ?_
            cases pd with
            | none => exact t
            | some c => exact .code c t
          · show FsR Pr (AN (C.H.set l _)) ρ _ _
            rw [AN_set]; exact hfs
          · show HR Pr (AN (C.H.set l _)) ρ _ _
            rw [AN_set]; exact g4
        split at h
        · cases h
        · rename_i hst
          exact main hst h
      · cases h
  · cases h

theorem arun_ok : ∀ {n : Nat} {orc orc' : Option (List Bool)} {ok ok' : List Bool} {C C' : Cfg}, arun E n orc ok C = some (ok', orc', C') → AllT ok' → AllT ok
  | 0, orc, orc', ok, ok', C, C', h, hok => by cases h; exact hok
  | n + 1, orc, orc', ok, ok', C, C', h, hok => by
    simp only [arun] at h
    split at h
    · cases h; exact hok
    · split at h
      · exact (AllT.app.1 (arun_ok h hok)).2
      · cases h

/-- EVERY RUN. -/
theorem arun_sound : ∀ {n : Nat} {orc orc' : Option (List Bool)} {ok ok' : List Bool} {C C' : Cfg} {cs0 : List Frame} {ρ : Nat → Nm} {m : Machine}, arun E n orc ok C = some (ok', orc', C') → AllT ok' → CR Pr ρ C cs0 m → Goes E Pr ρ C C' cs0 m
  | 0, orc, orc', ok, ok', C, C', cs0, ρ, m, h, hok, hC => by cases h; exact Goes.refl hC
  | n + 1, orc, orc', ok, ok', C, C', cs0, ρ, m, h, hok, hC => by
    simp only [arun] at h
    split at h
    · cases h; exact Goes.refl hC
    · split at h
      · rename_i ok1 orc1 C1 hs
        obtain ⟨k1, k2⟩ := AllT.app.1 (arun_ok h hok)
        exact (astep_sound hs k1 hC).trans fun ρ1 m1 h1 => arun_sound h hok h1
      · cases h

end
end Go.Am
