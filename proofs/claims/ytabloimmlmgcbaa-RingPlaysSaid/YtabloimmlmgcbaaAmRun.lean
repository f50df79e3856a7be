/-
  The abstract machine: runs with drawn regions and with calls whose result is known ('contracts'); calls as a whole.
-/
import Derived.Test.YtabloimmlmgcbaaAmDrawF
import Derived.RowKit3
set_option linter.unusedVariables false
set_option linter.unusedSimpArgs false
namespace Go.Am

/-- What a contract tells by decisions: those that were asked for, what must hold, the decisions left, what is handed back. -/
abbrev KRes := Option (List Bool) → Option (List Bool × List Bool × Option (List Bool) × Value × Heap)
abbrev Ctr := FuncId → List Value → Heap → Option KRes
/-- A contract that asks for nothing. -/
abbrev Ctr0 := FuncId → List Value → Heap → Option (List Bool × Value × Heap)

def KOk (E : Env) (K : Ctr) : Prop := ∀ g args H f orc lg ok orc' v H', K g args H = some f → f orc = some (lg, ok, orc', v, H') → AllT ok → CallOk E g args H v H'
def K0Ok (E : Env) (K : Ctr0) : Prop := ∀ g args H ok v H', K g args H = some (ok, v, H') → AllT ok → CallOk E g args H v H'

def noK : Ctr := fun _ _ _ => none
theorem noK_ok {E : Env} : KOk E noK := fun _ _ _ _ _ _ _ _ _ _ h => by cases h
def liftR : Option (List Bool × Value × Heap) → Option KRes
  | some (ok, v, H') => some fun orc => some ([], ok, orc, v, H')
  | none => none
def liftK (K : Ctr0) : Ctr := fun g args H => liftR (K g args H)
theorem liftR_some {r : Option (List Bool × Value × Heap)} {f : KRes} {orc orc' : Option (List Bool)} {lg ok : List Bool} {v : Value} {H' : Heap} (h : liftR r = some f) (hf : f orc = some (lg, ok, orc', v, H')) : r = some (ok, v, H') := by
  unfold liftR at h
  split at h
  · cases h; cases hf; rfl
  · cases h
theorem liftK_ok {E : Env} {K : Ctr0} (h : K0Ok E K) : KOk E (liftK K) := fun g args H f orc lg ok orc' v H' h1 h2 hok => h _ _ _ _ _ _ (liftR_some h1 h2) hok

/-- What a run that is done hands back. -/
def leaveA (E : Env) (C : Cfg) : Option (List Bool × Value × Heap) :=
  if done C then
    match takeDefs C.H C.fr.defers with
    | some H => match resultV H E C.fr with
      | some (v, ok) => some (ok, v, H)
      | none => none
    | none => none
  else none

abbrev Run := Option (List Bool) → List Bool → Cfg → St

def callRun (E : Env) (run : Run) : Caller := fun orc g args H =>
  match E.fn g with
  | some F => match F.body with
    | some c =>
      if args.length ≤ F.ntmps then
        match run orc [] { fr := enterFr g F.ntmps c args, cs := [], H := H } with
        | some (ok, orc', C) => match leaveA E C with
          | some (ok2, v, H') => some (ok2 ++ ok, orc', v, H')
          | none => none
        | none => none
      else none
    | none => none
  | none => none

def callBy (E : Env) (K : Ctr) (run : Run) : Caller := fun orc g args H =>
  match K g args H with
  | some f => match f orc with
    | some (_, ok, orc', v, H') => some (ok, orc', v, H')
    | none => none
  | none => callRun E run orc g args H

/-- A call whose result is known. -/
def kcall (E : Env) (K : Ctr) (orc : Option (List Bool)) (C : Cfg) (ops : Array Oper) (o : Oper) : St :=
  match wantedA orc C.fr ops o with
  | some (true, ok, orc', fr) =>
    match aop E C.H fr.tm o.op with
    | some (.enter g args, ok1) => match K g args C.H with
      | some f => match f orc' with
        | some (_, ok2, orc2, v, H') => match finish fr v with
          | some fr' => some (ok2 ++ (ok1 ++ ok), orc2, { C with fr := fr', H := H' })
          | none => none
        | none => none
      | none => astep E orc C
    | _ => astep E orc C
  | _ => astep E orc C

def xstep (E : Env) (K : Ctr) (R : Caller) (orc : Option (List Bool)) (C : Cfg) : St :=
  match C.fr.todo with
  | .code (.region _ _ true) :: _ => dstepF E R orc C
  | .inRegion ops (i :: _) :: _ =>
    match ops[i]? with
    | some o => match o.op with
      | .call c => match c.callee with
        | .value _ => kcall E K orc C ops o
        | _ => astep E orc C
      | _ => astep E orc C
    | none => none
  | _ => astep E orc C

def xrun (E : Env) (K : Ctr) : Nat → Run
  | 0 => fun orc ok C => some (ok, orc, C)
  | n + 1 => fun orc ok C =>
    match done C with
    | true => some (ok, orc, C)
    | false => match xstep E K (callBy E K (xrun E K n)) orc C with
      | some (ok', orc', C') => xrun E K n orc' (ok' ++ ok) C'
      | none => none

def RunOk (E : Env) (run : Run) : Prop := ∀ orc ok C ok' orc' C', run orc ok C = some (ok', orc', C') → AllT ok' → AllT ok ∧ ∀ Pr ρ cs0 m, CR Pr ρ C cs0 m → Goes E Pr ρ C C' cs0 m

section
variable {E : Env} {K : Ctr}

theorem leaveA_sound {Pr : Prot} {ρ : Nat → Nm} {C : Cfg} {ok : List Bool} {v : Value} {H' : Heap} {cs : List Frame} {m : Machine} (h : leaveA E C = some (ok, v, H')) (hok : AllT ok) (hC : CR Pr ρ C cs m) :
    ∃ fr w' v' fn, Steps E.P m (lone fr cs w') ∧ fr.fn = C.fr.fn ∧ fr.mode = .returning ∧ fr.defers = [] ∧ fr.kind = .normal ∧ E.P.funcs[fr.fn]? = some fn ∧ (results fn fr.tmps).run E.P w' = .ok v' w' ∧
      HR Pr (AN H') ρ H' w'.heap ∧ VR Pr (AN H') ρ v v' ∧ H'.length = C.H.length ∧ Kp m.world w' := by
  unfold leaveA at h
  split at h
  · rename_i hd
    split at h
    · rename_i H htk
      split at h
      · rename_i u ok1 hv
        cases h
        obtain ⟨f, fs, w, rfl, hf, hfs, hH⟩ := hC
        unfold done at hd
        have hcs : C.cs = [] ∧ C.fr.rnd = none ∧ (C.fr.todo = [] ∨ ∃ k, C.fr.todo = .code .ret :: k) := by
          split at hd
          · rename_i h1 h2 h3; exact ⟨h1, h2, .inl h3⟩
          · rename_i h1 h2 h3; exact ⟨h1, h2, .inr ⟨_, h3⟩⟩
          · cases hd
        obtain ⟨h1, h2, h3⟩ := hcs
        rw [h1] at hfs
        cases hfs
        have hro : f.roundOf = none := by rw [hf.rnd, h2]; rfl
        have htd := hf.todo
        have htodo : f.todo = [] ∨ ∃ k, f.todo = .code .ret :: k := by
          rcases h3 with h3 | ⟨k, h3⟩
          · rw [h3] at htd
            generalize hft : f.todo = ft at htd
            cases htd; exact .inl rfl
          · rw [h3] at htd
            generalize hft : f.todo = ft at htd
            cases htd; exact .inr ⟨_, rfl⟩
        obtain ⟨w', s1, s2, s3, s4⟩ := takeDefs_sound (E := E) (f := f) (cs := cs) htk hH
        have hA : AN H' = AN C.H := by unfold AN; rw [s3]
        obtain ⟨fn, v', q1, q2, q3⟩ := resultV_sound (f := f) s2 hf hv hok
        have hdf := hf.defers
        refine ⟨retF f [], w', v', fn, ?_, hf.fn, rfl, rfl, hf.kind, q1, q2, by rw [hA]; exact s2, by rw [hA]; exact q3, s3, s4⟩
        refine (Steps.one (step_leave hf.mode hro htodo)).trans ?_
        rw [hdf]
        exact s1
      · cases h
    · cases h
  · cases h

theorem callRun_sound {run : Run} (hr : RunOk E run) : ROk E (callRun E run) := by
  intro orc g args H ok orc' v H' h hok
  unfold callRun at h
  split at h
  · rename_i F hF
    split at h
    · rename_i c hc
      split at h
      · rename_i hlen
        split at h
        · rename_i ok1 orc1 C hrun
          split at h
          · rename_i ok2 v2 H2 hl
            cases h
            obtain ⟨k2, k1⟩ := AllT.app.1 hok
            intro Pr ρ args' cf cs w hH ha
            obtain ⟨_, hgo⟩ := hr _ _ _ _ _ _ hrun k1
            obtain ⟨ρ1, m1, s1, c1, r1, l1, kp1⟩ := hgo Pr ρ (cf :: cs) (lone (Frame.enter E.P g args'.toArray .normal) (cf :: cs) w) ⟨_, [], w, rfl, enter_sound hF hc ha hlen, .nil, hH⟩
            obtain ⟨fr, w', v', fn, s2, _, hm, hd, hk, hfn, hres, hH2, hv2, hl2, kp2⟩ := leaveA_sound hl k2 c1
            refine ⟨ρ1, v', w', s1.trans (s2.trans (.one ?_)), hH2, hv2, r1, by have : H.length ≤ C.H.length := l1; omega, kp1.trans kp2⟩
            exact step_leave_returned ⟨hm, hd, hk, fn, hfn, hres⟩
          · cases h
        · cases h
      · cases h
    · cases h
  · cases h

theorem callBy_sound (hK : KOk E K) {run : Run} (hr : RunOk E run) : ROk E (callBy E K run) := by
  intro orc g args H ok orc' v H' h hok
  unfold callBy at h
  split at h
  · rename_i f hk
    split at h
    · rename_i lg ok1 orc1 v1 H1 hf
      cases h
      exact hK _ _ _ _ _ _ _ _ _ _ hk hf hok
    · cases h
  · exact callRun_sound hr _ _ _ _ _ _ _ _ h hok

theorem kcall_sound (hK : KOk E K) {Pr : Prot} {ρ : Nat → Nm} {orc orc' : Option (List Bool)} {ok : List Bool} {C C' : Cfg} {cs0 : List Frame} {m : Machine} {ops : Array Oper} {i : Nat} {rest : List Nat} {k : List Item} {o : Oper}
    (hk : C.fr.todo = .inRegion ops (i :: rest) :: k) (ho : ops[i]? = some o) (h : kcall E K orc C ops o = some (ok, orc', C')) (hok : AllT ok) (hC : CR Pr ρ C cs0 m) : Goes E Pr ρ C C' cs0 m := by
  unfold kcall at h
  split at h
  · rename_i ok1 orc1 fr hw
    split at h
    · rename_i g args ok2 ha
      split at h
      · rename_i kf hkk
        split at h
        case h_2 => cases h
        rename_i lg ok3 orc2 v H' hkf
        split at h
        · rename_i fr' hfin
          cases h
          obtain ⟨k3, k2⟩ := AllT.app.1 hok
          obtain ⟨k2, k1⟩ := AllT.app.1 k2
          obtain ⟨f, fs, w, rfl, hf, hfs, hH⟩ := hC
          obtain ⟨w1, w2, w3⟩ := wanted_sound hw k1 hf
          have htd := w2.todo
          rw [w3, hk] at htd
          generalize hft : f.todo = ft at htd
          cases htd with
          | inRegion _ _ t =>
            obtain ⟨args', h1, h2⟩ := aop_sound hH w2.tm ha k2
            have hnd : ∀ c, o.op ≠ .defer c := by
              intro c hc
              rw [hc] at ha
              cases ha
            have hs := step_enter (P := E.P) (cs := fs ++ cs0) w2.mode hft ho w1 hnd h1
            obtain ⟨ρ1, v', w', s1, q1, q2, q3, q4, q5⟩ := hK _ _ _ _ _ _ _ _ _ _ hkk hkf k3 Pr ρ args' f (fs ++ cs0) w hH h2
            have hA : ∀ i, AN C.H i → AN H' i := fun i hi => by unfold AN at *; omega
            exact ⟨ρ1, _, .head hs s1, ⟨_, fs, w', rfl, finish_sound hfin (w2.mono (fun _ _ h => h) hA q3) q2, hfs.mono (fun _ _ h => h) hA q3, q1⟩, q3, q4, q5⟩
        · cases h
      · exact astep_sound h hok hC
    · exact astep_sound h hok hC
  · exact astep_sound h hok hC

theorem xstep_sound (hK : KOk E K) {R : Caller} (hR : ROk E R) {Pr : Prot} {ρ : Nat → Nm} {orc orc' : Option (List Bool)} {ok : List Bool} {C C' : Cfg} {cs0 : List Frame} {m : Machine} (h : xstep E K R orc C = some (ok, orc', C')) (hok : AllT ok) (hC : CR Pr ρ C cs0 m) :
    Goes E Pr ρ C C' cs0 m := by
  unfold xstep at h
  split at h
  · obtain ⟨ok2, h2, h3⟩ := dstepF_eq h hok
    exact dstep_sound hR h2 h3 hC
  · rename_i hk
    split at h
    · rename_i o ho
      split at h
      · split at h
        · exact kcall_sound hK hk ho h hok hC
        · exact astep_sound h hok hC
      · exact astep_sound h hok hC
    · cases h
  · exact astep_sound h hok hC

/-- EVERY RUN. -/
theorem xrun_sound (hK : KOk E K) : ∀ n, RunOk E (xrun E K n)
  | 0 => by
    intro orc ok C ok' orc' C' h hok
    cases h
    exact ⟨hok, fun Pr ρ cs0 m hC => Goes.refl hC⟩
  | n + 1 => by
    have ih := xrun_sound hK n
    intro orc ok C ok' orc' C' h hok
    simp only [xrun] at h
    split at h
    · cases h
      exact ⟨hok, fun Pr ρ cs0 m hC => Goes.refl hC⟩
    · split at h
      · rename_i ok1 orc1 C1 hs
        obtain ⟨k1, k2⟩ := ih _ _ _ _ _ _ h hok
        obtain ⟨k3, k4⟩ := AllT.app.1 k1
        exact ⟨k4, fun Pr ρ cs0 m hC => (xstep_sound hK (callBy_sound hK ih) hs k3 hC).trans fun ρ1 m1 h1 => k2 Pr ρ1 cs0 m1 h1⟩
      · cases h

theorem xcall_sound (hK : KOk E K) {n : Nat} {orc orc' : Option (List Bool)} {g : FuncId} {args : List Value} {H H' : Heap} {ok : List Bool} {v : Value} (h : callRun E (xrun E K n) orc g args H = some (ok, orc', v, H')) (hok : AllT ok) : CallOk E g args H v H' :=
  callRun_sound (xrun_sound hK n) _ _ _ _ _ _ _ _ h hok

/-- Every block there is, kept. -/
def prOf (w : World) : Prot := ⟨fun b => w.heap[b]?, fun b => w.heap[b]?, fun _ _ h => h⟩

/-- Behind the call all that was there is there. -/
def Stays (w w' : World) : Prop := Kp w w' ∧ ∀ (b : Nat) (o : Obj), w.heap[b]? = some o → w'.heap[b]? = some o

/-- The function that a run from a call's beginning is done in. -/
def sameFn (C C' : Cfg) : Bool := decide (C'.fr.fn = C.fr.fn)

def topRun (E : Env) (run : Run) (orc : Option (List Bool)) (g : FuncId) (args : List Value) : Option (List Bool × Value × Heap) :=
  match E.fn g with
  | some F => match F.body with
    | some c =>
      if args.length ≤ F.ntmps then
        match run orc [] { fr := enterFr g F.ntmps c args, cs := [], H := [] } with
        | some (ok, _, C) => match C.fr.fn == g, leaveA E C with
          | true, some (ok2, v, H') => some (ok2 ++ ok, v, H')
          | _, _ => none
        | none => none
      else none
    | none => none
  | none => none

/-- A call from an empty memory of its own: what the machine's call does. -/
theorem topRun_sound {run : Run} (hr : RunOk E run) {orc : Option (List Bool)} {g : FuncId} {args : List Value} {args' : Array Value} {ok : List Bool} {v : Value} {H' : Heap} {w : World} (h : topRun E run orc g args = some (ok, v, H')) (hok : AllT ok)
    (ha : ∀ ρ, VL (prOf w) (AN []) ρ args args'.toList) : Calls E.P g args' w fun e w' => ∃ ρ v', e = .returned v' ∧ VR (prOf w) (AN H') ρ v v' ∧ Stays w w' := by
  intro cs
  unfold topRun at h
  split at h
  · rename_i F hF
    split at h
    · rename_i c hc
      split at h
      · rename_i hlen
        split at h
        · rename_i ok1 orc1 C hrun
          split at h
          · rename_i ok2 v2 H2 hfn hl
            cases h
            obtain ⟨k2, k1⟩ := AllT.app.1 hok
            obtain ⟨_, hgo⟩ := hr _ _ _ _ _ _ hrun k1
            have hH : HR (prOf w) (AN []) (fun _ => ⟨0, 0, 0, none, false⟩) [] w.heap := by
              refine ⟨fun _ => none, fun b o h => h, fun i ob h => ?_, fun i ob h => ?_, fun i _ _ _ h => ?_, fun b i h => ?_⟩
              · simp [getO] at h
              · simp [getO] at h
              · simp [getO] at h
              · cases h
            obtain ⟨ρ1, m1, s1, c1, r1, l1, kp1⟩ := hgo (prOf w) _ cs (lone (Frame.enter E.P g args' .normal) cs w) ⟨_, [], w, rfl, enter_sound hF hc (ha _) hlen, .nil, hH⟩
            obtain ⟨fr, w', v', fn, s2, hfr, hm, hd, hk, hfn2, hres, hH2, hv2, hl2, kp2⟩ := leaveA_sound hl k2 c1
            exact ⟨.returned v', w', fr, ⟨ρ1, v', rfl, hv2, kp1.trans kp2, fun b o h => hH2.pr b o h⟩, s1.trans s2, by rw [hfr]; simpa using hfn, hm, hd, hk, fn, hfn2, hres⟩
          · cases h
        · cases h
      · cases h
    · cases h
  · cases h

end
end Go.Am
