/-
  The abstract machine: every operation against the model's.
-/
import Derived.Test.YtabloimmlmgcbaaAmOps7
namespace Go.Am
section
variable {E : Env} {Pr : Prot} {ρ : Nat → Nm}

def evC (t : Array Value) : Operand → Value
  | .tmp i => t.getD i undef
  | .const v => v
  | .global g => .pointer (some ⟨g, 0, none⟩)
  | .func f => .func (.func f) #[] #[]

theorem eval_eq (f : Frame) : f.eval = evC f.tmps := funext fun x => by cases x <;> rfl

theorem evalT_sound {A : Nat → Prop} {tm : Tm} {nt : Nat} {t : Array Value} (h : TmR Pr A ρ tm nt t) {x : Operand} {v : Value} (he : evalT tm x = some v) : VR Pr A ρ v (evC t x) := by
  cases x with
  | tmp i =>
    obtain ⟨v', h1, h2⟩ := h.get i v he
    simpa [evC, Array.getD_eq_getD_getElem?, h1] using h2
  | const c =>
    simp only [evalT] at he
    split at he
    · rename_i hc; cases he; exact VR.const hc
    · cases he
  | global g => cases he
  | func f =>
    cases he
    exact .func f _ _ _ _ rfl rfl (by intro k hk; simp at hk) (by intro k hk; simp at hk)

theorem evalL_sound {A : Nat → Prop} {tm : Tm} {nt : Nat} {t : Array Value} (h : TmR Pr A ρ tm nt t) : ∀ {l : List Operand} {vs : List Value}, evalL tm l = some vs → VL Pr A ρ vs (l.map (evC t))
  | [], vs, he => by cases he; exact .nil
  | x :: l, vs, he => by
    simp only [evalL] at he
    split at he
    · rename_i v us h1 h2
      cases he
      exact .cons (evalT_sound h h1) (evalL_sound h h2)
    · cases he

theorem evalP_sound {A : Nat → Prop} {tm : Tm} {nt : Nat} {t : Array Value} (h : TmR Pr A ρ tm nt t) : ∀ {l : List (Nat × Operand)} {vs : List (Nat × Value)}, evalP tm l = some vs → PL Pr A ρ vs (l.map fun p => (p.1, evC t p.2))
  | [], vs, he => by cases he; exact .nil
  | (i, x) :: l, vs, he => by
    simp only [evalP] at he
    split at he
    · rename_i v us h1 h2
      cases he
      exact .cons i (evalT_sound h h1) (evalP_sound h h2)
    · cases he

theorem evalO_sound {A : Nat → Prop} {tm : Tm} {nt : Nat} {t : Array Value} (h : TmR Pr A ρ tm nt t) {x : Option Operand} {v : Option Value} (he : evalO tm x = some v) : OVR Pr A ρ v (x.map (evC t)) := by
  cases x with
  | none => cases he; exact .none
  | some x =>
    simp only [evalO] at he
    split at he
    · rename_i u hu; cases he; exact .some (evalT_sound h hu)
    · cases he

/-- What an operation has done. -/
def DidN (E : Env) (Pr : Prot) (ρ : Nat → Nm) (H : Heap) (w : World) (s : Sem Next) (v : Value) (H' : Heap) : Prop :=
  ∃ v' w' ρ', (s.run E.P w = .ok (.value v') w' ∨ (s.run E.P w = .ok .skip w' ∧ v' = undef)) ∧ HR Pr (AN H') ρ' H' w'.heap ∧ VR Pr (AN H') ρ' v v' ∧ (∀ i, AN H i → ρ' i = ρ i) ∧ H.length ≤ H'.length ∧ Kp w w'

def NxOk (E : Env) (Pr : Prot) (ρ : Nat → Nm) (H : Heap) (w : World) (s : Sem Next) : Nx → Prop
  | .val v H' => DidN E Pr ρ H w s v H'
  | .enter g args => ∃ args', s.run E.P w = .ok (.enter g args'.toArray) w ∧ VL Pr (AN H) ρ args args'
  | .yield l args => ∃ args', s.run E.P w = (Instr.yield (ρ l).blk args'.toArray).run E.P w ∧ VL Pr (AN H) ρ args args' ∧ AN H l

theorem DidN.of {H : Heap} {w : World} {s : Sem Value} {v : Value} {H' : Heap} (h : Did E Pr ρ H w s v H') : DidN E Pr ρ H w (do pure (.value (← s))) v H' := by
  obtain ⟨v', w', ρ', h1, h2⟩ := h
  exact ⟨v', w', ρ', .inl (by simp [h1]), h2⟩

theorem DidN.same {H : Heap} {w : World} (hH : HR Pr (AN H) ρ H w.heap) {s : Sem Value} {v v' : Value} {H' : Heap} (h : s.run E.P w = .ok v' w ∧ VR Pr (AN H) ρ v v' ∧ H' = H) : DidN E Pr ρ H w (do pure (.value (← s))) v H' := by
  obtain ⟨h1, h2, rfl⟩ := h
  exact DidN.of (Did.same hH h1 h2)

theorem run_callFunc {g : FuncId} {F : Func} (hF : E.fn g = some F) (hb : F.body.isSome = true) (args : Array Value) (w : World) : (callFunc g args).run E.P w = .ok (.enter g args) w := by
  have h1 := E.fnOk g F hF
  have h2 := E.fnName g F hF
  have h3 : F.body.isNone = false := by
    cases hx : F.body with
    | none => rw [hx] at hb; cases hb
    | some _ => rfl
  simp only [callFunc, program, Sem.run_bind, Sem.run, Result.andThen_ok, h1, h2, h3]
  rfl

theorem callOp_sound {H : Heap} {w : World} {f f' : Value} {args args' : List Value} {nx : Nx} {ok : List Bool} (h : callOp E f args = some (nx, ok)) (hf : VR Pr (AN H) ρ f f') (ha : VL Pr (AN H) ρ args args') :
    NxOk E Pr ρ H w (do let d ← Deferred.ofValue f' args'.toArray; invoke d.target d.args) nx := by
  unfold callOp at h
  split at h
  · rename_i g first caps
    split at h
    · rename_i F hF
      split at h
      · rename_i hb
        cases h
        cases hf with
        | func _ _ _ fs' cs' h1 h2 h3 h4 =>
          refine ⟨fs'.toList ++ args' ++ cs'.toList, ?_, ((VL.toArray h1 h3).append ha).append (VL.toArray h2 h4)⟩
          have := run_callFunc hF hb (fs' ++ args'.toArray ++ cs') w
          simp only [Deferred.ofValue, pure_bind, invoke]
          rw [this]
          congr 2
          apply Array.ext'
          simp
      · cases h
    · cases h
  · rename_i l first caps
    cases h
    cases hf with
    | yld _ _ _ fs' cs' hl h1 h3 =>
      refine ⟨fs'.toList ++ args', ?_, (VL.toArray h1 h3).append ha, hl⟩
      simp only [Deferred.ofValue, pure_bind, invoke]
      have : fs' ++ args'.toArray = (fs'.toList ++ args').toArray := by
        apply Array.ext'
        simp
      rw [this]
  · cases h

theorem run_ext {g : FuncId} {F : Func} (hF : E.P.funcs[g]? = some F) (hn : (F.name == "runtime.NumGoroutine") = false) (hb : F.body = none) (hx : Extern.findNext F = none) {e : Array Value → Sem Value} (he : Extern.find F = some e) (args : Array Value) (w : World) :
    (callFunc g args).run E.P w = (do pure (.value (← e args)) : Sem Next).run E.P w := by
  have hn' : ¬ F.name = "runtime.NumGoroutine" := by simpa using hn
  simp [callFunc, run_program, hF, hn', hb, hx, he, mark, Sem.run]

theorem digits_size : ∀ (n t : Nat) (acc : Array Value), (Extern.BytealgMakeNoZero.digits n t acc).size = acc.size + n
  | 0, t, acc => rfl
  | n + 1, t, acc => by
    rw [Extern.BytealgMakeNoZero.digits, digits_size n]
    simp; omega

theorem extOp_sound {H : Heap} {w : World} (hH : HR Pr (AN H) ρ H w.heap) {f f' : Value} {args args' : List Value} {nx : Nx} {ok : List Bool} (h : extOp E H f args = some (nx, ok)) (hok : AllT ok) (hf : VR Pr (AN H) ρ f f') (ha : VL Pr (AN H) ρ args args') :
    NxOk E Pr ρ H w (do let d ← Deferred.ofValue f' args'.toArray; invoke d.target d.args) nx := by
  unfold extOp at h
  split at h
  · rename_i g first caps
    cases hf with
    | func _ _ _ fs' cs' h1 h2 h3 h4 =>
      have hall := ((VL.toArray h1 h3).append ha).append (VL.toArray h2 h4)
      have hto : (fs' ++ args'.toArray ++ cs') = (fs'.toList ++ args' ++ cs'.toList).toArray := by
        apply Array.ext'
        simp
      split at h
      · rename_i x he hl
        cases h
        obtain ⟨F, q1, q2, q3, q4, q5⟩ := E.extOk g _ he
        rw [hl] at hall
        generalize fs'.toList ++ args' ++ cs'.toList = L at hall hto
        cases hall with
        | cons hx ht =>
          cases ht
          rename_i x'
          have hr := run_ext q1 q2 q3 q4 q5 #[x'] w
          refine ⟨x', w, ρ, .inl ?_, hH, hx, fun _ _ => rfl, Nat.le_refl _, Kp.refl _⟩
          simp only [Deferred.ofValue, pure_bind, invoke]
          rw [hto, hr]
          rfl
      · rename_i e n he hl
        cases h
        obtain ⟨F, q1, q2, q3, q4, q5, t, q6, q7⟩ := E.extOk g _ he
        obtain ⟨k1, k2⟩ := AllT.cons.1 hok
        have k1 : 0 ≤ n := by simpa using k1
        have k2 : n ≤ 281474976710656 := by simpa using (AllT.cons.1 k2).1
        rw [hl] at hall
        generalize fs'.toList ++ args' ++ cs'.toList = L at hall hto
        cases hall with
        | cons hx ht =>
          cases ht
          cases hx
          have hr := run_ext q1 q2 q3 q4 q5 #[.int .i64 n] w
          have hneg : ¬ (n < 0) := by omega
          have hneg2 : ¬ (281474976710656 < n) := by omega
          have hm : n.toNat ≤ maxLen := by simp [maxLen]; omega
          have c1 := grownCap_ge w n.toNat 0 e
          have c2 := grownCap_le_maxLen w n.toNat 0 e hm
          have hun : ∀ v : World, (underlying t).run E.P v = .ok (.slice e) v := fun v => run_underlying q7 v
          obtain ⟨w1, c, hk, hw1, hsz, hrun⟩ : ∃ (w1 : World) (c : Array Value), Kp w w1 ∧ w1.heap = w.heap ∧ c.size = grownCap w n.toNat 0 e ∧
              (Extern.BytealgMakeNoZero.makeNoZero F.params F.resultTypes #[.int .i64 n]).run E.P w = .ok (.slice (some ⟨w1.heap.size, 0, none⟩) n.toNat (grownCap w n.toNat 0 e)) (w1.alloc (.cells c e)) := by
            refine ⟨w.drew.drew, Extern.BytealgMakeNoZero.digits (grownCap w n.toNat 0 e) (Question.cut (.extern "internal/bytealg.MakeNoZero.bytes" 0) (w.drew.tape w.drew.drawn (.extern "internal/bytealg.MakeNoZero.bytes" 0))) #[], ⟨rfl, rfl⟩, rfl, by rw [digits_size]; simp, ?_⟩
            have hdef : Extern.BytealgMakeNoZero.makeNoZero F.params F.resultTypes #[.int .i64 n] = (do
                let some t := F.resultTypes[0]? | stuck "bytealg.MakeNoZero: no result type"
                let .slice elem ← underlying t | stuck "bytealg.MakeNoZero: slice type expected"
                if n < 0 || n > 2 ^ 48 then runtimePanic (.error "makeslice: len out of range")
                let cap ← choose (.appendCap n.toNat 0 elem)
                askRoom cap
                let bytes ← choose (.extern "internal/bytealg.MakeNoZero.bytes" 0)
                let a ← newRow elem (Extern.BytealgMakeNoZero.digits cap bytes #[])
                pure (.slice (some a) n.toNat cap)) := rfl
            rw [hdef]
            simp [q6, hun, hneg, hneg2, Question.forced, grownCap, newRow, askRoom]
          have hH1 : HR Pr (AN H) ρ H w1.heap := by rw [hw1]; exact hH
          have hn := hH1.newCells (cs := []) (cs' := []) .nil c.toList e (some 1) (0, 0) (by intro k _; simp) (by intro h; cases h)
          have e1 : ([] ++ c.toList).toArray = c := by simp
          rw [e1] at hn
          refine ⟨_, w1.alloc (.cells c e), _, .inl ?_, hn, VR.newSlf c1 (by simp [hsz]) c2, fun i hi => upd_old ρ _ _ hi, (by rw [slot_length]; omega), hk.trans ⟨rfl, rfl⟩⟩
          simp only [Deferred.ofValue, pure_bind, invoke]
          rw [hto, hr]
          simp only [Sem.run_bind, hrun, Result.andThen_ok]
          rfl
      · cases h
  · cases h

/-! every helper hands back a value -/
def IsVal (r : Res) : Prop := ∀ nx ok, r = some (nx, ok) → ∃ v H', nx = .val v H'
theorem IsVal.none : IsVal none := fun _ _ h => by cases h
theorem IsVal.some (v : Value) (H : Heap) (ok : List Bool) : IsVal (some (.val v H, ok)) := fun _ _ h => by cases h; exact ⟨_, _, rfl⟩
theorem IsVal.ite {c : Prop} [Decidable c] {a b : Res} (ha : IsVal a) (hb : IsVal b) : IsVal (if c then a else b) := by split <;> assumption
theorem IsVal.more {ok : List Bool} {r : Res} (h : IsVal r) : IsVal (more ok r) := by
  intro nx ok' he
  cases r with
  | none => cases he
  | some p =>
    obtain ⟨n, o⟩ := p
    simp only [Am.more, Option.some.injEq, Prod.mk.injEq] at he
    obtain ⟨rfl, rfl⟩ := he
    exact h _ _ rfl
theorem IsVal.append1 (H : Heap) (e : TypeId) (i : TI) (s : Value) (m : Nat) (news : List Value) : IsVal (append1 H e i s m news) := by
  unfold Am.append1
  repeat' split
  all_goals first | exact .none | exact .some _ _ _
theorem IsVal.appendOp (H : Heap) (t u : TypeId) (s x : Value) : IsVal (appendOp E H t u s x) := by
  unfold Am.appendOp
  repeat' split
  all_goals first | exact .none | exact (IsVal.append1 _ _ _ _ _ _).more
theorem IsVal.copyOp (H : Heap) (t : TypeId) (s x : Value) : IsVal (copyOp E H t s x) := by
  unfold Am.copyOp
  repeat' split
  all_goals first | exact .none | exact .some _ _ _
theorem IsVal.clearOp (H : Heap) (t : TypeId) (x : Value) : IsVal (clearOp E H t x) := by
  unfold Am.clearOp
  repeat' split
  all_goals first | exact .none | exact .some _ _ _
theorem IsVal.makeOp (H : Heap) (t : TypeId) (s x : Value) : IsVal (makeOp E H t s x) := by
  unfold Am.makeOp
  repeat' split
  all_goals first | exact .none | exact .some _ _ _
theorem IsVal.storeOp (H : Heap) (t : TypeId) (s x : Value) : IsVal (storeOp E H t s x) := by
  unfold Am.storeOp
  repeat' split
  all_goals first | exact .none | exact .some _ _ _
theorem IsVal.loadOp (H : Heap) (t : TypeId) (s : Value) : IsVal (loadOp E H t s) := by
  unfold Am.loadOp
  repeat' split
  all_goals first | exact .none | exact .some _ _ _
theorem IsVal.faddrOp (H : Heap) (t : TypeId) (s : Value) (f : Nat) : IsVal (faddrOp E H t s f) := by
  unfold Am.faddrOp
  repeat' split
  all_goals first | exact .none | exact .some _ _ _
theorem IsVal.fieldOp (H : Heap) (t : TypeId) (s : Value) (f : Nat) : IsVal (fieldOp E H t s f) := by
  unfold Am.fieldOp
  repeat' split
  all_goals first | exact .none | exact .some _ _ _
theorem IsVal.iaddrOp (H : Heap) (t : TypeId) (s x : Value) : IsVal (iaddrOp E H t s x) := by
  unfold Am.iaddrOp
  repeat' split
  all_goals first | exact .none | exact .some _ _ _
theorem IsVal.indexOp (H : Heap) (t : TypeId) (s x : Value) : IsVal (indexOp E H t s x) := by
  unfold Am.indexOp
  repeat' split
  all_goals first | exact .none | exact .some _ _ _
theorem IsVal.sliceOp (H : Heap) (t : TypeId) (s : Value) (x y : Option Value) : IsVal (sliceOp E H t s x y) := by
  unfold Am.sliceOp
  repeat' split
  all_goals first | exact .none | exact .some _ _ _
theorem IsVal.convOp (H : Heap) (t u : TypeId) (s : Value) : IsVal (convOp E H t u s) := by
  unfold Am.convOp
  repeat' split
  all_goals first | exact .none | exact .some _ _ _
theorem IsVal.buildOp (H : Heap) (t : TypeId) (l : List (Nat × Value)) : IsVal (buildOp E H t l) := by
  unfold Am.buildOp
  repeat' split
  all_goals first | exact .none | exact .some _ _ _
theorem IsVal.buildSOp (H : Heap) (t : TypeId) (n : Nat) (l : List (Nat × Value)) : IsVal (buildSOp E H t n l) := by
  unfold Am.buildSOp
  repeat' split
  all_goals first | exact .none | exact .some _ _ _

theorem len1 {α : Type} {a : Array α} {x : α} (h : a.toList = [x]) : a = #[x] := by apply Array.ext'; simpa using h
theorem len2 {α : Type} {a : Array α} {x y : α} (h : a.toList = [x, y]) : a = #[x, y] := by apply Array.ext'; simpa using h

theorem run_loadBytes (P : Program) (w : World) : ∀ (l : List Int) (a : Addr) (acc : ByteArray), (∀ k, k < l.length → w.cell? (a.add k) = some (.int .u8 (l.getD k 0))) →
    (loadBytes a acc l.length).run P w = .ok (l.foldl (fun r n => r.push n.toNat.toUInt8) acc) w
  | [], a, acc, _ => rfl
  | n :: l, a, acc, h => by
    have h0 := h 0 (by simp)
    have hadd : a.add 0 = a := by cases a; rfl
    rw [hadd] at h0
    have ih := run_loadBytes P w l (a.add 1) (acc.push n.toNat.toUInt8) fun k hk => by
      have := h (k + 1) (by simpa using hk)
      have e : (a.add 1).add k = a.add (k + 1) := by simp [Addr.add, Nat.add_assoc, Nat.add_comm 1 k]
      rw [e]
      simpa using this
    simp only [List.length_cons, loadBytes, Sem.run_bind, List.foldl_cons]
    simp only [load, Sem.run, h0, List.getD_cons_zero, Result.andThen_ok]
    exact ih

theorem HR.killAny {A : Nat → Prop} {H : Heap} {hp hp' : Array Obj} (h : HR Pr A ρ H hp) {b : Nat} {ob : Ob} (hb : getO H b = some ob) (hbq : (ρ b).ph = false) (hbp : Pr.keep (ρ b).blk = none) (hs : ∀ i, i ≠ (ρ b).blk → hp'[i]? = hp[i]?) (hnl : plainB ob = true := by rfl) : HR Pr A ρ (H.set b none) hp' := by
  have hg : ∀ i o, getO (H.set b none) i = some o → getO H i = some o ∧ b ≠ i := by
    intro i o hi
    by_cases hbi : b = i
    · subst hbi
      rw [getO_set_same hb] at hi; cases hi
    · rw [getO_set_other hbi] at hi; exact ⟨hi, hbi⟩
  obtain ⟨own, h⟩ := h
  obtain ⟨hob, _⟩ := h.blk_lt hb (plainB_fro hnl) hbq
  have hne : ∀ i, b ≠ i → ∀ c, own c = some i → c ≠ (ρ b).blk := fun i hi c hc e => by rw [e, hob] at hc; exact hi (Option.some.inj hc)
  refine ⟨fun c => if c = (ρ b).blk then none else own c, fun c x hc => ?_, fun i oi hi => h.nm i oi (hg i oi hi).1, fun i oi hi hf => ?_, fun i cs e z hi => ?_, fun c i hc => ?_⟩
  · rw [hs c (fun e => by rw [e, hbp] at hc; cases hc)]
    exact h.pr c x hc
  · obtain ⟨g1, g2⟩ := hg i oi hi
    rcases h.ob i oi g1 hf with g | ⟨q1, q2, q3⟩
    · exact .inl g
    · refine .inr ⟨q1, q2.mono (fun _ _ h => h) (fun _ h => h) (fun _ _ => rfl) (fun c hc => ?_) (fun c hc => hs c (hne i g2 c hc)) q3, ?_⟩
      · show (if c = (ρ b).blk then none else own c) = _
        rw [if_neg (hne i g2 c hc)]; exact hc
      · show (if (ρ i).blk = (ρ b).blk then none else own _) = _
        rw [if_neg (hne i g2 _ q3)]; exact q3
  · obtain ⟨g1, g2⟩ := hg i _ hi
    have hn := h.fro_ne hb hnl g1
    have hd : (ρ i).blk ≠ (ρ b).blk := fun e1 => hn (by rw [e1]; exact hob)
    refine h.fr_keep (fun _ h => h) (fun _ _ => rfl) g1 (hs _ hd) (fun j hj => ?_)
    have hj : (if (ρ i).blk = (ρ b).blk then none else own (ρ i).blk) = some j := hj
    rw [if_neg hd] at hj
    exact ⟨hj, fun cj ej zj q => by rw [getO_set_other (fun e1 => hn (by rw [hj, e1]))]; exact q⟩
  · have hc : (if c = (ρ b).blk then none else own c) = some i := hc
    by_cases hcb : c = (ρ b).blk
    · rw [if_pos hcb] at hc; cases hc
    · rw [if_neg hcb] at hc
      obtain ⟨h1, h2⟩ := h.ow c i hc
      refine ⟨?_, h2⟩
      have := hs c hcb
      rw [Array.getElem?_eq_getElem h1] at this
      exact (Array.getElem?_eq_some_iff.1 this).1

theorem liesAt_same {p : Program} {e : TypeId} {count off n : Nat} (h : p.cellsOf e = 1) (hle : off + n ≤ count) : liesAt p p.depth e count off e n = true := by
  obtain ⟨m, hm⟩ : ∃ m, p.depth = m + 1 := ⟨2 * (p.types.size + Made.depth) + 1, rfl⟩
  have key : rowAt p (sameLayout p (m + 1) · e) (m + 1) e count off n = true := by
    unfold rowAt
    simp [h, sameLayout, Nat.mod_one, hle]
  rw [hm]
  unfold liesAt
  rw [hm, key]
  rfl

theorem usd_nil (ts : Array TypeId) (ty : TypeId) (n c : Nat) : Builtin.unsafeSliceData_ ts ty #[.slice none n c] = pure (.pointer none) := rfl
theorem usd_some (ts : Array TypeId) (ty : TypeId) (a : Addr) (n c : Nat) (h : c ≠ 0) : Builtin.unsafeSliceData_ ts ty #[.slice (some a) n c] = pure (.pointer (some a)) := by
  show (if c ≠ 0 then _ else _ : Sem Value) = _
  rw [if_pos h]

theorem unsafeString_sound {H : Heap} {w : World} (hH : HR Pr (AN H) ρ H w.heap) {t u ty : TypeId} {x y x' y' : Value} {nx : Nx} {ok : List Bool} (h : unsafeStringOp E H t x y = some (nx, ok)) (hok : AllT ok) (hx : VR Pr (AN H) ρ x x') (hy : VR Pr (AN H) ρ y y') {consts : Array Bool} :
    NxOk E Pr ρ H w (Go.builtin .unsafeString #[t, u] ty consts #[x', y']) nx := by
  unfold unsafeStringOp at h
  split at h
  · rename_i q k n hu
    cases h; cases hx; cases hy
    have h0 : n = 0 := by simpa using (AllT.cons.1 hok).1
    subst h0
    refine DidN.same hH ⟨?_, .str _, rfl⟩
    rfl
  · rename_i q b o k n hu
    split at h
    · rename_i i cs e g hi hb
      split at h
      · rename_i hc
        obtain ⟨rfl, hsz⟩ := hc
        cases h
        cases hy
        obtain ⟨h1, hok⟩ := AllT.cons.1 hok
        obtain ⟨h2, hok⟩ := AllT.cons.1 hok
        obtain ⟨h3, hok⟩ := AllT.cons.1 hok
        have hall := (AllT.cons.1 hok).1
        have h1 : 0 < n := by simpa using h1
        have h2 : n ≤ 9223372036854775807 := by simpa using h2
        have h3 : o + n.toNat ≤ cs.length := by simpa using h3
        cases hx with
        | ptr _ _ hA =>
        obtain ⟨_, ho, hbp, hbq⟩ := hH.realC hb (.inr (by omega))
        obtain ⟨c, fz, g1, g2, g3, g4, g5, g6, g7⟩ := id ho
        have hwin := (g7.drop o).take n.toNat
        obtain ⟨b1, b2⟩ := bytes_VL hwin hall
        have hl : (((cs.drop o).take n.toNat).map toInt).length = n.toNat := by simp; omega
        have hcell : ∀ k, k < (((cs.drop o).take n.toNat).map toInt).length → w.cell? ((addr (ρ b) o).add k) = some (.int .u8 ((((cs.drop o).take n.toNat).map toInt).getD k 0)) := by
          intro k hk
          rw [hl] at hk
          have hkc : (ρ b).base + o + k < c.size := by omega
          have e1 : w.cell? ((addr (ρ b) o).add k) = some c[(ρ b).base + o + k] := by
            rw [addr, addr_add]
            simp [World.cell?, g1, hkc]
          rw [e1]
          have e2 : ((((c.toList.drop (ρ b).base).take cs.length).drop o).take n.toNat).getD k undef = c[(ρ b).base + o + k] := by
            rw [List.getD_eq_getElem?_getD, List.getElem?_take_of_lt hk, List.getElem?_drop, List.getElem?_take_of_lt (by omega), List.getElem?_drop]
            simp [← Nat.add_assoc, hkc]
          rw [b1, b2] at e2
          rw [← e2]
          simp only [List.getD_eq_getElem?_getD, List.getElem?_map]
          have : k < ((cs.drop o).take n.toNat).length := by simp; omega
          rw [List.getElem?_eq_getElem this]
          rfl
        have hrun := run_loadBytes E.P w _ (addr (ρ b) o) .empty hcell
        rw [hl] at hrun
        have hbytes : (((cs.drop o).take n.toNat).map toInt).foldl (fun r n => r.push n.toNat.toUInt8) ByteArray.empty = bytesOf ((cs.drop o).take n.toNat) := by
          have h := foldl_bytes (((cs.drop o).take n.toNat).map toInt) ByteArray.empty
          refine Eq.trans h ?_
          simp [bytesOf, ofL, ByteArray.empty, ByteArray.emptyWithCapacity]
          rfl
        rw [hbytes] at hrun
        have hcells : E.P.cellsOf e = 1 := by
          obtain ⟨_, inf, q1, q2, _⟩ := E.tyOk e i hi
          simp [Program.cellsOf, q1, q2, hsz]
        have hva : (variablesAt (addr (ρ b) o) e n.toNat).run E.P w = .ok true w := by
          have hs : w.shape? (ρ b).blk = some (e, c.size) := by simp [World.shape?, g1]
          have hl := liesAt_same (p := E.P) (e := e) (count := c.size) (off := (ρ b).base + o) (n := n.toNat) hcells (by omega)
          simp [variablesAt, shape, Sem.run, hs, addr, run_program, hcells, hl]
        have hel : (elemOf t).run E.P w = .ok e w := by
          simp [elemOf, undT_run hu w]
        refine DidN.of ⟨.string (bytesOf ((cs.drop o).take n.toNat)), w.freeze (addr (ρ b) o) n.toNat, ρ, ?_, ?_, .str _, fun _ _ => rfl, by simp, ?_⟩
        · have hmx : IntKind.i64.max = 9223372036854775807 := by decide
          change Sem.run E.P (ite (n < 0) _ _) w = _
          rw [if_neg (by omega)]
          change Sem.run E.P (ite (n > IntKind.i64.max) _ _) w = _
          rw [if_neg (by omega)]
          change Sem.run E.P (ite (n = 0) _ _) w = _
          rw [if_neg (by omega)]
          change Sem.run E.P (bind (elemOf t) _) w = _
          simp only [Sem.run_bind, hel, Result.andThen_ok, hva, if_true, hrun]
          rfl
        · rw [AN_set]
          refine HR.killAny hH hb hbq hbp fun i hi => ?_
          unfold World.freeze
          split
          · rfl
          · simp only [Array.getElem?_modify]
            rw [if_neg (by simpa [addr] using Ne.symm hi)]
        · unfold World.freeze
          split <;> exact ⟨rfl, rfl⟩
      · cases h
    · cases h
  · cases h

theorem builtin_sound {H : Heap} {w : World} (hH : HR Pr (AN H) ρ H w.heap) {b : Builtin} {ts : Array TypeId} {ty : TypeId} {consts : Array Bool} {vs vs' : List Value} {nx : Nx} {ok : List Bool} (h : builtinOp E H b ts.toList vs = some (nx, ok)) (hok : AllT ok)
    (hv : VL Pr (AN H) ρ vs vs') : NxOk E Pr ρ H w (Go.builtin b ts ty consts vs'.toArray) nx := by
  unfold builtinOp at h
  split at h
  · rename_i t x hts
    have hts := len1 hts
    cases hv with
    | cons hx ht =>
      rename_i v' _
      cases ht
      subst hts
      split at h
      · rename_i s hu
        cases h; cases hx
        exact DidN.same hH ⟨by simp [Builtin.len_, undT_run hu w, slen_eq, goInt], .int _ _, rfl⟩
      · rename_i e a n c hu
        cases h
        have hx' : ∃ a' c', v' = .slice a' n c' := by cases hx <;> exact ⟨_, _, rfl⟩
        obtain ⟨a', c', rfl⟩ := hx'
        exact DidN.same hH ⟨by simp [Builtin.len_, undT_run hu w, goInt], .int _ _, rfl⟩
      · rename_i e n cs hu
        cases h
        have hx' : ∃ a' c', v' = .slice a' n c' := by cases hx <;> exact ⟨_, _, rfl⟩
        obtain ⟨a', c', rfl⟩ := hx'
        exact DidN.same hH ⟨by simp [Builtin.len_, undT_run hu w, goInt], .int _ _, rfl⟩
      · rename_i n e hu
        cases h
        exact DidN.same hH ⟨by simp [Builtin.len_, undT_run hu w, goInt], .int _ _, rfl⟩
      · cases h
  · rename_i t x hts
    have hts := len1 hts
    cases hv with
    | cons hx ht =>
      rename_i v' _
      cases ht
      subst hts
      split at h
      · rename_i e hu
        cases h; cases hx
        exact DidN.same hH ⟨by simp [Builtin.cap_, undT_run hu w, goInt], .int _ _, rfl⟩
      · rename_i e b o n c hu
        split at h
        · rename_i cs e' hb
          cases h
          have h0 : 0 < n := by simpa using (AllT.cons.1 hok).1
          obtain ⟨_, ho, _⟩ := hH.realC hb (.inl rfl)
          obtain ⟨cc, fz, g1, g2, g3, g4, g5, g6, g7⟩ := id ho
          cases hx with
          | slx _ _ _ _ hA hf hn => exact DidN.same hH ⟨by simp [Builtin.cap_, undT_run hu w, goInt], .int _ _, rfl⟩
          | slf _ _ _ _ c' z hA hp hf => rw [g5] at hf; cases hf
          | sl0 _ _ _ a hA => omega
          | nl0 _ _ _ hA => omega
        · cases h
      · rename_i n e hu
        cases h
        exact DidN.same hH ⟨by simp [Builtin.cap_, undT_run hu w, goInt], .int _ _, rfl⟩
      · cases h
  · rename_i t x hts
    have hts := len1 hts
    cases hv with
    | cons hx ht =>
      rename_i v' _
      cases ht
      subst hts
      split at h
      · cases h; cases hx
        exact DidN.same hH ⟨by rw [usd_nil]; rfl, .pnil, rfl⟩
      · rename_i b o n c
        cases h
        have h0 : 0 < n := by simpa using (AllT.cons.1 hok).1
        cases hx with
        | slx _ _ _ _ hA hf hn => exact DidN.same hH ⟨by rw [usd_some _ _ _ _ _ (by omega)]; rfl, .ptr b o hA, rfl⟩
        | slf _ _ _ _ c' z hA hp hf h1 => exact DidN.same hH ⟨by rw [usd_some _ _ _ _ _ (by omega)]; rfl, .ptr b o hA, rfl⟩
        | sl0 _ _ _ a hA => omega
        | nl0 _ _ _ hA => omega
      · cases h
  · rename_i t u x y hts
    have hts := len2 hts
    subst hts
    cases hv with
    | cons hx hv =>
      cases hv with
      | cons hy ht =>
        cases ht
        exact unsafeString_sound hH h hok hx hy
  · rename_i t u s x hts
    have hts := len2 hts
    subst hts
    cases hv with
    | cons hs hv =>
      cases hv with
      | cons hx ht =>
        cases ht
        obtain ⟨v, H', rfl⟩ := IsVal.appendOp (E := E) _ _ _ _ _ nx ok h
        exact DidN.of (append_sound hH h hok hs hx)
  · rename_i t u s x hts
    have hts := len2 hts
    subst hts
    cases hv with
    | cons hs hv =>
      cases hv with
      | cons hx ht =>
        cases ht
        obtain ⟨v, H', rfl⟩ := IsVal.copyOp (E := E) _ _ _ _ nx ok h
        exact DidN.of (copy_sound hH h hok hs hx)
  · rename_i t x hts
    have hts := len1 hts
    subst hts
    cases hv with
    | cons hx hv =>
      cases hv
      obtain ⟨v, H', rfl⟩ := IsVal.clearOp (E := E) _ _ _ nx ok h
      exact DidN.of (clear_sound hH h hok hx)
  · rename_i x y
    cases hv with
    | cons hx hv =>
      cases hv with
      | cons hy ht =>
        cases ht
        split at h
        · rename_i v hm
          cases h
          unfold min2 at hm
          split at hm
          · cases hm; cases hx; cases hy
            refine DidN.same hH ⟨?_, .int _ _, rfl⟩
            simp [Builtin.min_, Builtin.min2, Bool.cond_decide]
          · cases hm
        · cases h
  · rename_i x y
    cases hv with
    | cons hx hv =>
      cases hv with
      | cons hy ht =>
        cases ht
        split at h
        · rename_i v hm
          cases h
          unfold max2 at hm
          split at hm
          · cases hm; cases hx; cases hy
            refine DidN.same hH ⟨?_, .int _ _, rfl⟩
            simp [Builtin.max_, Builtin.max2, Bool.cond_decide]
          · cases hm
        · cases h
  · cases h

/-- EVERY OPERATION. -/
theorem aop_sound {H : Heap} {w : World} (hH : HR Pr (AN H) ρ H w.heap) {tm : Tm} {nt : Nat} {t : Array Value} (ht : TmR Pr (AN H) ρ tm nt t) {o : Oper} {nx : Nx} {ok : List Bool} (h : aop E H tm o.op = some (nx, ok)) (hok : AllT ok) :
    NxOk E Pr ρ H w (execOp (evC t) o) nx := by
  have hval : ∀ {x : Operand} {k : Value → Res}, with1 (evalT tm x) k = some (nx, ok) → ∃ v, evalT tm x = some v ∧ k v = some (nx, ok) ∧ VR Pr (AN H) ρ v (evC t x) := by
    intro x k hk
    unfold with1 at hk
    split at hk
    · rename_i v hv; exact ⟨v, hv, hk, evalT_sound ht hv⟩
    · cases hk
  unfold aop at h
  split at h
  · rename_i x ho
    obtain ⟨v, h1, h2, h3⟩ := hval h
    cases h2
    simp only [execOp, ho]
    exact ⟨_, w, ρ, .inl rfl, hH, h3, fun _ _ => rfl, Nat.le_refl _, Kp.refl _⟩
  · rename_i x ho
    obtain ⟨v, h1, h2, h3⟩ := hval h
    cases h2
    simp only [execOp, ho]
    exact ⟨_, w, ρ, .inl rfl, hH, h3, fun _ _ => rfl, Nat.le_refl _, Kp.refl _⟩
  · rename_i e ho
    split at h
    · rename_i i hi
      cases h
      have hz := (AllT.cons.1 hok).1
      have hzv : VL Pr (AN H) ρ i.zero.cells.toList i.zero.cells.toList := (VR.const (Pr := Pr) (A := AN H) (ρ := ρ) hz).cells
      simp only [execOp, ho]
      refine DidN.of ?_
      obtain ⟨v', w', ρ', q1, q2⟩ := newVar_sound (E := E) hH (c := i.zero.cells) e hzv
      refine ⟨v', w', ρ', ?_, q2⟩
      have : (Instr.alloc e true (.tuple #[])).run E.P w = (do pure (.pointer (some (← newRow e i.zero.cells))) : Sem Value).run E.P w := by
        simp [Instr.alloc, ty_run_zero hi w, newVar]
      rw [this]; exact q1
    · cases h
  · rename_i e x ho
    obtain ⟨v, h1, h2, h3⟩ := hval h
    cases h2
    simp only [execOp, ho]
    exact DidN.of (newVar_sound (E := E) hH e h3.cells)
  · rename_i t' ps ho
    split at h
    · rename_i l hl
      have hp := evalP_sound ht hl
      obtain ⟨v, H', rfl⟩ := IsVal.buildOp (E := E) _ _ _ nx ok h
      obtain ⟨v', q1, q2, q3⟩ := build_sound (w := w) h hok hp
      simp only [execOp, ho]
      refine DidN.same hH ⟨?_, q2, q3⟩
      rw [← q1]
      congr 2
      apply Array.ext'
      simp
    · cases h
  · rename_i t' n ps ho
    split at h
    · rename_i l hl
      have hp := evalP_sound ht hl
      obtain ⟨v, H', rfl⟩ := IsVal.buildSOp (E := E) _ _ _ _ nx ok h
      have q := buildS_sound hH h hok hp
      simp only [execOp, ho]
      refine DidN.of ?_
      have e1 : (ps.map fun (i, x) => (i, evC t x)) = (ps.toList.map fun p => (p.1, evC t p.2)).toArray := by
        apply Array.ext'
        simp
      rw [e1]
      exact q
    · cases h
  · rename_i t' a ho
    obtain ⟨v, h1, h2, h3⟩ := hval h
    obtain ⟨r, H', rfl⟩ := IsVal.loadOp (E := E) _ _ _ nx ok h2
    simp only [execOp, ho]
    obtain ⟨v', q⟩ := load_sound hH h2 hok h3
    exact DidN.same hH q
  · rename_i t' a x ho
    obtain ⟨v, h1, h2, h3⟩ := hval h
    unfold with1 at h2
    split at h2
    · rename_i u hu
      have h4 := evalT_sound ht hu
      obtain ⟨r, H', rfl⟩ := IsVal.storeOp (E := E) _ _ _ _ nx ok h2
      obtain ⟨w', q1, q2, q3, q4, q5⟩ := store_sound hH h2 hok h3 h4
      subst q3
      simp only [execOp, ho]
      refine ⟨undef, w', ρ, .inr ⟨by simp [q1], rfl⟩, ?_, VR.undef, fun _ _ => rfl, (by omega), q5⟩
      have : AN H' = AN H := by unfold AN; rw [q4]
      rw [this]; exact q2
    · cases h2
  · rename_i x ho
    obtain ⟨v, h1, h2, h3⟩ := hval h
    split at h2
    · cases h2
      obtain ⟨p, hp⟩ : ∃ p, evC t x = .pointer (some p) := by generalize evC t x = y at h3; cases h3; exact ⟨_, rfl⟩
      rw [hp] at h3
      simp only [execOp, ho, hp]
      exact ⟨_, w, ρ, .inl rfl, hH, h3, fun _ _ => rfl, Nat.le_refl _, Kp.refl _⟩
    · cases h2
      obtain ⟨p, hp⟩ : ∃ p, evC t x = .pointer (some p) := by generalize evC t x = y at h3; cases h3; exact ⟨_, rfl⟩
      rw [hp] at h3
      simp only [execOp, ho, hp]
      exact ⟨_, w, ρ, .inl rfl, hH, h3, fun _ _ => rfl, Nat.le_refl _, Kp.refl _⟩
    · cases h2
      obtain ⟨g, fs, cs, hp⟩ : ∃ g fs cs, evC t x = .func (.func g) fs cs := by generalize evC t x = y at h3; cases h3; exact ⟨_, _, _, rfl⟩
      rw [hp] at h3
      simp only [execOp, ho, hp]
      exact ⟨_, w, ρ, .inl rfl, hH, h3, fun _ _ => rfl, Nat.le_refl _, Kp.refl _⟩
    · cases h2
      obtain ⟨g, fs, cs, hp⟩ : ∃ g fs cs, evC t x = .func (.yield g) fs cs := by generalize evC t x = y at h3; cases h3; exact ⟨_, _, _, rfl⟩
      rw [hp] at h3
      simp only [execOp, ho, hp]
      exact ⟨_, w, ρ, .inl rfl, hH, h3, fun _ _ => rfl, Nat.le_refl _, Kp.refl _⟩
    · cases h2
  · rename_i op t' x y u' ho
    obtain ⟨v, h1, h2, h3⟩ := hval h
    unfold with1 at h2
    split at h2
    · rename_i u hu
      have h4 := evalT_sound ht hu
      dsimp only at h2
      split at h2
      · rename_i r ok1 hb
        cases h2
        obtain ⟨q1, q2, q3⟩ := binop_sound hb hok h3 h4 w
        simp only [execOp, ho]
        refine ⟨r, w, ρ, .inl ?_, hH, q2, fun _ _ => rfl, Nat.le_refl _, Kp.refl _⟩
        simp [q3 x y, q1]
      · cases h2
    · cases h2
  · rename_i op t' x ho
    obtain ⟨v, h1, h2, h3⟩ := hval h
    split at h2
    · rename_i r hr
      cases h2
      obtain ⟨q1, q2⟩ := unop_sound (E := E) hr h3 w
      simp only [execOp, ho]
      exact DidN.same hH ⟨q1, q2, rfl⟩
    · cases h2
  · rename_i s d x ho
    obtain ⟨v, h1, h2, h3⟩ := hval h
    obtain ⟨r, H', rfl⟩ := IsVal.convOp (E := E) _ _ _ _ nx ok h2
    simp only [execOp, ho]
    exact DidN.of (conv_sound hH h2 hok h3)
  · rename_i fn first caps ho
    split at h
    · rename_i vs us hv hu
      cases h
      have q1 := evalL_sound ht hv
      have q2 := evalL_sound ht hu
      have hfn := (AllT.cons.1 hok).1
      simp only [execOp, ho]
      have e1 : first.map (evC t) = (first.toList.map (evC t)).toArray := by apply Array.ext'; simp
      have e2 : caps.map (evC t) = (caps.toList.map (evC t)).toArray := by apply Array.ext'; simp
      refine DidN.same hH ⟨rfl, ?_, rfl⟩
      rw [e1, e2]
      cases fn <;> simp at hfn
      refine .func _ _ _ _ _ (by simpa using q1.length) (by simpa using q2.length) (fun k hk => ?_) (fun k hk => ?_)
      · have := q1.get k (by simpa using hk)
        simpa [Array.getD_eq_getD_getElem?, List.getD_eq_getElem?_getD] using this
      · have := q2.get k (by simpa using hk)
        simpa [Array.getD_eq_getD_getElem?, List.getD_eq_getElem?_getD] using this
    · cases h
  · rename_i t' l c ho
    obtain ⟨v, h1, h2, h3⟩ := hval h
    unfold with1 at h2
    split at h2
    · rename_i u hu
      obtain ⟨r, H', rfl⟩ := IsVal.makeOp (E := E) _ _ _ _ nx ok h2
      simp only [execOp, ho]
      exact DidN.of (make_sound hH h2 hok h3 (evalT_sound ht hu))
    · cases h2
  · rename_i t' x lo hi ho
    obtain ⟨v, h1, h2, h3⟩ := hval h
    split at h2
    · rename_i l hh e1 e2
      obtain ⟨r, H', rfl⟩ := IsVal.sliceOp (E := E) _ _ _ _ _ nx ok h2
      obtain ⟨v', q⟩ := slice_sound hH h2 hok h3 (evalO_sound ht e1) (evalO_sound ht e2) w
      simp only [execOp, ho, Option.map_none]
      exact DidN.same hH q
    · cases h2
  · rename_i s x f ho
    obtain ⟨v, h1, h2, h3⟩ := hval h
    obtain ⟨r, H', rfl⟩ := IsVal.faddrOp (E := E) _ _ _ _ nx ok h2
    obtain ⟨v', q⟩ := faddr_sound h2 h3 w
    simp only [execOp, ho]
    exact DidN.same hH q
  · rename_i s x f ho
    obtain ⟨v, h1, h2, h3⟩ := hval h
    obtain ⟨r, H', rfl⟩ := IsVal.fieldOp (E := E) _ _ _ _ nx ok h2
    obtain ⟨v', q⟩ := field_sound h2 hok h3 w
    simp only [execOp, ho]
    exact DidN.same hH q
  · rename_i t' x i ho
    obtain ⟨v, h1, h2, h3⟩ := hval h
    unfold with1 at h2
    split at h2
    · rename_i u hu
      obtain ⟨r, H', rfl⟩ := IsVal.iaddrOp (E := E) _ _ _ _ nx ok h2
      obtain ⟨v', q⟩ := iaddr_sound h2 hok h3 (evalT_sound ht hu) w
      simp only [execOp, ho]
      exact DidN.same hH q
    · cases h2
  · rename_i t' x i ho
    obtain ⟨v, h1, h2, h3⟩ := hval h
    unfold with1 at h2
    split at h2
    · rename_i u hu
      obtain ⟨r, H', rfl⟩ := IsVal.indexOp (E := E) _ _ _ _ nx ok h2
      obtain ⟨v', q⟩ := index_sound h2 hok h3 (evalT_sound ht hu) w
      simp only [execOp, ho]
      exact DidN.same hH q
    · cases h2
  · rename_i x i ho
    obtain ⟨v, h1, h2, h3⟩ := hval h
    split at h2
    · rename_i vs
      split at h2
      · rename_i r hr
        cases h2
        obtain ⟨vs', hx, q⟩ := h3.tupInv
        simp only [execOp, ho]
        have hlt : i < vs.size := (Array.getElem?_eq_some_iff.1 hr).1
        have hlt' : i < vs'.size := by have := q.length; simp at this; omega
        refine DidN.same hH (v' := vs'[i]) ⟨by simp [hx, Instr.extract, hlt'], ?_, rfl⟩
        have := q.get i (by simpa using hlt)
        have e1 : vs[i] = r := by simpa [hlt] using hr
        simpa [List.getD_eq_getElem?_getD, hlt, hlt', e1] using this
      · cases h2
    · cases h2
  · rename_i c ho
    split at h
    · rename_i vs hvs
      have q1 := evalL_sound ht hvs
      have e1 : c.args.map (evC t) = (c.args.toList.map (evC t)).toArray := by apply Array.ext'; simp
      split at h
      · rename_i b hb
        have q := builtin_sound (ty := o.type) (consts := c.args.map fun | .const _ => true | _ => false) hH h hok q1
        simp only [execOp, ho, resolve, hb, pure_bind, invoke]
        rw [e1]
        exact q
      · rename_i f hb
        obtain ⟨v, h1, h2, h3⟩ := hval h
        have q : NxOk E Pr ρ H w (do let d ← Deferred.ofValue (evC t f) (c.args.toList.map (evC t)).toArray; invoke d.target d.args) nx := by
          unfold orCall at h2
          split at h2
          · rename_i r hr
            rw [h2] at hr
            exact extOp_sound hH hr hok h3 q1
          · exact callOp_sound (w := w) h2 h3 q1
        simp only [execOp, ho, resolve, hb]
        rw [e1]
        exact q
      · cases h
    · cases h
  · cases h

theorem nilApp_sound {H : Heap} {w : World} (hH : HR Pr (AN H) ρ H w.heap) {tm : Tm} {nt : Nat} {t : Array Value} (ht : TmR Pr (AN H) ρ tm nt t) {o : Oper} (h : nilApp E tm o.op = some true) : DidN E Pr ρ H w (execOp (evC t) o) (.slice none 0 0) H := by
  unfold nilApp at h
  split at h
  · rename_i c ho
    split at h
    · rename_i s hvs
      split at h
      · rename_i hb
        split at h
        · rename_i t' u hts
          split at h
          · rename_i ei he hu
            have h0 : slen s = 0 := by simpa using h
            have q1 := evalL_sound ht hvs
            have e1 : c.args.map (evC t) = (c.args.toList.map (evC t)).toArray := by apply Array.ext'; simp
            have hts := len2 hts
            obtain ⟨e, i⟩ := ei
            obtain ⟨hut, hei⟩ := elemT_spec he
            generalize hL : c.args.toList.map (evC t) = L at q1 e1
            cases q1 with
            | cons hs q2 =>
              cases q2 with
              | cons hx q3 =>
                cases q3
                cases hs
                cases hx
                simp only [execOp, ho, resolve, hb, pure_bind, invoke]
                rw [e1, hts]
                have h1 := undT_run hut w
                have h2 := undT_run hu w
                have h3 := ty_run_size hei w
                have hs0 : s.size = 0 := by rw [← slen_eq]; exact h0
                have h4 : (Builtin.lenOf (.string s)).run E.P w = .ok 0 w := by simp [Builtin.lenOf, hs0]
                exact DidN.of (Did.same hH (v' := .slice none 0 0) (by simp [Builtin.append_, h1, h2, h3, h4, Builtin.firstCells]) .snil)
          · cases h
        · cases h
      · cases h
    · cases h
  · cases h
end
end Go.Am
