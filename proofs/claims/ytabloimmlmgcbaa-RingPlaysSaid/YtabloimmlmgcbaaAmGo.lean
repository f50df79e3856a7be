/-
  The abstract machine: ways from configuration to configuration, whatever the memory; what is forgotten on them; calls that are proved by such ways; a call in a part of memory.
-/
import Derived.Test.YtabloimmlmgcbaaAmFast
import Derived.Test.YtabloimmlmgcbaaAmTop
set_option linter.unusedVariables false
set_option linter.unusedSimpArgs false
namespace Go.Am

/-- From C the machine comes to C'; the first B names stay. -/
def Gets (E : Env) (B : Nat) (C C' : Cfg) : Prop :=
  ∀ (Pr : Prot) (ρ : Nat → Nm) (cs0 : List Frame) (m : Machine), CR Pr ρ C cs0 m → ∃ ρ' m', Steps E.P m m' ∧ CR Pr ρ' C' cs0 m' ∧ (∀ i, i < B → ρ' i = ρ i) ∧ Kp m.world m'.world

theorem Gets.refl {E : Env} {B : Nat} (C : Cfg) : Gets E B C C := fun Pr ρ cs0 m h => ⟨ρ, m, .refl _ _, h, fun _ _ => rfl, Kp.refl _⟩
theorem Gets.trans {E : Env} {B : Nat} {C C1 C2 : Cfg} (h1 : Gets E B C C1) (h2 : Gets E B C1 C2) : Gets E B C C2 := fun Pr ρ cs0 m h => by
  obtain ⟨ρ1, m1, s1, c1, r1, k1⟩ := h1 Pr ρ cs0 m h
  obtain ⟨ρ2, m2, s2, c2, r2, k2⟩ := h2 Pr ρ1 cs0 m1 c1
  exact ⟨ρ2, m2, s1.trans s2, c2, fun i hi => (r2 i hi).trans (r1 i hi), k1.trans k2⟩

/-- n steps, calls in drawn regions of N steps at most. -/
def xgo (E : Env) (K : Ctr) (N : Nat) : Nat → Run
  | 0 => fun orc ok C => some (ok, orc, C)
  | n + 1 => fun orc ok C =>
    match done C with
    | true => some (ok, orc, C)
    | false => match xstep E K (callBy E K (xrun E K N)) orc C with
      | some (ok', orc', C') => xgo E K N n orc' (ok' ++ ok) C'
      | none => none

theorem xgo_sound {E : Env} {K : Ctr} (hK : KOk E K) {N : Nat} : ∀ n, RunOk E (xgo E K N n)
  | 0 => by
    intro orc ok C ok' orc' C' h hok
    cases h
    exact ⟨hok, fun Pr ρ cs0 m hC => Goes.refl hC⟩
  | n + 1 => by
    have ih := xgo_sound hK (N := N) n
    intro orc ok C ok' orc' C' h hok
    simp only [xgo] at h
    split at h
    · cases h
      exact ⟨hok, fun Pr ρ cs0 m hC => Goes.refl hC⟩
    · split at h
      · rename_i ok1 orc1 C1 hs
        obtain ⟨k1, k2⟩ := ih _ _ _ _ _ _ h hok
        obtain ⟨k3, k4⟩ := AllT.app.1 k1
        exact ⟨k4, fun Pr ρ cs0 m hC => (xstep_sound hK (callBy_sound hK (xrun_sound hK N)) hs k3 hC).trans fun ρ1 m1 h1 => k2 Pr ρ1 cs0 m1 h1⟩
      · cases h

theorem reach_go {E : Env} {K : Ctr} (hK : KOk E K) {N n : Nat} {orc orc' : Option (List Bool)} {ok : List Bool} {C C' : Cfg} {B : Nat} (h : xgo E K N n orc [] C = some (ok, orc', C')) (hok : AllT ok) (hB : B ≤ C.H.length) : Gets E B C C' := fun Pr ρ cs0 m hC => by
  obtain ⟨ρ1, m1, s1, c1, r1, _, k1⟩ := (xgo_sound hK n _ _ _ _ _ _ h hok).2 Pr ρ cs0 m hC
  exact ⟨ρ1, m1, s1, c1, fun i hi => r1 i (by unfold AN; omega), k1⟩

/-- Where a call of g begins. -/
def startC (E : Env) (g : FuncId) (args : List Value) (H : Heap) : Cfg :=
  match E.fn g with
  | some F => match F.body with
    | some c => { fr := enterFr g F.ntmps c args, cs := [], H := H }
    | none => { fr := enterFr g 0 .skip [], cs := [], H := H }
  | none => { fr := enterFr g 0 .skip [], cs := [], H := H }

def canStart (E : Env) (g : FuncId) (args : List Value) : Bool :=
  match E.fn g with
  | some F => match F.body with
    | some _ => decide (args.length ≤ F.ntmps)
    | none => false
  | none => false

theorem callOk_of_reach {E : Env} {g : FuncId} {args : List Value} {H H' : Heap} {C' : Cfg} {ok : List Bool} {v : Value} (hs : canStart E g args = true) (hr : Gets E H.length (startC E g args H) C')
    (hl : leaveA E C' = some (ok, v, H')) (hok : AllT ok) (hlen : H.length ≤ H'.length) : CallOk E g args H v H' := by
  intro Pr ρ args' cf cs w hH ha
  unfold canStart at hs
  unfold startC at hr
  split at hs
  · rename_i F hF
    split at hs
    · rename_i c hc
      simp only [hF, hc] at hr
      have hlen2 : args.length ≤ F.ntmps := by simpa using hs
      obtain ⟨ρ1, m1, s1, c1, r1, k1⟩ := hr Pr ρ (cf :: cs) (lone (Frame.enter E.P g args'.toArray .normal) (cf :: cs) w) ⟨_, [], w, rfl, enter_sound hF hc ha hlen2, .nil, hH⟩
      obtain ⟨fr, w', v', fn, s2, _, hm, hd, hk, hfn, hres, hH2, hv2, hl2, kp2⟩ := leaveA_sound hl hok c1
      refine ⟨ρ1, v', w', s1.trans (s2.trans (.one ?_)), hH2, hv2, fun i hi => r1 i hi, hlen, k1.trans kp2⟩
      exact step_leave_returned ⟨hm, hd, hk, fn, hfn, hres⟩
    · cases hs
  · cases hs

/-- A law's call. -/
theorem calls_of_reach {E : Env} {g : FuncId} {args : List Value} {args' : Array Value} {w : World} {C' : Cfg} {ok : List Bool} {b : Bool} {H' : Heap} (hs : canStart E g args = true) (hr : Gets E 0 (startC E g args []) C')
    (hfn : C'.fr.fn = g) (hl : leaveA E C' = some (ok, .bool b, H')) (hok : AllT ok) (hb : b = true) (ha : ∀ ρ, VL (prOf w) (AN []) ρ args args'.toList) : Calls E.P g args' w fun e w' => e = .returned (.bool true) ∧ Stays w w' := by
  intro cs
  unfold canStart at hs
  unfold startC at hr
  split at hs
  · rename_i F hF
    split at hs
    · rename_i c hc
      simp only [hF, hc] at hr
      have hlen2 : args.length ≤ F.ntmps := by simpa using hs
      have hH : HR (prOf w) (AN []) (fun _ => ⟨0, 0, 0, none, false⟩) [] w.heap := by
        refine ⟨fun _ => none, fun b o h => h, fun i ob h => ?_, fun i ob h => ?_, fun i _ _ _ h => ?_, fun b i h => ?_⟩
        · simp [getO] at h
        · simp [getO] at h
        · simp [getO] at h
        · cases h
      obtain ⟨ρ1, m1, s1, c1, r1, k1⟩ := hr (prOf w) _ cs (lone (Frame.enter E.P g args' .normal) cs w) ⟨_, [], w, rfl, enter_sound hF hc (ha _) hlen2, .nil, hH⟩
      obtain ⟨fr, w', v', fn, s2, hfr, hm, hd, hk, hfn2, hres, hH2, hv2, hl2, kp2⟩ := leaveA_sound hl hok c1
      cases hv2
      subst hb
      exact ⟨_, w', fr, ⟨rfl, k1.trans kp2, fun b o h => hH2.pr b o h⟩, s1.trans s2, by rw [hfr]; exact hfn, hm, hd, hk, fn, hfn2, hres⟩
    · cases hs
  · cases hs

/-! ### forgetting -/

def renTodo (m : Nat → Option Nat) : List Item → Option (List Item)
  | [] => some []
  | .inRangeFunc l :: k => match m l, renTodo m k with
    | some j, some k' => some (.inRangeFunc j :: k')
    | _, _ => none
  | .endRangeFunc l :: k => match m l, renTodo m k with
    | some j, some k' => some (.endRangeFunc j :: k')
    | _, _ => none
  | i :: k => match renTodo m k with
    | some k' => some (i :: k')
    | none => none

def renNs (m : Nat → Option Nat) : List Nat → Option (List Nat)
  | [] => some []
  | d :: r => match m d, renNs m r with
    | some j, some r' => some (j :: r')
    | _, _ => none

def renR (m : Nat → Option Nat) : Option Nat → Option (Option Nat)
  | none => some none
  | some l => match m l with
    | some j => some (some j)
    | none => none

def renFr (m : Nat → Option Nat) (keep : Nat → Bool) (fr : AFr) : Option AFr :=
  match renTodo m fr.todo, renNs m fr.defers, renR m fr.rnd with
  | some k, some ds, some r => some { fn := fr.fn, nt := fr.nt, tm := renTm m keep fr.tm, todo := k, defers := ds, rnd := r, dk := fr.dk }
  | _, _, _ => none

def renFrs (m : Nat → Option Nat) : List AFr → Option (List AFr)
  | [] => some []
  | f :: r => match renFr m all1 f, renFrs m r with
    | some g, some s => some (g :: s)
    | _, _ => none

/-- The blocks l alone, in this order; of the temporaries those that are live. -/
def gc (E : Env) (l : List Nat) (live : List Nat) (C : Cfg) : Option (List Bool × Cfg) :=
  match nodup l, renFr (toNew l) (fun i => live.contains i) C.fr, renFrs (toNew l) C.cs, renHi E (live.contains 1000000) l C.H with
  | true, some fr, some cs, some (ok, H) => some (ok, { fr := fr, cs := cs, H := H })
  | _, _, _, _ => none

section
variable {E : Env} {Pr : Prot} {A A' : Nat → Prop} {ρ ρ' : Nat → Nm} {m : Nat → Option Nat}

theorem TodoR.ren (hm : ∀ i j, m i = some j → A' j ∧ ρ' j = ρ i) {k k' : List Item} (h : TodoR A ρ k k') : ∀ {l : List Item}, renTodo m k = some l → TodoR A' ρ' l k' := by
  have gen : ∀ {i : Item} {k l : List Item}, (∀ x, i ≠ .inRangeFunc x) → (∀ x, i ≠ .endRangeFunc x) → renTodo m (i :: k) = some l → ∃ l', renTodo m k = some l' ∧ l = i :: l' := by
    intro i k l h1 h2 h
    unfold renTodo at h
    split at h
    · rename_i he; cases he
    · rename_i x _ he; cases he; exact absurd rfl (h1 _)
    · rename_i x _ he; cases he; exact absurd rfl (h2 _)
    · rename_i he
      cases he
      split at h
      · rename_i k' hk; cases h; exact ⟨_, hk, rfl⟩
      · cases h
  induction h with
  | nil => intro l hl; cases hl; exact .nil
  | code c _ ih => intro l hl; obtain ⟨l', h1, rfl⟩ := gen (by intro x h; cases h) (by intro x h; cases h) hl; exact .code c (ih h1)
  | inBlock id _ ih => intro l hl; obtain ⟨l', h1, rfl⟩ := gen (by intro x h; cases h) (by intro x h; cases h) hl; exact .inBlock id (ih h1)
  | inLoop c _ ih => intro l hl; obtain ⟨l', h1, rfl⟩ := gen (by intro x h; cases h) (by intro x h; cases h) hl; exact .inLoop c (ih h1)
  | inScope c _ ih => intro l hl; obtain ⟨l', h1, rfl⟩ := gen (by intro x h; cases h) (by intro x h; cases h) hl; exact .inScope c (ih h1)
  | inRegion ops r _ ih => intro l hl; obtain ⟨l', h1, rfl⟩ := gen (by intro x h; cases h) (by intro x h; cases h) hl; exact .inRegion ops r (ih h1)
  | inRange x h _ ih =>
    intro l hl
    simp only [renTodo] at hl
    split at hl
    · rename_i j k' hj hk
      cases hl
      obtain ⟨p1, p2⟩ := hm _ _ hj
      rw [← p2]
      exact .inRange j p1 (ih hk)
    · cases hl
  | endRange x h _ ih =>
    intro l hl
    simp only [renTodo] at hl
    split at hl
    · rename_i j k' hj hk
      cases hl
      obtain ⟨p1, p2⟩ := hm _ _ hj
      rw [← p2]
      exact .endRange j p1 (ih hk)
    · cases hl
  | begin _ ih => intro l hl; obtain ⟨l', h1, rfl⟩ := gen (by intro x h; cases h) (by intro x h; cases h) hl; exact .begin (ih h1)

theorem renNs_sound (hm : ∀ i j, m i = some j → A' j ∧ ρ' j = ρ i) : ∀ {l l' : List Nat}, renNs m l = some l' → (l'.map fun d => ({ target := .collected (ρ' d).blk, args := #[] } : Deferred)) = (l.map fun d => { target := .collected (ρ d).blk, args := #[] }) ∧ ∀ d ∈ l', A' d
  | [], l', h => by cases h; exact ⟨rfl, fun d hd => by cases hd⟩
  | d :: r, l', h => by
    simp only [renNs] at h
    split at h
    · rename_i j r' hj hr
      cases h
      obtain ⟨p1, p2⟩ := hm _ _ hj
      obtain ⟨q1, q2⟩ := renNs_sound hm hr
      refine ⟨by simp [p2, q1], fun d hd => ?_⟩
      rcases List.mem_cons.1 hd with rfl | hd
      · exact p1
      · exact q2 d hd
    · cases h

theorem FR.ren (hm : ∀ i j, m i = some j → A' j ∧ ρ' j = ρ i) {keep : Nat → Bool} {fr fr' : AFr} {f : Frame} (h : FR Pr A ρ fr f) (hr : renFr m keep fr = some fr') : FR Pr A' ρ' fr' f := by
  unfold renFr at hr
  split at hr
  · rename_i k ds r hk hds hrr
    cases hr
    obtain ⟨p1, p2⟩ := renNs_sound hm hds
    refine { fn := h.fn, tm := h.tm.ren hm, todo := h.todo.ren hm hk, defers := by rw [h.defers]; exact p1.symm, dA := p2, mode := h.mode, kind := h.kind, rnd := ?_, rA := ?_ }
    · rw [h.rnd]
      cases hl : fr.rnd with
      | none => rw [hl] at hrr; cases hrr; rfl
      | some l =>
        rw [hl] at hrr
        simp only [renR] at hrr
        split at hrr
        · rename_i j hj
          cases hrr
          simp [(hm _ _ hj).2]
        · cases hrr
    · intro j hj
      dsimp only at hj
      subst hj
      cases hl : fr.rnd with
      | none => rw [hl] at hrr; cases hrr
      | some l =>
        rw [hl] at hrr
        simp only [renR] at hrr
        split at hrr
        · rename_i j' hj'
          cases hrr
          exact (hm _ _ hj').1
        · cases hrr
  · cases hr

theorem FsR.ren (hm : ∀ i j, m i = some j → A' j ∧ ρ' j = ρ i) {l l2 : List AFr} {l' : List Frame} (h : FsR Pr A ρ l l') (hr : renFrs m l = some l2) : FsR Pr A' ρ' l2 l' := by
  induction h generalizing l2 with
  | nil => cases hr; exact .nil
  | cons h _ ih =>
    simp only [renFrs] at hr
    split at hr
    · rename_i g s hg hs
      cases hr
      exact .cons (h.ren hm hg) (ih hs)
    · cases hr

theorem gc_sound {l live : List Nat} {C C' : Cfg} {ok : List Bool} (h : gc E l live C = some (ok, C')) (hok : AllT ok) {cs0 : List Frame} {mm : Machine} (hC : CR Pr ρ C cs0 mm) : CR Pr (back' ρ l) C' cs0 mm := by
  unfold gc at h
  split at h
  · rename_i fr cs ok1 H hn hfr hcs hH
    cases h
    obtain ⟨f, fs, w, rfl, h1, h2, h3⟩ := hC
    have hl := renHi_len hH hok
    have hm := toNew_ok (A' := AN H) (ρ := ρ) (l := l) (fun j hj => by unfold AN; omega)
    exact ⟨f, fs, w, rfl, h1.ren hm hfr, h2.ren hm hcs, h3.reni hn hH hok⟩
  · cases h

theorem reach_gc {l live : List Nat} {C C' : Cfg} {ok : List Bool} {B : Nat} (h : gc E l live C = some (ok, C')) (hok : AllT ok) (hB : ∀ i, i < B → l.getD i 0 = i) : Gets E B C C' := fun Pr ρ cs0 m hC =>
  ⟨back' ρ l, m, .refl _ _, gc_sound h hok hC, fun i hi => by unfold back'; rw [hB i hi], Kp.refl _⟩

/-! ### an empty row instead of none -/

/-- In the cell o of block b stands no slice: from now on an empty one, of a row of its own. -/
def nilC (b o : Nat) (e : TypeId) (z : Nat) (C : Cfg) : Option Cfg :=
  match getO C.H b with
  | some (.cells cs e' g) => match cs[o]? with
    | some (.slice none 0 0) => some { C with H := slot (C.H.set b (some (.cells (cs.set o (.slice (some ⟨C.H.length, 0, none⟩) 0 0)) e' g))) (.cells [] e (some z)) }
    | _ => none
  | _ => none

theorem HR.recell {H : Heap} {hp : Array Obj} (h : HR Pr A ρ H hp) {b : Nat} {cs cs2 : List Value} {e : TypeId} {g : Option Nat} (hb : getO H b = some (.cells cs e g)) (hne : 0 < cs.length) (hl : cs2.length = cs.length)
    (hv : ∀ c, VL Pr A ρ cs c → VL Pr A ρ cs2 c) : HR Pr A ρ (H.set b (some (.cells cs2 e g))) hp := by
  obtain ⟨hA, ho, hpr, hph⟩ := h.realC hb (.inr hne)
  have hcase : ∀ i oi, getO (H.set b (some (.cells cs2 e g))) i = some oi → (i = b ∧ oi = .cells cs2 e g) ∨ (b ≠ i ∧ getO H i = some oi) := by
    intro i oi hi
    by_cases hbi : b = i
    · subst hbi
      rw [getO_set_same hb] at hi
      cases hi
      exact .inl ⟨rfl, rfl⟩
    · rw [getO_set_other hbi] at hi
      exact .inr ⟨hbi, hi⟩
  obtain ⟨own, h⟩ := h
  obtain ⟨hob, _⟩ := h.blk_lt hb rfl hph
  refine ⟨own, h.pr, fun i oi hi => ?_, fun i oi hi hf => ?_, fun i ci ei zi hi => ?_, h.ow⟩
  · rcases hcase i oi hi with ⟨rfl, rfl⟩ | ⟨_, hg⟩
    · exact hA
    · exact h.nm _ _ hg
  · rcases hcase i oi hi with ⟨rfl, rfl⟩ | ⟨_, hg⟩
    · obtain ⟨c, fz, g1, g2, g3, g4, g5, g6, g7⟩ := ho
      exact .inr ⟨hph, .inl ⟨c, fz, g1, g2, by omega, g4, g5, fun hg => ⟨(g6 hg).1, by rw [hl]; exact (g6 hg).2⟩, by rw [hl]; exact hv _ g7⟩, hob⟩
    · exact h.ob _ _ hg hf
  · rcases hcase i _ hi with ⟨rfl, he⟩ | ⟨_, hg⟩
    · cases he
    · have hn := h.fro_ne hb rfl hg
      exact h.fr_keep (fun _ h => h) (fun _ _ => rfl) hg rfl (fun j hj => ⟨hj, fun cj ej zj q => by rw [getO_set_other (fun e1 => hn (by rw [hj, e1]))]; exact q⟩)

/-! ### rows that are only appended to -/
def noFro : Heap → Bool
  | [] => true
  | some (.fro _ _ _) :: _ => false
  | _ :: r => noFro r
theorem noFro_get : ∀ {H : Heap} {i : Nat} {cs : List Value} {e : TypeId} {z : Nat}, noFro H = true → getO H i = some (.fro cs e z) → False
  | [], i, cs, e, z, _, h => by simp [getO] at h
  | o :: r, 0, cs, e, z, hn, h => by
    have h : o = some (.fro cs e z) := by
      simp only [getO, List.getElem?_cons_zero] at h
      cases o with
      | none => cases h
      | some o => cases h; rfl
    subst h
    cases hn
  | o :: r, i + 1, cs, e, z, hn, h => by
    have hr : noFro r = true := by
      cases o with
      | none => exact hn
      | some o => cases o <;> first | exact hn | cases hn
    exact noFro_get (H := r) (i := i) hr (by simpa [getO] using h)
/-- The row that the cell o of block b holds goes on under a new name, only appended to; under the old one it stays as it is. -/
def logSplit (b o : Nat) (C : Cfg) : Option (List Bool × Cfg) :=
  match getO C.H b with
  | some (.cells cs e' g) => match cs[o]? with
    | some (.slice (some ⟨k, p, none⟩) n _) => match getO C.H k with
      | some (.cells ks e (some z)) => match Nat.beq b k with
        | false => some ([decide (p + n * z = ks.length), decide (0 < ks.length), ks.all flat],
            { C with H := (slot (C.H.set k (some (.fro ks e z))) (.log (ks.drop p) e z)).set b (some (.cells (cs.set o (.slice (some ⟨C.H.length, 0, none⟩) n 0)) e' g)) })
        | true => none
      | _ => none
    | _ => none
  | _ => none
/-- A row is as others again. -/
def unLog (k : Nat) (C : Cfg) : Option (List Bool × Cfg) :=
  match getO C.H k, noFro C.H with
  | some (.log cs e z), true => some ([], { C with H := C.H.set k (some (.cells cs e (some z))) })
  | _, _ => none
theorem HR.toLog {H : Heap} {hp : Array Obj} (h : HR Pr A ρ H hp) {b : Nat} {cs : List Value} {e : TypeId} {z : Nat} (hb : getO H b = some (.cells cs e (some z))) (hne : 0 < cs.length) (hf : cs.all flat = true) : HR Pr A ρ (H.set b (some (.log cs e z))) hp := by
  obtain ⟨hA, ho, hpr, hph⟩ := h.realC hb (.inr hne)
  have hcase : ∀ i oi, getO (H.set b (some (.log cs e z))) i = some oi → (i = b ∧ oi = .log cs e z) ∨ (b ≠ i ∧ getO H i = some oi) := by
    intro i oi hi
    by_cases hbi : b = i
    · subst hbi
      rw [getO_set_same hb] at hi
      cases hi
      exact .inl ⟨rfl, rfl⟩
    · rw [getO_set_other hbi] at hi
      exact .inr ⟨hbi, hi⟩
  obtain ⟨own, h⟩ := h
  obtain ⟨hob, _⟩ := h.blk_lt hb rfl hph
  refine ⟨own, h.pr, fun i oi hi => ?_, fun i oi hi hf2 => ?_, fun i ci ei zi hi => ?_, h.ow⟩
  · rcases hcase i oi hi with ⟨rfl, rfl⟩ | ⟨_, hg⟩
    · exact hA
    · exact h.nm _ _ hg
  · rcases hcase i oi hi with ⟨rfl, rfl⟩ | ⟨_, hg⟩
    · exact .inr ⟨hph, .inl ⟨ho, hf⟩, hob⟩
    · exact h.ob _ _ hg hf2
  · rcases hcase i _ hi with ⟨rfl, he⟩ | ⟨_, hg⟩
    · cases he
    · have hn := h.fro_ne hb rfl hg
      exact h.fr_keep (fun _ h => h) (fun _ _ => rfl) hg rfl (fun j hj => ⟨hj, fun cj ej zj q => by rw [getO_set_other (fun e1 => hn (by rw [hj, e1]))]; exact q⟩)
theorem HR.unLog {H : Heap} {hp : Array Obj} (h : HR Pr A ρ H hp) {b : Nat} {cs : List Value} {e : TypeId} {z : Nat} (hb : getO H b = some (.log cs e z)) (hn : noFro H = true) : HR Pr A ρ (H.set b (some (.cells cs e (some z)))) hp := by
  obtain ⟨hA, ho, hph, hf⟩ := h.logR (.inl hb)
  have hcase : ∀ i oi, getO (H.set b (some (.cells cs e (some z)))) i = some oi → (i = b ∧ oi = .cells cs e (some z)) ∨ (b ≠ i ∧ getO H i = some oi) := by
    intro i oi hi
    by_cases hbi : b = i
    · subst hbi
      rw [getO_set_same hb] at hi
      cases hi
      exact .inl ⟨rfl, rfl⟩
    · rw [getO_set_other hbi] at hi
      exact .inr ⟨hbi, hi⟩
  obtain ⟨own, h⟩ := h
  obtain ⟨hob, _⟩ := h.blk_lt hb rfl hph
  refine ⟨own, h.pr, fun i oi hi => ?_, fun i oi hi hf2 => ?_, fun i ci ei zi hi => ?_, h.ow⟩
  · rcases hcase i oi hi with ⟨rfl, rfl⟩ | ⟨_, hg⟩
    · exact hA
    · exact h.nm _ _ hg
  · rcases hcase i oi hi with ⟨rfl, rfl⟩ | ⟨_, hg⟩
    · exact .inr ⟨hph, .inl ho, hob⟩
    · exact h.ob _ _ hg hf2
  · rcases hcase i _ hi with ⟨rfl, he⟩ | ⟨_, hg⟩
    · cases he
    · exact absurd hg (fun q => noFro_get hn q)

theorem VL.setL {l l' : List Value} (h : VL Pr A ρ l l') : ∀ {o : Nat} {v u : Value}, l[o]? = some v → (∀ v', VR Pr A ρ v v' → VR Pr A ρ u v') → VL Pr A ρ (l.set o u) l' := by
  induction h with
  | nil => intro o v u ho; simp at ho
  | cons h t ih =>
    intro o v u ho hu
    cases o with
    | zero =>
      simp only [List.getElem?_cons_zero, Option.some.injEq] at ho
      subst ho
      exact .cons (hu _ h) t
    | succ o => exact .cons h (ih (by simpa using ho) hu)

theorem reach_nilC {b o : Nat} {e : TypeId} {z : Nat} {C C' : Cfg} {B : Nat} (h : nilC b o e z C = some C') (hB : B ≤ C.H.length) : Gets E B C C' := fun Pr ρ cs0 m hC => by
  unfold nilC at h
  split at h
  · rename_i cs e' g hb
    split at h
    · rename_i ho
      cases h
      obtain ⟨f, fs, w, rfl, h1, h2, h3⟩ := hC
      let x : Nm := ⟨0, 0, 0, some z, true⟩
      have hp := h3.phantom e z x rfl rfl
      have hA : ∀ i, AN C.H i → AN (slot C.H (.cells [] e (some z))) i := AN_slot
      have hr : ∀ i, AN C.H i → upd ρ C.H.length x i = ρ i := fun i hi => upd_old ρ _ x hi
      have hlt := getO_lt hb
      have hb' : getO (slot C.H (.cells [] e (some z))) b = some (.cells cs e' g) := by rw [getO_slot_old hlt]; exact hb
      have hlen : 0 < cs.length := by
        have := (List.getElem?_eq_some_iff.1 ho).1
        omega
      have hrc := hp.recell (cs2 := cs.set o (.slice (some ⟨C.H.length, 0, none⟩) 0 0)) hb' hlen (by simp) (fun c hc => hc.setL ho fun v' hv' => by
        cases hv'
        exact .nl0 _ _ _ (by unfold AN; rw [slot_length]; omega))
      have he : (slot C.H (.cells [] e (some z))).set b (some (.cells (cs.set o (.slice (some ⟨C.H.length, 0, none⟩) 0 0)) e' g)) = slot (C.H.set b (some (.cells (cs.set o (.slice (some ⟨C.H.length, 0, none⟩) 0 0)) e' g))) (.cells [] e (some z)) := by
        unfold slot
        rw [List.set_append_left _ _ hlt]
      have hAN : AN (slot C.H (.cells [] e (some z))) = AN (slot (C.H.set b (some (.cells (cs.set o (.slice (some ⟨C.H.length, 0, none⟩) 0 0)) e' g))) (.cells [] e (some z))) := by
        unfold AN
        simp [slot_length]
      rw [he, hAN] at hrc
      rw [hAN] at hA
      exact ⟨upd ρ C.H.length x, _, .refl _ _, ⟨f, fs, w, rfl, h1.mono (fun _ _ h => h) hA hr, h2.mono (fun _ _ h => h) hA hr, hrc⟩, fun i hi => hr i (by unfold AN; omega), Kp.refl _⟩
    · cases h
  · cases h

/-- A temporary that holds no slice: from now on an empty one, of a row of its own. -/
def nilT (t : Nat) (e : TypeId) (z : Nat) (C : Cfg) : Option Cfg :=
  match getT C.fr.tm t with
  | some (.slice none 0 0) => some { C with fr := { C.fr with tm := setT C.fr.tm t (.slice (some ⟨C.H.length, 0, none⟩) 0 0) }, H := slot C.H (.cells [] e (some z)) }
  | _ => none

theorem reach_nilT {t : Nat} {e : TypeId} {z : Nat} {C C' : Cfg} {B : Nat} (h : nilT t e z C = some C') (hB : B ≤ C.H.length) : Gets E B C C' := fun Pr ρ cs0 m hC => by
  unfold nilT at h
  split at h
  · rename_i ht
    cases h
    obtain ⟨f, fs, w, rfl, h1, h2, h3⟩ := hC
    let x : Nm := ⟨0, 0, 0, some z, true⟩
    have hp := h3.phantom e z x rfl rfl
    have hA : ∀ i, AN C.H i → AN (slot C.H (.cells [] e (some z))) i := AN_slot
    have hr : ∀ i, AN C.H i → upd ρ C.H.length x i = ρ i := fun i hi => upd_old ρ _ x hi
    have h1' := h1.mono (Pr' := Pr) (fun _ _ h => h) hA hr
    obtain ⟨v', q1, q2⟩ := h1'.tm.get t _ ht
    cases q2
    have htm := h1'.tm.over q1 (v := .slice (some ⟨C.H.length, 0, none⟩) 0 0) (.nl0 _ _ _ (by unfold AN; rw [slot_length]; omega))
    exact ⟨upd ρ C.H.length x, _, .refl _ _, ⟨f, fs, w, rfl, { h1' with tm := htm }, h2.mono (fun _ _ h => h) hA hr, hp⟩, fun i hi => hr i (by unfold AN; omega), Kp.refl _⟩
  · cases h

theorem reach_unLog {k : Nat} {C C' : Cfg} {ok : List Bool} {B : Nat} (h : Am.unLog k C = some (ok, C')) : Gets E B C C' := fun Pr ρ cs0 m hC => by
  unfold Am.unLog at h
  split at h
  · rename_i cs e z hb hn
    cases h
    obtain ⟨f, fs, w, rfl, h1, h2, h3⟩ := hC
    have hA : AN (C.H.set k (some (.cells cs e (some z)))) = AN C.H := AN_set
    refine ⟨ρ, _, .refl _ _, ⟨f, fs, w, rfl, ?_, ?_, ?_⟩, fun _ _ => rfl, Kp.refl _⟩
    · rw [hA]; exact h1
    · rw [hA]; exact h2
    · rw [hA]; exact h3.unLog hb hn
  · cases h
theorem setN_none (l : List Value) (q : Nat) : setN l q [] = l := rfl
theorem set_same {hp : Array Obj} {i : Nat} {o : Obj} (h : hp[i]? = some o) : hp.setIfInBounds i o = hp := by
  apply Array.ext_getElem?
  intro k
  by_cases hk : i = k
  · subst hk
    rw [Array.getElem?_setIfInBounds_self_of_lt (Array.getElem?_eq_some_iff.1 h).1, h]
  · rw [Array.getElem?_setIfInBounds_ne hk]
theorem reach_logSplit {b o : Nat} {C C' : Cfg} {ok : List Bool} {B : Nat} (h : Am.logSplit b o C = some (ok, C')) (hok : AllT ok) (hB : B ≤ C.H.length) : Gets E B C C' := fun Pr ρ cs0 m hC => by
  unfold Am.logSplit at h
  split at h
  case h_2 => cases h
  rename_i cs e' g hb
  split at h
  case h_2 => cases h
  rename_i k p n c0 ho
  split at h
  case h_2 => cases h
  rename_i ks e z hk
  split at h
  case h_2 => cases h
  rename_i hbk
  cases h
  obtain ⟨k1, hok⟩ := AllT.cons.1 hok
  obtain ⟨k2, hok⟩ := AllT.cons.1 hok
  have k3 := (AllT.cons.1 hok).1
  have k1 : p + n * z = ks.length := by simpa using k1
  have k2 : 0 < ks.length := by simpa using k2
  have hbk : b ≠ k := fun e1 => by rw [e1, Nat.beq_refl] at hbk; cases hbk
  obtain ⟨f, fs, w, rfl, h1, h2, h3⟩ := hC
  obtain ⟨_, ⟨c, fz, g1, g2, g3, g4, g5, g6, g7⟩, _, hph⟩ := h3.realC hk (.inr k2)
  have hl := h3.toLog hk k2 k3
  have hgk : getO (C.H.set k (some (.log ks e z))) k = some (.log ks e z) := getO_set_same hk
  have hAk : AN (C.H.set k (some (.log ks e z))) = AN C.H := AN_set
  rw [← hAk] at hl
  have hm := hl.moveL hgk (q := n * z) (news := []) (news' := []) .nil rfl k1 g1 (by simp only [List.length_nil]; omega)
  have e1 : (C.H.set k (some (.log ks e z))).set k (some (.fro ks e z)) = C.H.set k (some (.fro ks e z)) := by rw [List.set_set]
  have e2 : (ks.drop p).take (n * z) ++ [] = ks.drop p := by rw [List.append_nil, List.take_of_length_le (by rw [List.length_drop]; omega)]
  have e3 : (C.H.set k (some (.log ks e z))).length = C.H.length := by simp
  rw [setN_none, e1, e2, e3] at hm
  rw [set_same (by simpa using g1)] at hm
  have hlen : (C.H.set k (some (.fro ks e z))).length = C.H.length := by simp
  have hbl := getO_lt hb
  have hgb : getO (slot (C.H.set k (some (.fro ks e z))) (.log (ks.drop p) e z)) b = some (.cells cs e' g) := by
    rw [getO_slot_old (by rw [hlen]; exact hbl), getO_set_other (Ne.symm hbk)]
    exact hb
  have hol : o < cs.length := by
    rcases Nat.lt_or_ge o cs.length with h | h
    · exact h
    · rw [List.getElem?_eq_none h] at ho; cases ho
  have hkl := getO_lt hk
  have hx : upd ρ C.H.length ⟨(ρ k).blk, (ρ k).base + p, c.size, some z, false⟩ k = ρ k := upd_old ρ _ _ hkl
  have hr := hm.recell hgb (cs2 := cs.set o (.slice (some ⟨C.H.length, 0, none⟩) n 0)) (by omega) (by simp) (fun c1 hc1 => hc1.setL ho (fun v' hv => by
    cases hv with
    | slx _ _ _ _ _ hfx _ => rw [hx, g5] at hfx; cases hfx
    | slf _ _ _ _ c' z' hA0 hp0 hfx q1 q2 q3 =>
      rw [hx] at hp0 hfx q2
      rw [g5] at hfx
      obtain rfl := Option.some.inj hfx
      have := VR.slf (Pr := Pr) (A := AN (slot (C.H.set k (some (.fro ks e z))) (.log (ks.drop p) e z))) (ρ := upd ρ C.H.length ⟨(ρ k).blk, (ρ k).base + p, c.size, some z, false⟩) C.H.length 0 n 0 c' z (by unfold AN; rw [slot_length, hlen]; omega) (by simp [upd_same]) (by simp [upd_same]) q1 (by simp [upd_same]; omega) q3
      rw [hx]
      simpa [upd_same, addr] using this
    | sl0 _ _ _ a _ => exact .sl0 _ _ _ a (by unfold AN; rw [slot_length, hlen]; omega)
    | nl0 _ _ _ _ => exact .nl0 _ _ _ (by unfold AN; rw [slot_length, hlen]; omega)))
  have hAN : AN ((slot (C.H.set k (some (.fro ks e z))) (.log (ks.drop p) e z)).set b (some (.cells (cs.set o (.slice (some ⟨C.H.length, 0, none⟩) n 0)) e' g))) = AN (slot (C.H.set k (some (.fro ks e z))) (.log (ks.drop p) e z)) := AN_set
  have hA : ∀ i, AN C.H i → AN (slot (C.H.set k (some (.fro ks e z))) (.log (ks.drop p) e z)) i := fun i hi => by unfold AN at *; rw [slot_length, hlen]; omega
  have hrr : ∀ i, AN C.H i → upd ρ C.H.length ⟨(ρ k).blk, (ρ k).base + p, c.size, some z, false⟩ i = ρ i := fun i hi => upd_old ρ _ _ hi
  refine ⟨upd ρ C.H.length ⟨(ρ k).blk, (ρ k).base + p, c.size, some z, false⟩, _, .refl _ _, ⟨f, fs, w, rfl, ?_, ?_, ?_⟩, fun i hi => hrr i (by unfold AN; omega), Kp.refl _⟩
  · rw [hAN]; exact h1.mono (fun _ _ h => h) hA hrr
  · rw [hAN]; exact h2.mono (fun _ _ h => h) hA hrr
  · rw [hAN]; exact hr

end
end Go.Am
namespace Go.Am

/-! ### step by step in constructor form -/
def sOb {β : Type} (o : Option Ob) (k : Option Ob → β) : β :=
  match o with
  | none => k none
  | some (.cells c e g) => k (some (.cells c e g))
  | some (.loop a b c d e f g h i) => k (some (.loop a b c d e f g h i))
  | some (.defs l) => k (some (.defs l))
  | some (.obj J) => k (some (.obj J))
  | some (.log c e z) => k (some (.log c e z))
  | some (.fro c e z) => k (some (.fro c e z))
def sHp {β : Type} : Heap → (Heap → β) → β
  | [], k => k []
  | o :: r, k => sOb o fun o => sHp r fun r => k (o :: r)
def sTm {β : Type} (t : Tm) (k : Tm → β) : β :=
  match t with
  | .al l => k (.al l)
  | .node v l r => k (.node v l r)
def sTodo {β : Type} (t : List Item) (k : List Item → β) : β :=
  match t with
  | [] => k []
  | i :: r => k (i :: r)
def sC {β : Type} (C : Cfg) (k : Cfg → β) : β :=
  match C with
  | ⟨⟨fn, nt, tm, todo, df, rnd, dk⟩, cs, H⟩ => sTm tm fun tm => sTodo todo fun todo => sHp H fun H => k ⟨⟨fn, nt, tm, todo, df, rnd, dk⟩, cs, H⟩
theorem sOb_eq {β : Type} (o : Option Ob) (k : Option Ob → β) : sOb o k = k o := by
  cases o with
  | none => rfl
  | some o => cases o <;> rfl
theorem sHp_eq {β : Type} : ∀ (H : Heap) (k : Heap → β), sHp H k = k H
  | [], k => rfl
  | o :: r, k => by rw [sHp, sOb_eq, sHp_eq]
theorem sC_eq {β : Type} (C : Cfg) (k : Cfg → β) : sC C k = k C := by
  obtain ⟨⟨fn, nt, tm, todo, df, rnd, dk⟩, cs, H⟩ := C
  unfold sC
  dsimp only
  cases tm <;> cases todo <;> (unfold sTm sTodo; dsimp only; exact sHp_eq _ _)

def xrunS (E : Env) (K : Ctr) : Nat → Run
  | 0 => fun orc ok C => some (ok, orc, C)
  | n + 1 => fun orc ok C =>
    match done C with
    | true => some (ok, orc, C)
    | false => match xstep E K (callBy E K (xrunS E K n)) orc C with
      | some (ok', orc', C') => sC C' fun C' => xrunS E K n orc' (ok' ++ ok) C'
      | none => none
theorem xrunS_eq (E : Env) (K : Ctr) : ∀ n, xrunS E K n = xrun E K n
  | 0 => rfl
  | n + 1 => by
    funext orc ok C
    simp only [xrunS, xrun, xrunS_eq E K n, sC_eq]
    rfl
def xgoS (E : Env) (K : Ctr) (N : Nat) : Nat → Run
  | 0 => fun orc ok C => some (ok, orc, C)
  | n + 1 => fun orc ok C =>
    match done C with
    | true => some (ok, orc, C)
    | false => match xstep E K (callBy E K (xrunS E K N)) orc C with
      | some (ok', orc', C') => sC C' fun C' => xgoS E K N n orc' (ok' ++ ok) C'
      | none => none
theorem xgoS_eq (E : Env) (K : Ctr) (N : Nat) : ∀ n, xgoS E K N n = xgo E K N n
  | 0 => rfl
  | n + 1 => by
    funext orc ok C
    simp only [xgoS, xgo, xgoS_eq E K N n, xrunS_eq, sC_eq]

/-- n steps, and what is not named is forgotten. -/
def goGc (E : Env) (K : Ctr) (N n : Nat) (ds : Option (List Bool)) (keep live : List Nat) (C : Cfg) : Option (List Bool × Cfg) :=
  match xgoS E K N n ds [] C with
  | some (ok, _, C') => match gc E keep live C' with
    | some (ok2, C2) => some (ok2 ++ ok, C2)
    | none => none
  | none => none

theorem reach_gg {E : Env} {K : Ctr} (hK : KOk E K) {N n : Nat} {ds : Option (List Bool)} {keep live : List Nat} {C C' : Cfg} {ok : List Bool} {B : Nat} (h : goGc E K N n ds keep live C = some (ok, C')) (hok : AllT ok) (hB : B ≤ C.H.length) (hk : ∀ i, i < B → keep.getD i 0 = i) : Gets E B C C' := by
  unfold goGc at h
  rw [xgoS_eq] at h
  split at h
  · rename_i ok1 orc' C1 h1
    split at h
    · rename_i ok2 C2 h2
      cases h
      obtain ⟨k2, k1⟩ := AllT.app.1 hok
      exact (reach_go hK h1 k1 hB).trans (reach_gc h2 k2 hk)
    · cases h
  · cases h

/-- n steps to the end, what is not named is forgotten, and what is handed back. -/
def goEnd (E : Env) (K : Ctr) (N n : Nat) (ds : Option (List Bool)) (keep live : List Nat) (C : Cfg) : Option (List Bool × Value × Heap) :=
  match goGc E K N n ds keep live C with
  | some (ok, C') => match leaveA E C' with
    | some (ok2, v, H) => some (ok2 ++ ok, v, H)
    | none => none
  | none => none

theorem callOk_of_end {E : Env} {K : Ctr} (hK : KOk E K) {g : FuncId} {args : List Value} {H H' : Heap} {C : Cfg} {N n : Nat} {ds : Option (List Bool)} {keep live : List Nat} {ok : List Bool} {v : Value} (hs : canStart E g args = true) (hr : Gets E H.length (startC E g args H) C)
    (h : goEnd E K N n ds keep live C = some (ok, v, H')) (hok : AllT ok) (hB : H.length ≤ C.H.length) (hk : ∀ i, i < H.length → keep.getD i 0 = i) (hlen : H.length ≤ H'.length) : CallOk E g args H v H' := by
  unfold goEnd at h
  split at h
  · rename_i ok1 C1 h1
    split at h
    · rename_i ok2 v2 H2 h2
      cases h
      obtain ⟨k2, k1⟩ := AllT.app.1 hok
      exact callOk_of_reach hs (hr.trans (reach_gg hK h1 k1 hB hk)) h2 k2 hlen
    · cases h
  · cases h

theorem calls_of_end {E : Env} {K : Ctr} (hK : KOk E K) {g : FuncId} {args : List Value} {args' : Array Value} {w : World} {H' : Heap} {C : Cfg} {N n : Nat} {ds : Option (List Bool)} {keep live : List Nat} {ok : List Bool} {b : Bool} (hs : canStart E g args = true) (hr : Gets E 0 (startC E g args []) C)
    (h : goEnd E K N n ds keep live C = some (ok, .bool b, H')) (hok : AllT ok) (hfn : (match goGc E K N n ds keep live C with | some (_, C') => C'.fr.fn | none => g + 1) = g) (hb : b = true) (ha : ∀ ρ, VL (prOf w) (AN []) ρ args args'.toList) :
    Calls E.P g args' w fun e w' => e = .returned (.bool true) ∧ Stays w w' := by
  unfold goEnd at h
  split at h
  · rename_i ok1 C1 h1
    rw [h1] at hfn
    split at h
    · rename_i ok2 v2 H2 h2
      cases h
      obtain ⟨k2, k1⟩ := AllT.app.1 hok
      exact calls_of_reach hs (hr.trans (reach_gg hK h1 k1 (Nat.zero_le _) (fun i hi => absurd hi (Nat.not_lt_zero _)))) hfn h2 k2 hb ha
    · cases h
  · cases h

end Go.Am
