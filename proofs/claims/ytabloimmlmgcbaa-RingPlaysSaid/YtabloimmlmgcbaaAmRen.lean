/-
  The abstract machine: names changed, blocks and temporaries forgotten, empty rows instead of none; a call in a part of memory.
-/
import Derived.Test.YtabloimmlmgcbaaAmRun
namespace Go.Am

def mapO (f : Value → Option Value) : List Value → Option (List Value)
  | [] => some []
  | v :: r => match f v, mapO f r with
    | some u, some s => some (u :: s)
    | _, _ => none

/-- A value under new names. -/
def renV (m : Nat → Option Nat) : Nat → Value → Option Value
  | 0, _ => none
  | d + 1, v =>
    match v with
    | .bool b => some (.bool b)
    | .int k n => some (.int k n)
    | .string s => some (.string s)
    | .pointer none => some (.pointer none)
    | .pointer (some ⟨i, o, none⟩) => match m i with
      | some j => some (.pointer (some ⟨j, o, none⟩))
      | none => none
    | .slice none 0 0 => some (.slice none 0 0)
    | .slice (some ⟨i, o, none⟩) n c => match m i with
      | some j => some (.slice (some ⟨j, o, none⟩) n c)
      | none => none
    | .nilFunc => some .nilFunc
    | .nilIface => some .nilIface
    | .iface n (.agg cs) => some (.iface n (.agg cs))
    | .iface n (.tuple cs) => some (.iface n (.tuple cs))
    | .func (.func g) fs cs => match mapO (renV m d) fs.toList, mapO (renV m d) cs.toList with
      | some a, some b => some (.func (.func g) a.toArray b.toArray)
      | _, _ => none
    | .func (.yield l) fs cs => match m l, mapO (renV m d) fs.toList with
      | some j, some a => some (.func (.yield j) a.toArray cs)
      | _, _ => none
    | .agg cs => match mapO (renV m d) cs.toList with
      | some a => some (.agg a.toArray)
      | none => none
    | .tuple cs => match mapO (renV m d) cs.toList with
      | some a => some (.tuple a.toArray)
      | none => none
    | _ => none

section
variable {Pr : Prot} {A A' : Nat → Prop} {ρ ρ' : Nat → Nm} {m : Nat → Option Nat}

theorem mapO_sound {f : Value → Option Value} (hf : ∀ v u v', f v = some u → VR Pr A ρ v v' → VR Pr A' ρ' u v') : ∀ {l u l' : List Value}, mapO f l = some u → VL Pr A ρ l l' → VL Pr A' ρ' u l'
  | [], u, l', h, hl => by cases h; cases hl; exact .nil
  | v :: r, u, l', h, hl => by
    simp only [mapO] at h
    split at h
    · rename_i a b h1 h2
      cases h
      cases hl with
      | cons hv ht => exact .cons (hf _ _ _ h1 hv) (mapO_sound hf h2 ht)
    · cases h

theorem VL.arr {l : List Value} {a b : Array Value} (h : VL Pr A ρ l b.toList) (ha : a = l.toArray) : a.size = b.size ∧ ∀ k, k < a.size → VR Pr A ρ (a.getD k undef) (b.getD k undef) := by
  subst ha
  refine ⟨by simpa using h.length, fun k hk => ?_⟩
  have := h.get k (by simpa using hk)
  simpa [Array.getD_eq_getD_getElem?, List.getD_eq_getElem?_getD] using this

theorem renV_sound (hm : ∀ i j, m i = some j → A' j ∧ ρ' j = ρ i) : ∀ d v u v', renV m d v = some u → VR Pr A ρ v v' → VR Pr A' ρ' u v'
  | 0, v, u, v', h, _ => by cases h
  | d + 1, v, u, v', h, hv => by
    have ih := renV_sound hm d
    simp only [renV] at h
    split at h
    · cases h; cases hv; exact .bool _
    · cases h; cases hv; exact .int _ _
    · cases h; cases hv; exact .str _
    · cases h; cases hv; exact .pnil
    · split at h
      · rename_i i o j hj
        cases h
        obtain ⟨h1, h2⟩ := hm _ _ hj
        cases hv with
        | ptr _ _ hA => rw [← h2]; exact .ptr _ _ h1
      · cases h
    · cases h; cases hv; exact .snil
    · split at h
      · rename_i i o n c j hj
        cases h
        obtain ⟨h1, h2⟩ := hm _ _ hj
        cases hv with
        | slx _ _ _ _ hA hf hn => rw [← h2]; exact .slx _ _ _ _ h1 (by rw [h2]; exact hf) hn
        | slf _ _ _ _ c' z hA hp hf q1 q2 q3 => rw [← h2]; exact .slf _ _ _ _ _ z h1 (by rw [h2]; exact hp) (by rw [h2]; exact hf) q1 (by rw [h2]; exact q2) q3
        | sl0 _ _ _ a hA => exact .sl0 _ _ _ _ h1
        | nl0 _ _ _ hA => exact .nl0 _ _ _ h1
      · cases h
    · cases h; cases hv; exact .fnil
    · cases h; cases hv; exact .inil
    · cases h
      cases hv with
      | rov _ _ b o c' f hn h hv => exact .rov _ _ b o c' f hn h hv
      | rov0 _ a c' h => exact .rov0 _ a c' h
    · cases h
      cases hv with
      | rop _ _ b o f h hv => exact .rop _ _ b o f h hv
    · split at h
      · rename_i g fs cs a b h1 h2
        cases h
        cases hv with
        | func _ _ _ fs' cs' q1 q2 q3 q4 =>
          have r1 := mapO_sound ih h1 (VL.toArray q1 q3)
          have r2 := mapO_sound ih h2 (VL.toArray q2 q4)
          have s1 := r1.arr rfl
          have s2 := r2.arr rfl
          exact .func _ _ _ _ _ s1.1 s2.1 s1.2 s2.2
      · cases h
    · split at h
      · rename_i l fs cs j a hj h1
        cases h
        obtain ⟨p1, p2⟩ := hm _ _ hj
        cases hv with
        | yld _ _ _ fs' cs' hA q1 q2 =>
          have r1 := mapO_sound ih h1 (VL.toArray q1 q2)
          have s1 := r1.arr rfl
          rw [← p2]
          exact .yld _ _ _ _ _ p1 s1.1 s1.2
      · cases h
    · split at h
      · rename_i cs a h1
        cases h
        cases hv with
        | agg _ cs' q1 q2 =>
          have s1 := (mapO_sound ih h1 (VL.toArray q1 q2)).arr rfl
          exact .agg _ _ s1.1 s1.2
      · cases h
    · split at h
      · rename_i cs a h1
        cases h
        cases hv with
        | tup _ cs' q1 q2 =>
          have s1 := (mapO_sound ih h1 (VL.toArray q1 q2)).arr rfl
          exact .tup _ _ s1.1 s1.2
      · cases h
    · cases h

theorem VR.flatTo {v v' : Value} (hf : Am.flat v = true) (h : VR Pr A ρ v v') : VR Pr A' ρ' v v' := by
  unfold Am.flat at hf
  split at hf <;> first | (cases hf; done) | (cases h; first | exact .bool _ | exact .int _ _ | exact .str _ | exact .pnil | exact .snil | exact .fnil | exact .inil)

theorem VL.flatTo : ∀ {l l' : List Value}, l.all Am.flat = true → VL Pr A ρ l l' → VL Pr A' ρ' l l'
  | [], _, _, h => by cases h; exact .nil
  | v :: l, _, hf, h => by
    simp only [List.all_cons, Bool.and_eq_true] at hf
    cases h with
    | cons h t => exact .cons (h.flatTo hf.1) (VL.flatTo hf.2 t)

/-- A type whose values name nothing. -/
def nameless (E : Env) (e : TypeId) : Bool :=
  match E.ty e with
  | some i => i.leaves.all fun | .other => false | .row => false | _ => true
  | none => false

def renCells (E : Env) (m : Nat → Option Nat) (cs : List Value) (e : TypeId) : Option (List Bool × List Value) :=
  match nameless E e with
  | true => some ([cs.all flat], cs)
  | false => match mapO (renV m 5) cs with
    | some u => some ([], u)
    | none => none

theorem renCells_sound {E : Env} (hm : ∀ i j, m i = some j → A' j ∧ ρ' j = ρ i) {cs u c : List Value} {e : TypeId} {ok : List Bool} (h : renCells E m cs e = some (ok, u)) (hok : AllT ok) (hv : VL Pr A ρ cs c) : VL Pr A' ρ' u c ∧ u.length = cs.length ∧ (cs = [] → u = []) := by
  unfold renCells at h
  split at h
  · cases h
    exact ⟨hv.flatTo (AllT.cons.1 hok).1, rfl, id⟩
  · split at h
    · rename_i u' h1
      cases h
      have := mapO_sound (renV_sound hm 5) h1 hv
      refine ⟨this, by rw [this.length, hv.length], fun h0 => ?_⟩
      subst h0
      cases h1; rfl
    · cases h

def renO (m : Nat → Option Nat) (k : Bool) (x : Option Value) : Option Value :=
  match k with
  | true => match x with
    | some v => renV m 6 v
    | none => none
  | false => none

def renL (m : Nat → Option Nat) (keep : Nat → Bool) : List (Nat × Value) → List (Nat × Value)
  | [] => []
  | (i, v) :: r => match keep i, renV m 6 v with
    | true, some u => (i, u) :: renL m keep r
    | _, _ => renL m (fun j => if j = i then false else keep j) r

/-- Temporaries under new names; those that are not kept, and those that name what is gone, are forgotten. -/
def renTm (m : Nat → Option Nat) (keep : Nat → Bool) : Tm → Tm
  | .al l => .al (renL m keep l)
  | .node v l r => .node (renO m (keep 0) v) (renTm m (fun j => keep (2 * j + 1)) l) (renTm m (fun j => keep (2 * j + 2)) r)

theorem renL_get {keep : Nat → Bool} : ∀ {l : List (Nat × Value)} {i : Nat} {u : Value}, (renL m keep l).lookup i = some u → ∃ v, l.lookup i = some v ∧ renV m 6 v = some u ∧ keep i = true
  | [], i, u, h => by simp [renL] at h
  | (j, v) :: r, i, u, h => by
    simp only [renL] at h
    split at h
    · rename_i w hk hw
      simp only [List.lookup_cons] at h ⊢
      cases he : i == j with
      | true =>
        rw [he] at h
        cases h
        have : i = j := by simpa using he
        exact ⟨v, rfl, hw, by rw [this]; exact hk⟩
      | false =>
        rw [he] at h
        exact renL_get h
    · obtain ⟨x, h1, h2, h3⟩ := renL_get h
      by_cases hij : i = j
      · simp [hij] at h3
      · have he : (i == j) = false := by simpa using hij
        simp only [List.lookup_cons, he]
        rw [if_neg hij] at h3
        exact ⟨x, h1, h2, h3⟩

theorem renTm_get : ∀ {tm : Tm} {keep : Nat → Bool} {i : Nat} {u : Value}, getT (renTm m keep tm) i = some u → ∃ v, getT tm i = some v ∧ renV m 6 v = some u
  | .al l, keep, i, u, h => by
    obtain ⟨v, h1, h2, _⟩ := renL_get h
    exact ⟨v, h1, h2⟩
  | .node x l r, keep, i, u, h => by
    simp only [renTm, getT] at h ⊢
    cases h0 : Nat.beq i 0 with
    | true =>
      rw [h0] at h
      simp only [cond_true] at h ⊢
      unfold renO at h
      split at h
      · split at h
        · exact ⟨_, rfl, h⟩
        · cases h
      · cases h
    | false =>
      rw [h0] at h
      simp only [cond_false] at h ⊢
      cases h1 : Nat.beq (Nat.mod i 2) 1 with
      | true =>
        rw [h1] at h
        exact renTm_get h
      | false =>
        rw [h1] at h
        exact renTm_get h

theorem TmR.ren (hm : ∀ i j, m i = some j → A' j ∧ ρ' j = ρ i) {keep : Nat → Bool} {tm : Tm} {nt : Nat} {t : Array Value} (h : TmR Pr A ρ tm nt t) : TmR Pr A' ρ' (renTm m keep tm) nt t :=
  ⟨h.size, fun i u hu => by
    obtain ⟨v, h1, h2⟩ := renTm_get hu
    obtain ⟨v', h3, h4⟩ := h.get i v h1
    exact ⟨v', h3, renV_sound hm 6 _ _ _ h2 h4⟩⟩

def all1 : Nat → Bool := fun _ => true

def renOb (E : Env) (m : Nat → Option Nat) : Ob → Option (List Bool × Ob)
  | .cells cs e g => match renCells E m cs e with
    | some (ok, u) => some (ok, .cells u e g)
    | none => none
  | .loop st pd fn tm nt ps as bd ds => match m ds with
    | some d => some ([], .loop st pd fn (renTm m all1 tm) nt ps as bd d)
    | none => none
  | .defs live => some ([], .defs live)
  | .obj J => some ([], .obj J)
  | .log cs e z => some ([], .log cs e z)
  | .fro cs e z => some ([], .fro cs e z)

/-- Plain cells do not hang on names. -/
theorem CellsR.flatMono {cs : List Value} {e : TypeId} {g : Option Nat} {x : Nm} {hp : Array Obj} (hf : cs.all flat = true) (h : CellsR Pr A ρ cs e g x hp) : CellsR Pr A' ρ' cs e g x hp := by
  obtain ⟨c, fz, q1, q2, q3, q4, q5, q6, q7⟩ := h
  refine ⟨c, fz, q1, q2, q3, q4, q5, q6, ?_⟩
  rw [VL.flatEq q7 hf]
  exact VL.flat hf
theorem renOb_sound {E : Env} (hm : ∀ i j, m i = some j → A' j ∧ ρ' j = ρ i) {ob ob' : Ob} {ok : List Bool} {x : Nm} {hp : Array Obj} (h : renOb E m ob = some (ok, ob')) (hok : AllT ok) (ho : OR0 Pr A ρ x hp ob) : OR0 Pr A' ρ' x hp ob' := by
  cases ob with
  | cells cs e g =>
    simp only [renOb] at h
    split at h
    · rename_i ok1 u h1
      cases h
      obtain ⟨c, fz, q1, q2, q3, q4, q5, q6, q7⟩ := ho
      obtain ⟨r1, r2, _⟩ := renCells_sound hm h1 hok q7
      refine ⟨c, fz, q1, q2, by omega, q4, q5, fun hg => ?_, by rw [r2]; exact r1⟩
      have := q6 hg
      exact ⟨this.1, by omega⟩
    · cases h
  | loop st pd fn tm nt ps as bd ds =>
    simp only [renOb] at h
    split at h
    · rename_i d hd
      cases h
      obtain ⟨t, q1, q2, q3⟩ := ho
      obtain ⟨p1, p2⟩ := hm _ _ hd
      exact ⟨t, by rw [p2]; exact q1, q2.ren hm, p1⟩
    · cases h
  | defs live =>
    cases h
    exact ho
  | obj J => exact absurd ho id
  | log cs e z =>
    cases h
    exact ⟨ho.1.flatMono ho.2, ho.2⟩
  | fro cs e z => exact absurd ho id
theorem renOb_fro {E : Env} {ob : Ob} {cs : List Value} {e : TypeId} {z : Nat} {ok : List Bool} (h : renOb E m ob = some (ok, .fro cs e z)) : ob = .fro cs e z := by
  cases ob with
  | cells cs e g => simp only [renOb] at h; split at h <;> cases h
  | loop st pd fn tm nt ps as bd ds => simp only [renOb] at h; split at h <;> cases h
  | defs live => cases h
  | obj J => cases h
  | log cs e z => cases h
  | fro cs e z => cases h; rfl
theorem renOb_isFro {E : Env} {ob ob' : Ob} {ok : List Bool} (h : renOb E m ob = some (ok, ob')) (hf : isFro ob' = false) : isFro ob = false := by
  cases ob with
  | fro cs e z => cases h; cases hf
  | _ => rfl
theorem renOb_obj {E : Env} {J : Heap} {ob' : Ob} {ok : List Bool} (h : renOb E m (.obj J) = some (ok, ob')) : ob' = .obj J := by
  cases h; rfl

theorem renOb_ph {E : Env} {ob ob' : Ob} {ok : List Bool} {x : Nm} (h : renOb E m ob = some (ok, ob')) (ho : PhOb x ob) : PhOb x ob' := by
  obtain ⟨h1, e, z, rfl, h2⟩ := ho
  simp only [renOb] at h
  split at h
  · rename_i ok1 u h3
    cases h
    refine ⟨h1, e, z, ?_, h2⟩
    unfold renCells at h3
    split at h3
    · cases h3; rfl
    · simp [mapO] at h3
      obtain ⟨_, rfl⟩ := h3
      rfl
  · cases h

def renOs (E : Env) (m : Nat → Option Nat) : Option Ob → Option (List Bool × Option Ob)
  | none => some ([], none)
  | some ob => match renOb E m ob with
    | some (ok, ob') => some (ok, some ob')
    | none => none

/-- The blocks of a list of names, under new names. -/
def renH (E : Env) (m : Nat → Option Nat) (H : Heap) : List Nat → Option (List Bool × Heap)
  | [] => some ([], [])
  | i :: r => match renOs E m (getO H i), renH E m H r with
    | some (ok1, o), some (ok2, H') => some (ok1 ++ ok2, o :: H')
    | _, _ => none

theorem renH_get {E : Env} {H : Heap} : ∀ {l : List Nat} {ok : List Bool} {H' : Heap}, renH E m H l = some (ok, H') → AllT ok → H'.length = l.length ∧
    ∀ j i, l[j]? = some i → (getO H i = none ∧ getO H' j = none) ∨ ∃ ob ob' ok', getO H i = some ob ∧ getO H' j = some ob' ∧ renOb E m ob = some (ok', ob') ∧ AllT ok'
  | [], ok, H', h, _ => by cases h; exact ⟨rfl, fun j i h => by simp at h⟩
  | i :: r, ok, H', h, hok => by
    simp only [renH] at h
    split at h
    · rename_i ok1 o ok2 H2 h1 h2
      cases h
      obtain ⟨k1, k2⟩ := AllT.app.1 hok
      obtain ⟨g1, g2⟩ := renH_get h2 k2
      refine ⟨by simp [g1], fun j i' hj => ?_⟩
      cases j with
      | zero =>
        simp only [List.getElem?_cons_zero, Option.some.injEq] at hj
        subst hj
        unfold renOs at h1
        split at h1
        · rename_i hn
          cases h1
          exact .inl ⟨hn, rfl⟩
        · rename_i ob hob
          split at h1
          · rename_i ok3 ob' hr
            cases h1
            exact .inr ⟨ob, ob', _, hob, rfl, hr, k1⟩
          · cases h1
      | succ j =>
        rcases g2 j i' (by simpa using hj) with ⟨q1, q2⟩ | ⟨ob, ob', ok', q1, q2, q3⟩
        · exact .inl ⟨q1, by simpa [getO] using q2⟩
        · exact .inr ⟨ob, ob', ok', q1, by simpa [getO] using q2, q3⟩
    · cases h

/-- Where a name stands in a list. -/
def place (i : Nat) : List Nat → Nat → Option Nat
  | [], _ => none
  | j :: r, k => if i = j then some k else place i r (k + 1)

theorem place_get {i : Nat} : ∀ {l : List Nat} {k j : Nat}, place i l k = some j → ∃ n, j = k + n ∧ l[n]? = some i
  | [], k, j, h => by cases h
  | a :: r, k, j, h => by
    simp only [place] at h
    split at h
    · rename_i he
      cases h
      exact ⟨0, rfl, by simp [he]⟩
    · obtain ⟨n, h1, h2⟩ := place_get h
      exact ⟨n + 1, by omega, by simpa using h2⟩

def nodup : List Nat → Bool
  | [] => true
  | i :: r => !r.contains i && nodup r

theorem nodup_inj : ∀ {l : List Nat}, nodup l = true → ∀ (a b x : Nat), l[a]? = some x → l[b]? = some x → a = b
  | [], _, a, b, x, h, _ => by simp at h
  | i :: r, hn, a, b, x, h1, h2 => by
    simp only [nodup, Bool.and_eq_true, Bool.not_eq_true'] at hn
    cases a with
    | zero =>
      cases b with
      | zero => rfl
      | succ b =>
        simp only [List.getElem?_cons_zero, Option.some.injEq] at h1
        subst h1
        have : i ∈ r := List.mem_of_getElem? (by simpa using h2)
        simp [this] at hn
    | succ a =>
      cases b with
      | zero =>
        simp only [List.getElem?_cons_zero, Option.some.injEq] at h2
        subst h2
        have : i ∈ r := List.mem_of_getElem? (by simpa using h1)
        simp [this] at hn
      | succ b => rw [nodup_inj hn.2 a b x (by simpa using h1) (by simpa using h2)]

/-- The new names of a list of old ones. -/
def toNew (l : List Nat) : Nat → Option Nat := fun i => place i l 0
def back' (ρ : Nat → Nm) (l : List Nat) : Nat → Nm := fun j => ρ (l.getD j 0)

theorem toNew_ok {l : List Nat} (hA : ∀ j, j < l.length → A' j) : ∀ i j, toNew l i = some j → A' j ∧ back' ρ l j = ρ i := by
  intro i j h
  obtain ⟨n, h1, h2⟩ := place_get h
  have : j = n := by omega
  subst this
  refine ⟨hA j (List.getElem?_eq_some_iff.1 h2).1, ?_⟩
  unfold back'
  rw [List.getD_eq_getElem?_getD, h2]
  rfl

theorem place_some {i : Nat} : ∀ {l : List Nat} {k j : Nat}, l[j]? = some i → ∃ n, place i l k = some n
  | [], k, j, h => by simp at h
  | a :: r, k, j, h => by
    by_cases he : i = a
    · exact ⟨k, by simp [place, he]⟩
    · cases j with
      | zero => simp at h; exact absurd h.symm he
      | succ j =>
        obtain ⟨n, hn⟩ := place_some (k := k + 1) (by simpa using h : r[j]? = some i)
        exact ⟨n, by simp [place, he, hn]⟩
theorem toNew_at {l : List Nat} (hn : nodup l = true) {j i : Nat} (h : l[j]? = some i) : toNew l i = some j := by
  obtain ⟨n, h1⟩ := place_some (k := 0) h
  obtain ⟨n', h2, h3⟩ := place_get h1
  have : n' = j := nodup_inj hn n' j i h3 h
  subst this
  have hh : n = n' := by omega
  subst hh
  exact h1

theorem HRo.ren1 {E : Env} {own : Nat → Option Nat} {H H' : Heap} {hp : Array Obj} {l : List Nat} {ok : List Bool} (hn : nodup l = true) (h : renH E (toNew l) H l = some (ok, H')) (hok : AllT ok) (hH : HRo Pr A ρ own H hp) : ∃ own', HRo Pr (AN H') (back' ρ l) own' H' hp ∧ ∀ b j, own' b = some j → ∃ i, own b = some i ∧ l[j]? = some i := by
  obtain ⟨g1, g2⟩ := renH_get h hok
  have hm := toNew_ok (A' := AN H') (ρ := ρ) (l := l) (fun j hj => by unfold AN; omega)
  have hcase : ∀ j ob', getO H' j = some ob' → ∃ i ob ok', l[j]? = some i ∧ getO H i = some ob ∧ renOb E (toNew l) ob = some (ok', ob') ∧ AllT ok' := by
    intro j ob' hj
    have hlt := getO_lt hj
    obtain ⟨i, hi⟩ : ∃ i, l[j]? = some i := ⟨_, List.getElem?_eq_getElem (by omega)⟩
    rcases g2 j i hi with ⟨_, q⟩ | ⟨ob, ob2, ok', q1, q2, q3⟩
    · rw [q] at hj; cases hj
    · rw [q2] at hj
      cases hj
      exact ⟨i, ob, ok', hi, q1, q3⟩
  have hb : ∀ j i, l[j]? = some i → back' ρ l j = ρ i := by
    intro j i h
    unfold back'
    rw [List.getD_eq_getElem?_getD, h]
    rfl
  have hown : ∀ j i, l[j]? = some i → ∀ b, own b = some i → (own b).bind (toNew l) = some j := by
    intro j i hi b hb
    rw [hb]
    show toNew l i = some j
    exact toNew_at hn hi
  refine ⟨fun b => (own b).bind (toNew l), ⟨hH.pr, fun j ob' hj => getO_lt hj, fun j ob' hj hf => ?_, fun j cs e z hj => ?_, fun b j hb => ?_⟩, fun b j hb => ?_⟩
  · obtain ⟨i, ob, ok', q1, q2, q3, q4⟩ := hcase j ob' hj
    rw [hb j i q1]
    rcases hH.ob i ob q2 (renOb_isFro q3 hf) with r | ⟨r1, r2, r3⟩
    · exact .inl (renOb_ph q3 r)
    · refine .inr ⟨r1, ?_, hown j i q1 _ r3⟩
      rcases r2 with r2 | ⟨J, rfl, r2⟩
      · exact .inl (renOb_sound hm q3 q4 r2)
      · rw [renOb_obj q3]
        exact .inr ⟨J, rfl, r2.mono (fun _ _ h => h) (fun b hb => hown j i q1 b hb) (fun _ _ => rfl)⟩
  · obtain ⟨i, ob, ok', q1, q2, q3, q4⟩ := hcase j _ hj
    have e1 := renOb_fro q3
    subst e1
    obtain ⟨f1, f0, f2, f3, f4⟩ := hH.fr i cs e z q2
    unfold FroR
    rw [hb j i q1]
    refine ⟨f1, f0, f2.flatMono f3, f3, fun k hk => ?_⟩
    have hk : (own (ρ i).blk).bind (toNew l) = some k := hk
    cases ho : own (ρ i).blk with
    | none => rw [ho] at hk; cases hk
    | some n =>
      rw [ho] at hk
      obtain ⟨n', h1, h2⟩ := place_get (show place n l 0 = some k from hk)
      have : n' = k := by omega
      subst this
      obtain ⟨cj, ej, zj, w1, w2⟩ := f4 n ho
      rcases g2 n' n h2 with ⟨w3, _⟩ | ⟨ob, ob2, ok2, w3, w4, w5, _⟩
      · rw [w1] at w3; cases w3
      · rw [w1] at w3
        cases w3
        cases w5
        exact ⟨cj, ej, zj, w4, by rw [hb n' n h2]; exact w2⟩
  · cases ho : own b with
    | none => rw [ho] at hb; cases hb
    | some i => exact hH.ow b i ho

  · have hb : (own b).bind (toNew l) = some j := hb
    cases ho : own b with
    | none => rw [ho] at hb; cases hb
    | some i =>
      rw [ho] at hb
      obtain ⟨n, h1, h2⟩ := place_get (show place i l 0 = some j from hb)
      have : n = j := by omega
      subst this
      exact ⟨i, rfl, h2⟩
theorem HR.ren {E : Env} {H H' : Heap} {hp : Array Obj} {l : List Nat} {ok : List Bool} (hn : nodup l = true) (h : renH E (toNew l) H l = some (ok, H')) (hok : AllT ok) (hH : HR Pr A ρ H hp) : HR Pr (AN H') (back' ρ l) H' hp := by
  obtain ⟨own, hH⟩ := hH
  obtain ⟨own', h1, _⟩ := hH.ren1 hn h hok
  exact ⟨own', h1⟩

def idL : List Nat → Nat → Nat → Bool
  | [], k, n => Nat.beq k n
  | i :: r, k, n => Nat.beq i k && idL r (k + 1) n
theorem idL_get : ∀ {l : List Nat} {k n : Nat}, idL l k n = true → l.length + k = n ∧ ∀ j, j < l.length → l.getD j 0 = k + j
  | [], k, n, h => ⟨by have := Nat.eq_of_beq_eq_true h; simpa using this, fun j hj => by simp at hj⟩
  | i :: r, k, n, h => by
    simp only [idL, Bool.and_eq_true] at h
    obtain ⟨h1, h2⟩ := idL_get h.2
    refine ⟨by simp; omega, fun j hj => ?_⟩
    cases j with
    | zero => simpa using Nat.eq_of_beq_eq_true h.1
    | succ j =>
      have := h2 j (by simpa using hj)
      rw [List.getD_cons_succ, this]; omega
/-- The same; nothing is looked at where all names stay. -/
def renHi (E : Env) (f : Bool) (l : List Nat) (H : Heap) : Option (List Bool × Heap) :=
  match f with
  | true => match idL l 0 H.length with
    | true => some ([], H)
    | false => none
  | false => renH E (toNew l) H l
theorem renHi_len {E : Env} {f : Bool} {l : List Nat} {H H' : Heap} {ok : List Bool} (h : renHi E f l H = some (ok, H')) (hok : AllT ok) : H'.length = l.length := by
  unfold renHi at h
  split at h
  · split at h
    · rename_i hi
      cases h
      have := (idL_get hi).1
      omega
    · cases h
  · exact (renH_get h hok).1
theorem HR.reni {E : Env} {f : Bool} {H H' : Heap} {hp : Array Obj} {l : List Nat} {ok : List Bool} (hn : nodup l = true) (h : renHi E f l H = some (ok, H')) (hok : AllT ok) (hH : HR Pr (AN H) ρ H hp) : HR Pr (AN H') (back' ρ l) H' hp := by
  unfold renHi at h
  split at h
  · split at h
    · rename_i hi
      cases h
      refine hH.mono_names (fun _ h => h) fun i hi2 => ?_
      unfold back'
      have h1 := (idL_get hi).1
      rw [(idL_get hi).2 i (by unfold AN at hi2; omega), Nat.zero_add]
    · cases h
  · exact hH.ren hn h hok

end
end Go.Am
