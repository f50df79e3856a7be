/-
  The abstract machine: regions whose order is drawn: the whole region.
-/
import Derived.Test.YtabloimmlmgcbaaAmDrawM
namespace Go.Am

theorem tmD_congr {D D' : Nat → Bool} : ∀ {l : List DRec} {k : Nat} {tm : Tm}, (∀ i, i < l.length → D (k + i) = D' (k + i)) → tmD D l k tm = tmD D' l k tm
  | [], _, _, _ => rfl
  | d :: r, k, tm, h => by
    have h0 := h 0 (by simp)
    simp only [Nat.add_zero] at h0
    simp only [tmD, h0]
    exact tmD_congr fun i hi => by have := h (i + 1) (by simpa using hi); simpa [Nat.add_assoc, Nat.add_comm 1 i] using this

theorem tmD_none {D : Nat → Bool} : ∀ {l : List DRec} {k : Nat} {tm : Tm}, (∀ i, D i = false) → tmD D l k tm = tm
  | [], _, _, _ => rfl
  | d :: r, k, tm, h => by
    simp only [tmD, h k, Bool.false_eq_true, if_false]
    exact tmD_none h

theorem filter_lt {p q : Nat → Bool} : ∀ {l : List Nat} {x : Nat}, x ∈ l → p x = true → q x = false → (∀ y, q y = true → p y = true) → (l.filter q).length < (l.filter p).length
  | [], x, h, _, _, _ => by simp at h
  | a :: l, x, h, hp, hq, hi => by
    have hle : (l.filter q).length ≤ (l.filter p).length := by
      clear h
      induction l with
      | nil => simp
      | cons b l ih =>
        simp only [List.filter_cons]
        cases hqb : q b
        · cases hpb : p b <;> simp <;> omega
        · simp [hi b hqb]; omega
    simp only [List.filter_cons]
    rcases List.mem_cons.1 h with rfl | h
    · simp only [hp, hq, if_true, Bool.false_eq_true, if_false, List.length_cons]
      omega
    · have := filter_lt h hp hq hi
      cases hqa : q a
      · cases hpa : p a <;> simp <;> omega
      · simp [hi a hqa]; omega

def unl (ops : Array Oper) (listed : Array Bool) : List Nat := (List.range ops.size).filter fun i => !listed.getD i true

section
variable {E : Env} {Pr : Prot} {R : Caller} {ops : Array Oper} {nt : Nat}
variable {recs : List DRec} {H0 : Heap} {tm0 : Tm} {ρ0 : Nat → Nm} {f0 : Frame} {cs : List Frame} {k : List Item} {w0 : World}

theorem allListed {listed : Array Bool} (hs : listed.size = ops.size) (h : unl ops listed = []) : ∀ i, i < ops.size → listed.getD i false = true := by
  intro i hi
  have : ¬ (i ∈ unl ops listed) := by rw [h]; simp
  unfold unl at this
  rw [List.mem_filter] at this
  have hi' : i < listed.size := by omega
  simp only [List.mem_range, hi, true_and, Array.getD_eq_getD_getElem?, Array.getElem?_eq_getElem hi', Option.getD_some, Bool.not_eq_true', Bool.not_eq_false] at this
  simpa [Array.getD_eq_getD_getElem?, Array.getElem?_eq_getElem hi'] using this

/-- Someone is ready as long as someone is left. -/
theorem readyNil (hedge : ∀ j o e, ops[j]? = some o → e ∈ o.after.toList → Region.binds .any e = true → e.on < j) {listed : Array Bool} (hs : listed.size = ops.size) (h : Region.ready .any ops listed = []) : unl ops listed = [] := by
  have key : ∀ i, i < ops.size → listed.getD i true = true := by
    intro i
    induction i using Nat.strongRecOn with
    | ind i ih =>
      intro hi
      cases hb : listed.getD i true
      · exfalso
        have hmem : i ∈ Region.ready .any ops listed := by
          unfold Region.ready
          rw [List.mem_filter]
          refine ⟨by simpa using hi, ?_⟩
          have ho : ops[i]? = some ops[i] := Array.getElem?_eq_getElem hi
          simp only [hb, Bool.not_false, Bool.true_and, ho, Option.map_some, Option.getD_some]
          rw [← Array.all_toList]
          rw [List.all_eq_true]
          intro e he
          cases hbe : Region.binds .any e
          · rfl
          · have h1 := hedge i _ e ho he hbe
            have h2 := ih e.on h1 (by omega)
            have hl : e.on < listed.size := by omega
            simp only [Array.getD_eq_getD_getElem?, Array.getElem?_eq_getElem hl, Option.getD_some] at h2 ⊢
            simp [h2]
        rw [h] at hmem
        simp at hmem
      · rfl
  unfold unl
  rw [List.filter_eq_nil_iff]
  intro i hi
  simp [key i (by simpa using hi)]

theorem sched {P : Program} {I : (Nat → Bool) → List Nat → Machine → Prop} (hedge : ∀ j o e, ops[j]? = some o → e ∈ o.after.toList → Region.binds .any e = true → e.on < j)
    (hstep : ∀ D j o rest m, ops[j]? = some o → D j = false → Ready ops D j → Closed ops D → I D (j :: rest) m → ∃ m', Steps P m m' ∧ I (fun i => D i || i == j) rest m') :
    ∀ (fuel tq : Nat) (listed : Array Bool) (m : Machine), listed.size = ops.size → (unl ops listed).length ≤ fuel → Closed ops (fun i => listed.getD i false) →
    I (fun i => listed.getD i false) (Region.linearise.go .any ops fuel tq listed []) m →
    ∃ m' D, Steps P m m' ∧ (∀ i, i < ops.size → D i = true) ∧ I D [] m' := by
  intro fuel
  induction fuel with
  | zero =>
    intro tq listed m hs hu hC hI
    have : unl ops listed = [] := List.eq_nil_of_length_eq_zero (by omega)
    exact ⟨m, _, .refl _ _, allListed hs this, by simpa [Region.linearise.go] using hI⟩
  | succ fuel ih =>
    intro tq listed m hs hu hC hI
    simp only [Region.linearise.go] at hI
    change I (fun i => listed.getD i false) (match (Region.ready .any ops listed)[tq % (Region.ready .any ops listed).length]? with
      | some i => Region.linearise.go .any ops fuel (tq / (Region.ready .any ops listed).length) (listed.setIfInBounds i true) [i]
      | none => [].reverse) m at hI
    cases hi : (Region.ready .any ops listed)[tq % (Region.ready .any ops listed).length]? with
    | none =>
      have hnil : Region.ready .any ops listed = [] := by
        cases hr : Region.ready .any ops listed with
        | nil => rfl
        | cons x xs =>
          rw [hr] at hi
          have hlt : tq % (x :: xs).length < (x :: xs).length := Nat.mod_lt _ (by simp)
          simp at hi
          simp at hlt
          omega
      rw [hi] at hI
      exact ⟨m, _, .refl _ _, allListed hs (readyNil hedge hs hnil), by simpa using hI⟩
    | some i =>
      rw [hi] at hI
      simp only at hI
      rw [linearise_go_acc, List.reverse_singleton, List.singleton_append] at hI
      have hmem := List.mem_of_getElem? hi
      unfold Region.ready at hmem
      rw [List.mem_filter] at hmem
      obtain ⟨h1, h2⟩ := hmem
      have hlt : i < ops.size := by simpa using h1
      have hl : i < listed.size := by omega
      have ho : ops[i]? = some ops[i] := Array.getElem?_eq_getElem hlt
      simp only [ho, Option.map_some, Option.getD_some, Bool.and_eq_true] at h2
      obtain ⟨h2, h3⟩ := h2
      have hj : listed.getD i false = false := by
        simp only [Array.getD_eq_getD_getElem?, Array.getElem?_eq_getElem hl, Option.getD_some] at h2 ⊢
        simpa using h2
      have hready : Ready ops (fun i => listed.getD i false) i := by
        intro o e hoo he hb
        rw [ho] at hoo
        cases hoo
        rw [← Array.all_toList, List.all_eq_true] at h3
        have := h3 e he
        simpa [hb] using this
      obtain ⟨m1, s1, hI1⟩ := hstep _ _ _ _ _ ho hj hready hC hI
      have hD : (fun x => listed.getD x false || x == i) = fun x => (listed.setIfInBounds i true).getD x false := by
        funext x
        by_cases hx : x = i
        · subst hx
          simp [Array.getD_eq_getD_getElem?, Array.getElem?_setIfInBounds_self_of_lt hl]
        · have : (x == i) = false := by simpa using hx
          simp [Array.getD_eq_getD_getElem?, Array.getElem?_setIfInBounds_ne (Ne.symm hx), this]
      rw [hD] at hI1
      have hC1 : Closed ops (fun x => (listed.setIfInBounds i true).getD x false) := by
        rw [← hD]
        intro j o e hDj hoo he hb
        simp only [Bool.or_eq_true] at hDj ⊢
        rcases hDj with hDj | hDj
        · exact .inl (hC j o e hDj hoo he hb)
        · have : j = i := by simpa using hDj
          subst this
          exact .inl (hready o e hoo he hb)
      have hu1 : (unl ops (listed.setIfInBounds i true)).length ≤ fuel := by
        have : (unl ops (listed.setIfInBounds i true)).length < (unl ops listed).length := by
          unfold unl
          refine filter_lt (x := i) (by simpa using hlt) h2 ?_ ?_
          · simp [Array.getD_eq_getD_getElem?, Array.getElem?_setIfInBounds_self_of_lt hl]
          · intro y hy
            by_cases hyi : y = i
            · subst hyi
              simp [Array.getD_eq_getD_getElem?, Array.getElem?_setIfInBounds_self_of_lt hl] at hy
            · simpa [Array.getD_eq_getD_getElem?, Array.getElem?_setIfInBounds_ne (Ne.symm hyi)] using hy
        omega
      obtain ⟨m2, D, s2, q1, q2⟩ := ih _ _ m1 (by simpa using hs) hu1 hC1 hI1
      exact ⟨m2, D, s1.trans s2, q1, q2⟩

theorem edgesOk_get : ∀ {l : List Oper} {n : Nat}, edgesOk l n = true → ∀ j o e, l[j]? = some o → e ∈ o.after.toList → Region.binds .any e = true → e.on < n + j
  | [], _, _, _, _, _, h, _, _ => by simp at h
  | a :: r, n, h, j, o, e, ho, he, hb => by
    simp only [edgesOk, Bool.and_eq_true] at h
    cases j with
    | zero =>
      simp only [List.getElem?_cons_zero, Option.some.injEq] at ho
      subst ho
      have := List.all_eq_true.1 h.1 e he
      simpa [hb] using this
    | succ j =>
      have := edgesOk_get h.2 j o e (by simpa using ho) he hb
      omega

theorem clashOk_get {m : Nat} {y : Oper} {l : Bool} : ∀ {r : List Oper} {n : Nat}, clashOk E ops m y l r n = true → ∀ i x, r[i]? = some x → clash E ops x y = true → m.testBit (n + i) = true ∨ (l = true ∧ clashN ops x y = false)
  | [], _, _, _, _, h, _ => by simp at h
  | a :: r, n, h, i, x, hx, hc => by
    simp only [clashOk, Bool.and_eq_true] at h
    cases i with
    | zero =>
      simp only [List.getElem?_cons_zero, Option.some.injEq] at hx
      subst hx
      have h1 := h.1
      simp only [hc, Bool.not_true, Bool.false_or, Bool.or_eq_true, Bool.and_eq_true, Bool.not_eq_true'] at h1
      simpa using h1
    | succ i =>
      have := clashOk_get h.2 i x (by simpa using hx) hc
      simpa [Nat.add_assoc, Nat.add_comm 1 i] using this

theorem statOk_get {ms : List Nat} {all : List Oper} {late : Option Nat} : ∀ {l : List Oper} {n : Nat}, statOk E ops ms all late l n = true → ∀ j y, l[j]? = some y → ∀ i x, i < n + j → all[i]? = some x → clash E ops x y = true → (ms.getD (n + j) 0).testBit i = true ∨ (late = some (n + j) ∧ clashN ops x y = false)
  | [], _, _, _, _, h, _, _, _, _, _ => by simp at h
  | a :: r, n, h, j, y, hy, i, x, hi, hx, hc => by
    simp only [statOk, Bool.and_eq_true] at h
    cases j with
    | zero =>
      simp only [List.getElem?_cons_zero, Option.some.injEq] at hy
      subst hy
      have := clashOk_get h.1 i x (by rw [List.getElem?_take]; simp only [Nat.add_zero] at hi; rw [if_pos hi]; exact hx) hc
      simpa using this
    | succ j =>
      have := statOk_get h.2 j y (by simpa using hy) i x (by omega) hx hc
      simpa [Nat.add_assoc, Nat.add_comm 1 j] using this

theorem hasAll_get {m q : Nat} : ∀ {l : List Oper} {n : Nat}, hasAll E m q l n = true → ∀ i x, l[i]? = some x → isBig E x.op = true → n + i < q → m.testBit (n + i) = true
  | [], _, _, _, _, h, _, _ => by simp at h
  | a :: r, n, h, i, x, hx, hb, hi => by
    simp only [hasAll, Bool.and_eq_true] at h
    cases i with
    | zero =>
      simp only [List.getElem?_cons_zero, Option.some.injEq] at hx
      subst hx
      have h1 := h.1
      have h2 : ¬ q ≤ n := by omega
      simpa [hb, h2] using h1
    | succ i =>
      have := hasAll_get h.2 i x (by simpa using hx) hb (by omega)
      simpa [Nat.add_assoc, Nat.add_comm 1 i] using this

theorem depsOk_get {ms : List Nat} {all : List Oper} {q dq : Nat} : ∀ {l : List Oper} {n : Nat}, depsOk E ms all q dq l n = true → ∀ j y, l[j]? = some y →
    (waitsFor q y = true → hasAll E (ms.getD (n + j) 0) q all 0 = true) ∧ (isBig E y.op = true → q < n + j → (ms.getD (n + j) 0).testBit q = true) ∧ (n + j ≠ q → y.dst ≠ some dq)
  | [], _, _, _, _, h => by simp at h
  | a :: r, n, h, j, y, hy => by
    simp only [depsOk, Bool.and_eq_true] at h
    cases j with
    | zero =>
      simp only [List.getElem?_cons_zero, Option.some.injEq] at hy
      subst hy
      obtain ⟨⟨⟨h1, h2⟩, h3⟩, _⟩ := h
      refine ⟨fun hw => by simpa [hw] using h1, fun hb hq => ?_, fun hn => ?_⟩
      · have : ¬ n ≤ q := by omega
        simpa [hb, this] using h2
      · have : ¬ n = q := by omega
        simpa [this] using h3
    | succ j =>
      have := depsOk_get h.2 j y (by simpa using hy)
      rw [show n + 1 + j = n + (j + 1) by omega] at this
      exact this

/-- The late maker: what is known of it. -/
structure LateK (E : Env) (ops : Array Oper) (tm0 : Tm) (q dq : Nat) (o : Oper) : Prop where
  op : ops[q]? = some o
  maker : isMaker o.op = true
  gd : o.guard = none
  dst : o.dst = some dq
  tm : getT tm0 dq = none
  deps : ∀ j y, ops[j]? = some y → waitsFor q y = true → ∀ i x, ops[i]? = some x → isBig E x.op = true → i < q → Bef ops j i
  bigs : ∀ j y, ops[j]? = some y → isBig E y.op = true → q < j → Bef ops j q
  only : ∀ j y, ops[j]? = some y → j ≠ q → y.dst ≠ some dq

theorem lateOk_get {tm0 : Tm} {q : Nat} (h : lateOk E ops (masksL ops.toList []) tm0 q = true) : ∃ dq o, LateK E ops tm0 q dq o := by
  unfold lateOk at h
  split at h
  · rename_i o ho
    split at h
    · rename_i dq hd
      simp only [Bool.and_eq_true, Option.isNone_iff_eq_none] at h
      obtain ⟨⟨⟨h1, h2⟩, h3⟩, h4⟩ := h
      have hg : ∀ j y, ops[j]? = some y → _ := fun j y hy => depsOk_get h4 j y (by simpa using hy)
      simp only [Nat.zero_add] at hg
      refine ⟨dq, o, ho, h1, h2, hd, h3, fun j y hy hw i x hx hb hi => ?_, fun j y hy hb hq => masks_bef ((hg j y hy).2.1 hb hq), fun j y hy hj => (hg j y hy).2.2 hj⟩
      have := hasAll_get ((hg j y hy).1 hw) i x (by simpa using hx) hb (by omega)
      rw [Nat.zero_add] at this
      exact masks_bef this
    · cases h
  · cases h

theorem dchkI_get {ms : List Nat} {all : List DRec} {d : DRec} {j : Nat} : ∀ {l : List (Nat × Heap)} {ok : List Bool}, dchkI E R ops ms all d j l = some ok → AllT ok → ∀ i H, (i, H) ∈ l → (bigIn E all 0 i j || bigIn E all 0 j i) = true → mayMeet E ms j i all 0 = true → ∃ ok, dchk1 E R ops d H = some ok ∧ AllT ok
  | [], _, _, _, _, _, h, _, _ => by simp at h
  | (i', H') :: r, ok, h, hok, i, H, hm, hb, hmay => by
    simp only [dchkI] at h
    split at h
    · rename_i ok1 hr
      split at h
      · split at h
        · rename_i ok2 hd
          cases h
          obtain ⟨k1, k2⟩ := AllT.app.1 hok
          rcases List.mem_cons.1 hm with hm | hm
          · cases hm; exact ⟨ok2, hd, k1⟩
          · exact dchkI_get hr k2 i H hm hb hmay
        · cases h
      · rename_i hc
        cases h
        rcases List.mem_cons.1 hm with hm | hm
        · cases hm
          rw [hb, hmay] at hc
          exact absurd rfl hc
        · exact dchkI_get hr hok i H hm hb hmay
    · cases h

theorem dchkA_get {ms : List Nat} {all : List DRec} {hs : List (Nat × Heap)} : ∀ {l : List DRec} {n : Nat} {ok : List Bool}, dchkA E R ops ms all hs l n = some ok → AllT ok → ∀ j d, l[j]? = some d → isBig E d.o.op = false → ∀ i H, (i, H) ∈ hs →
    (bigIn E all 0 i (n + j) || bigIn E all 0 (n + j) i) = true → mayMeet E ms (n + j) i all 0 = true → ∃ ok, dchk1 E R ops d H = some ok ∧ AllT ok
  | [], _, _, _, _, _, _, h, _, _, _, _, _, _ => by simp at h
  | a :: r, n, ok, h, hok, j, d, hd, hb, i, H, hm, hbi, hmay => by
    simp only [dchkA] at h
    split at h
    · rename_i ok1 hr
      have hrest : AllT ok1 → ∀ j', j = j' + 1 → ∃ ok, dchk1 E R ops d H = some ok ∧ AllT ok := by
        intro k1 j' hj
        subst hj
        have e : n + 1 + j' = n + (j' + 1) := by omega
        exact dchkA_get hr k1 j' d (by simpa using hd) hb i H hm (by rw [e]; exact hbi) (by rw [e]; exact hmay)
      split at h
      · rename_i hab
        cases h
        cases j with
        | zero =>
          simp only [List.getElem?_cons_zero, Option.some.injEq] at hd
          subst hd
          rw [hb] at hab
          cases hab
        | succ j => exact hrest hok j rfl
      · split at h
        · rename_i ok2 hi
          cases h
          obtain ⟨k1, k2⟩ := AllT.app.1 hok
          cases j with
          | zero =>
            simp only [List.getElem?_cons_zero, Option.some.injEq] at hd
            subst hd
            exact dchkI_get hi k1 i H hm hbi hmay
          | succ j => exact hrest k2 j rfl
        · cases h
    · cases h

section
variable {late : Option Nat} {q dq : Nat} {oq : Oper}

def AllBef (E : Env) (recs : List DRec) (q : Nat) (D : Nat → Bool) : Prop := ∀ (b : Nat) x, b < q → recs[b]? = some x → isBig E x.o.op = true → D b = true

theorem maker_val {H : Heap} {tm : Tm} {o : Op} {nx : Nx} {ok : List Bool} (hmk : isMaker o = true) (h : aop E H tm o = some (nx, ok)) : ∃ v H', nx = .val v H' := by
  cases o <;> simp only [isMaker, Bool.false_eq_true] at hmk
  case alloc e =>
    simp only [aop] at h
    split at h
    · cases h; exact ⟨_, _, rfl⟩
    · cases h
  case makeSlice t l c =>
    simp only [aop, with1] at h
    split at h
    · split at h
      · exact IsVal.makeOp (E := E) _ _ _ _ nx ok h
      · cases h
    · cases h
  case buildSlice t n ps =>
    simp only [aop] at h
    split at h
    · exact IsVal.buildSOp (E := E) _ _ _ _ nx ok h
    · cases h

/-- The late maker has run ahead of what stands ahead of it: its row is put aside. -/
def Aside (E : Env) (Pr : Prot) (ops : Array Oper) (nt : Nat) (recs : List DRec) (H0 : Heap) (tm0 : Tm) (ρ0 : Nat → Nm) (f0 : Frame) (cs : List Frame) (k : List Item) (w0 : World) (q dq : Nat) (D : Nat → Bool) (L : List Nat) (m : Machine) : Prop :=
  D q = true ∧ ¬ AllBef E recs q D ∧ ∃ (d : DRec) (b : Nat) (e : TypeId) (cs1 cs2 : List Value) (u : Value) (hn : Pr.keep b = none), recs[q]? = some d ∧ d.rc.heap d.H = slot d.H (.cells cs1 e none) ∧ d.rc.isTurn = true ∧
    (∀ (A' : Nat → Prop) (ρ' : Nat → Nm), A' d.H.length → VR Pr A' (upd ρ' d.H.length ⟨b, 0, cs2.length, none, false⟩) d.rc.v u) ∧
    At (hide Pr b (.cells cs2.toArray e (0, 0)) hn) (fun A ρ t => t[dq]? = some u ∧ VL Pr A ρ cs1 cs2) ops nt recs H0 tm0 ρ0 f0 cs k w0 (fun i => D i && i != q) L m

def Inv (E : Env) (Pr : Prot) (ops : Array Oper) (nt : Nat) (recs : List DRec) (H0 : Heap) (tm0 : Tm) (ρ0 : Nat → Nm) (f0 : Frame) (cs : List Frame) (k : List Item) (w0 : World) (q dq : Nat) (D : Nat → Bool) (L : List Nat) (m : Machine) : Prop :=
  ((D q = true → AllBef E recs q D) ∧ At Pr (fun _ _ _ => True) ops nt recs H0 tm0 ρ0 f0 cs k w0 D L m) ∨ Aside E Pr ops nt recs H0 tm0 ρ0 f0 cs k w0 q dq D L m

theorem waits_of {y : Oper} {e : Edge} (he : e ∈ y.after.toList) (hb : Region.binds .any e = true) (h : e.on = q) : waitsFor q y = true := by
  unfold waitsFor
  rw [List.any_eq_true]
  exact ⟨e, he, by simp [hb, h]⟩

theorem Inv.step (hK : Known E R ops nt (some q) recs H0 tm0) (hL : LateK E ops tm0 q dq oq) (hR : ROk E R) (hm : f0.mode = .run) {D : Nat → Bool} {j : Nat} {o : Oper} {rest : List Nat} {m : Machine} (ho : ops[j]? = some o) (hj : D j = false)
    (hr : Ready ops D j) (hC : Closed ops D) (hI : Inv E Pr ops nt recs H0 tm0 ρ0 f0 cs k w0 q dq D (j :: rest) m) : ∃ m', Steps E.P m m' ∧ Inv E Pr ops nt recs H0 tm0 ρ0 f0 cs k w0 q dq (fun i => D i || i == j) rest m' := by
  have hrec : ∀ {i : Nat} {x : DRec}, recs[i]? = some x → ops[i]? = some x.o := by
    intro i x hx
    have h : (recs.map (·.o))[i]? = some x.o := by simp [hx]
    rw [hK.os] at h
    simpa using h
  have hallmono : ∀ {D' : Nat → Bool}, (∀ i, D i = true → D' i = true) → AllBef E recs q D → AllBef E recs q D' := fun hd h b x h1 h2 h3 => hd b (h b x h1 h2 h3)
  -- nobody who waits for q is on
  have hnowait : ∀ {D' : Nat → Bool} {y : Oper} {i : Nat}, Closed ops D' → ops[i]? = some y → Ready ops D' i → waitsFor q y = true → AllBef E recs q D' := by
    intro D' y i hC' hy hr' hw b x h1 h2 h3
    exact (hL.deps i y hy hw b x.o (hrec h2) h3 h1).has hC' hr'
  have hreadyOf : ∀ {D' : Nat → Bool} {i : Nat}, Closed ops D' → D' i = true → Ready ops D' i := fun hC' h o e h1 h2 h3 => hC' _ o e h h1 h2 h3
  rcases hI with ⟨hN, hAt⟩ | hA
  · by_cases hq : j = q ∧ ¬ AllBef E recs q D
    · obtain ⟨rfl, hnot⟩ := hq
      obtain ⟨d, hd, hdo⟩ := hK.get ho
      have hoq : oq = o := by have := hL.op; rw [ho] at this; exact (Option.some.inj this).symm
      subst hoq
      obtain ⟨ρ, t, w, rfl, hH, ht, hρ, hlen, hkp, _⟩ := hAt
      obtain ⟨g1, g2, ⟨ok, orc', g3, g4⟩, g5⟩ := facts_get (k := 0) hK.facts hd
      simp only [Nat.zero_add] at g1 g2
      rw [hdo] at g3 g5
      have hlk : ∀ p ∈ looks ops oq, getT (tmD D recs 0 tm0) p = getT d.tm p := by
        intro p hp
        rw [g2, getT_tmD, getT_tmD]
        refine lk_congr fun i x hx hxd => ?_
        simp only [Nat.zero_add]
        have hwr : writes x.o (names ops d.o) = true := writes_of hxd (by rw [hdo]; exact List.mem_append_right _ hp)
        refine hK.clashD hd hj hr hC hx (.inl (by unfold clash; rw [hwr]; rfl)) clash_comm (fun _ _ h => by unfold clashN at h; rw [hwr] at h; cases h) (fun _ _ h => by unfold clashN at h; rw [hwr, Bool.or_true] at h; cases h)
      have hbig : isBig E oq.op = true := by
        have := hL.maker
        cases hop : oq.op <;> rw [hop] at this <;> first | rfl | cases this
      -- what its record says
      obtain ⟨v, H', ok1, ha, hok1, hrc⟩ : ∃ v H' ok1, aop E d.H d.tm oq.op = some (.val v H', ok1) ∧ AllT ok1 ∧ d.rc = .turn v H' := by
        unfold dop at g3
        have hg : gOk ops d.tm oq d.g = some (true, []) := by unfold gOk; rw [hL.gd]
        rw [hg] at g3
        dsimp only at g3
        split at g3
        · rename_i c a b hop
          have := hL.maker
          rw [hop] at this; cases this
        · rename_i c hop
          cases g3
        · rename_i hop1 hop2
          split at g3
          · rename_i v H' ok1 ha
            rw [if_pos hbig] at g3
            cases hd' : d.rc with
            | keep v' => rw [hd'] at g3; cases g3
            | turn v' H2 =>
              rw [hd'] at g3
              cases g3
              exact ⟨v, H', ok1, ha, (AllT.app.1 g4).1, rfl⟩
          · rename_i f args ok1 ha
            obtain ⟨v, H', hv⟩ := maker_val hL.maker ha
            cases hv
          · cases g3
      rw [← aop_congr (tm := tmD D recs 0 tm0) (fun x hx => evalT_congr fun p hp => hlk p (by
        unfold looks
        refine List.mem_append_right _ (mem_tmpsOf.2 ?_)
        rw [← hp]; exact hx))] at ha
      obtain ⟨cs1, cs2, e, u, w', e1, e2, e3, e4, e5, e6⟩ := maker_run (w := w) ht hL.maker ha hok1
      have hdq : dq < nt := by
        unfold dstOk at g5
        rw [hL.dst] at g5
        simpa using g5
      obtain ⟨hn, hH'⟩ := hH.hideNew (.cells cs2.toArray e (0, 0))
      have hnd : ∀ c, oq.op ≠ .defer c := by
        intro c hc
        have := hL.maker
        rw [hc] at this; cases this
      have hfm : ({ f0 with tmps := t, todo := .inRegion ops (j :: rest) :: k } : Frame).mode = .run := hm
      have hstep := step_value (P := E.P) (f := { f0 with tmps := t, todo := .inRegion ops (j :: rest) :: k }) (cs := cs) hfm rfl ho (by unfold Region.wanted; rw [hL.gd]) hnd (.inl e3)
      have hfin : ({ f0 with tmps := t, todo := .inRegion ops (j :: rest) :: k } : Frame).finish u = { f0 with tmps := t.setIfInBounds dq u, todo := .inRegion ops rest :: k } := by
        unfold Frame.finish
        simp only [ho, Option.bind_some, hL.dst]
      rw [hfin] at hstep
      have hDD : (fun i => (D i || i == j) && i != j) = D := by
        funext i
        by_cases hi : i = j
        · subst hi; simp [hj]
        · have h1 : (i == j) = false := by simpa using hi
          have h2 : (i != j) = true := by simpa using hi
          rw [h1, h2]; simp
      have hnone : getT (tmD D recs 0 tm0) dq = none := by
        rw [getT_tmD, hL.tm]
        refine lk_none fun i x hx hxd => ?_
        simp only [Nat.zero_add]
        by_cases hi : i = j
        · subst hi; exact hj
        · exact absurd hxd (hL.only i x.o (hrec hx) hi)
      refine ⟨_, .one hstep, .inr ⟨by simp, fun h => hnot fun b x h1 h2 h3 => ?_, d, w.heap.size, e, cs1, cs2, u, hn, hd, ?_, by rw [hrc]; rfl, ?_, ?_⟩⟩
      · have := h b x h1 h2 h3
        simp only [Bool.or_eq_true] at this
        rcases this with h | h
        · exact h
        · have : b = j := by simpa using h
          omega
      · rw [hrc]; exact e1
      · intro A' ρ' hA'
        rw [hrc]
        exact e6 A' ρ' hA'
      · rw [hDD]
        refine ⟨ρ, _, w', rfl, by rw [e4]; exact hH', ⟨by simpa using ht.size, fun i x hx => ?_⟩, hρ, hlen, hkp.trans e5, ?_, e2⟩
        · have hi : dq ≠ i := by rintro rfl; rw [hnone] at hx; cases hx
          obtain ⟨x', h1, h2⟩ := ht.get i x hx
          exact ⟨x', by rw [Array.getElem?_setIfInBounds_ne hi]; exact h1, h2.mono (Pr := Pr) (Pr' := hide Pr w.heap.size (.cells cs2.toArray e (0, 0)) hn) (fun _ _ h => h) (fun _ h => h) (fun _ _ => rfl)⟩
        · rw [Array.getElem?_setIfInBounds_self_of_lt (by have := ht.size; omega)]
    · obtain ⟨m', s1, hAt'⟩ := hK.step hR hm ho hj hr hC (fun q' h1 h2 b x h3 h4 h5 => by cases h1; exact hN h2 b x h3 h4 h5)
        (fun h1 b x h3 h4 h5 => by
          have hjq : q = j := Option.some.inj h1
          by_cases hall : AllBef E recs q D
          · exact hall b x (by rw [hjq]; exact h3) h4 h5
          · exact absurd ⟨hjq.symm, hall⟩ hq) (fun _ _ _ _ _ _ _ _ _ => trivial) hAt
      refine ⟨m', s1, .inl ⟨fun hDq => ?_, hAt'⟩⟩
      by_cases hjq : j = q
      · subst hjq
        by_cases hall : AllBef E recs j D
        · exact hallmono (fun i hi => by simp [hi]) hall
        · exact absurd ⟨rfl, hall⟩ hq
      · have : D q = true := by
          simp only [Bool.or_eq_true] at hDq
          rcases hDq with h | h
          · exact h
          · exact absurd (by simpa using h : q = j).symm hjq
        exact hallmono (fun i hi => by simp [hi]) (hN this)
  · obtain ⟨hDq, hnot, d, b, e, cs1, cs2, u, hn, hd, hd1, hd2, hd3, hAt⟩ := hA
    have hjq : j ≠ q := by rintro rfl; rw [hDq] at hj; cases hj
    have hnw : ¬ waitsFor q o = true := fun hw => hnot (hnowait hC ho hr hw)
    have hC' : Closed ops (fun i => D i && i != q) := by
      intro i y e hDi hy he hb
      simp only [Bool.and_eq_true] at hDi ⊢
      refine ⟨hC i y e hDi.1 hy he hb, ?_⟩
      have : e.on ≠ q := fun heq => hnot (hnowait hC hy (hreadyOf hC hDi.1) (waits_of he hb heq))
      simpa using this
    have hr' : Ready ops (fun i => D i && i != q) j := by
      intro y e hy he hb
      simp only [Bool.and_eq_true]
      refine ⟨hr y e hy he hb, ?_⟩
      rw [ho] at hy
      cases hy
      have : e.on ≠ q := fun heq => hnw (waits_of he hb heq)
      simpa using this
    have hj' : (fun i => D i && i != q) j = false := by simp [hj]
    obtain ⟨m', s1, hAt'⟩ := hK.step hR hm ho hj' hr' hC' (fun q' h1 h2 => by cases h1; simp at h2) (fun h1 => absurd (Option.some.inj h1).symm hjq) (by
      intro A A' ρ ρ' t v' ⟨x1, x2⟩ hA hr
      refine ⟨?_, x2.mono (fun _ _ h => h) hA hr⟩
      cases hod : o.dst with
      | none => exact x1
      | some p =>
        have hp : p ≠ dq := by rintro rfl; exact hL.only j o ho hjq hod
        show (t.setIfInBounds p v')[dq]? = _
        rw [Array.getElem?_setIfInBounds_ne hp]
        exact x1) hAt
    have hDD : (fun i => (fun i => D i && i != q) i || i == j) = fun i => (D i || i == j) && i != q := by
      funext i
      by_cases hi : i = j
      · subst hi
        have : (i != q) = true := by simpa using hjq
        simp [this]
      · have : (i == j) = false := by simpa using hi
        simp [this]
    rw [hDD] at hAt'
    have hC1 : Closed ops (fun i => (D i || i == j) && i != q) := by
      rw [← hDD]
      intro i y e hDi hy he hb
      simp only [Bool.or_eq_true] at hDi ⊢
      rcases hDi with h | h
      · exact .inl (hC' i y e h hy he hb)
      · have : i = j := by simpa using h
        subst this
        exact .inl (hr' y e hy he hb)
    by_cases hall : AllBef E recs q (fun i => D i || i == j)
    · -- its place has come
      obtain ⟨ρ, t, w, rfl, hH, ht, hρ, hlen, hkp, hx1, hx2⟩ := hAt'
      obtain ⟨g1, g2, _, g5⟩ := facts_get (k := 0) hK.facts hd
      simp only [Nat.zero_add] at g1 g2
      have hnobig : ∀ i x, recs[i]? = some x → isBig E x.o.op = true → q < i → ((D i || i == j) && i != q) = false := by
        intro i x hx hb hi
        cases hDi : ((D i || i == j) && i != q)
        · rfl
        · have := (hL.bigs i x.o (hrec hx) hb hi).has hC1 (hreadyOf hC1 hDi)
          simp at this
      have hHq : heapD (fun i => (D i || i == j) && i != q) recs 0 H0 = d.H := by
        rw [g1]
        refine heapD_congr fun i x hx hxt => ?_
        simp only [Nat.zero_add]
        have hb := hK.turn hx hxt
        rcases Nat.lt_trichotomy i q with h | h | h
        · have h1 := hall i x h hx hb
          dsimp only at h1
          have h2 : (i != q) = true := by simp; omega
          rw [h1, h2]; simp [h]
        · subst h; simp
        · rw [hnobig i x hx hb h]; simp; omega
      have hHq2 : heapD (fun i => D i || i == j) recs 0 H0 = slot d.H (.cells cs1 e none) := by
        cases hrc : d.rc with
        | keep v => rw [hrc] at hd2; cases hd2
        | turn v H' =>
          have : H' = slot d.H (.cells cs1 e none) := by rw [hrc] at hd1; exact hd1
          rw [← this]
          refine heapD_last hd hrc (by simp [hDq]) fun i x hx hxt hqi => ?_
          simp only [Nat.zero_add]
          have := hnobig i x hx (hK.turn hx hxt) hqi
          have h2 : (i != q) = true := by simp; omega
          rw [h2, Bool.and_true] at this
          exact this
      rw [hHq] at hH ht hlen hx2
      have hAb := hH.absorb hx2
      have hA : ∀ i, AN d.H i → AN (slot d.H (.cells cs1 e none)) i := AN_slot
      have hru : ∀ i, AN d.H i → upd ρ d.H.length ⟨b, 0, cs2.length, none, false⟩ i = ρ i := fun i hi => upd_old ρ _ _ hi
      refine ⟨_, s1, .inl ⟨fun _ => hall, upd ρ d.H.length ⟨b, 0, cs2.length, none, false⟩, t, w, rfl, by rw [hHq2]; exact hAb, ?_, fun i hi => ?_, by rw [hHq2, slot_length]; omega, hkp, trivial⟩⟩
      · rw [hHq2]
        refine ⟨ht.size, fun i x hx => ?_⟩
        by_cases hi : i = dq
        · subst hi
          have hlast : getT (tmD (fun i => D i || i == j) recs 0 tm0) i = some d.rc.v := by
            rw [getT_tmD]
            have hdst : d.o.dst = some i := by
              have h1 := hrec hd
              have h2 := hL.op
              rw [h1] at h2
              cases h2
              exact hL.dst
            refine lk_last hd hdst (by simp [hDq]) fun p y hy hyd hqp => ?_
            exact absurd hyd (hL.only p y.o (hrec hy) (by omega))
          rw [hlast] at hx
          cases hx
          exact ⟨u, hx1, hd3 _ _ (by unfold AN; rw [slot_length]; omega)⟩
        · have hsame : getT (tmD (fun i => D i || i == j) recs 0 tm0) i = getT (tmD (fun i => (D i || i == j) && i != q) recs 0 tm0) i := by
            rw [getT_tmD, getT_tmD]
            refine lk_congr fun p y hy hyd => ?_
            simp only [Nat.zero_add]
            have hp : p ≠ q := by
              rintro rfl
              have h1 := hrec hy
              have h2 := hL.op
              rw [h1] at h2
              cases h2
              rw [hL.dst] at hyd
              exact hi (Option.some.inj hyd).symm
            have h2 : (p != q) = true := by simpa using hp
            rw [h2, Bool.and_true]
          rw [hsame] at hx
          obtain ⟨x', h1, h2⟩ := ht.get i x hx
          exact ⟨x', h1, h2.mono (Pr := hide Pr b (.cells cs2.toArray e (0, 0)) hn) (Pr' := Pr) (fun _ _ h => h) hA hru⟩
      · rw [hru i (by unfold AN at *; omega)]
        exact hρ i hi
    · exact ⟨m', s1, .inr ⟨by simp [hDq], hall, d, b, e, cs1, cs2, u, hn, hd, hd1, hd2, hd3, hAt'⟩⟩

end

theorem dstep_sound (hR : ROk E R) {ρ : Nat → Nm} {orc orc' : Option (List Bool)} {ok : List Bool} {C C' : Cfg} {cs0 : List Frame} {m : Machine} (h : dstep E R orc C = some (ok, orc', C')) (hok : AllT ok) (hC : CR Pr ρ C cs0 m) : Goes E Pr ρ C C' cs0 m := by
  obtain ⟨f, fs, w, rfl, hf, hfs, hH⟩ := hC
  have hm := hf.mode
  have htd := hf.todo
  unfold dstep at h
  split at h
  · rename_i id ops k hk
    rw [hk] at htd
    generalize hft : f.todo = ft at htd
    cases htd with
    | code _ t =>
      rename_i k'
      split at h
      · rename_i ok1 orc1 recs H tm hp
        dsimp only at h
        split at h
        · rename_i hst
          split at h
          · rename_i ok2 hc
            cases h
            obtain ⟨k2, k1⟩ := AllT.app.1 hok
            obtain ⟨p1, p2, p3, p4⟩ := dpass_facts hp k1 0
            simp only [Bool.and_eq_true] at hst
            obtain ⟨⟨hst1, hst2⟩, hst3⟩ := hst
            generalize hlate : lateIx E (masksL ops.toList []) ops.toList ops.toList 0 = late at hst2 hst3
            have hlen : recs.length = ops.size := by
              have := congrArg List.length p2
              simpa using this
            have hK : Known E R ops C.fr.nt late recs C.H C.fr.tm := by
              refine ⟨p2, p1, ?_, ?_, ?_⟩
              · intro j o e ho he hb
                have := edgesOk_get hst1 j o e (by simpa using ho) he hb
                omega
              · intro i j x y hij hx hy hcl
                have hx' : ops.toList[i]? = some x.o := by rw [← p2]; simp [hx]
                have hy' : ops.toList[j]? = some y.o := by rw [← p2]; simp [hy]
                have := statOk_get hst2 j y.o hy' i x.o (by omega) hx' hcl
                simp only [Nat.zero_add] at this
                exact this.imp masks_bef (fun h => h)
              · intro j d hd hb i Hi hm hbi hmay
                exact dchkA_get hc k2 j d hd hb i Hi hm (by simpa using hbi) (by simpa using hmay)
            have hs0 : step E.P (lone f (fs ++ cs0) w) = .next (lone { f with todo := .inRegion ops (Region.schedule (E.P.follows .mixedOrders) ops (w.tape w.drawn (.order f.fn id))) :: k' } (fs ++ cs0) { w with drawn := w.drawn + 1 }) :=
              step_lone_go (by simp [stepG, stepG.exec, hm, hft, choose, Sem.run, Question.forced, Question.cut])
            have hD0 : ∀ i, (Array.replicate ops.size false).getD i false = false := by
              intro i
              simp only [Array.getD_eq_getD_getElem?, Array.getElem?_replicate]
              split <;> rfl
            have hH0 : heapD (fun i => (Array.replicate ops.size false).getD i false) recs 0 C.H = C.H := heapD_none fun i d _ _ => by simp only [Nat.zero_add]; exact hD0 i
            have hT0 : tmD (fun i => (Array.replicate ops.size false).getD i false) recs 0 C.fr.tm = C.fr.tm := tmD_none hD0
            have hsch : Region.schedule (E.P.follows .mixedOrders) ops (w.tape w.drawn (.order f.fn id)) = Region.linearise.go .any ops ops.size (w.tape w.drawn (.order f.fn id)) (Array.replicate ops.size false) [] := by
              simp only [Region.schedule, E.mixed, Bool.true_or, if_true]
              rfl
            have hI : At Pr (fun _ _ _ => True) ops C.fr.nt recs C.H C.fr.tm ρ f (fs ++ cs0) k' w (fun i => (Array.replicate ops.size false).getD i false) (Region.linearise.go .any ops ops.size (w.tape w.drawn (.order f.fn id)) (Array.replicate ops.size false) [])
                (lone { f with todo := .inRegion ops (Region.schedule (E.P.follows .mixedOrders) ops (w.tape w.drawn (.order f.fn id))) :: k' } (fs ++ cs0) { w with drawn := w.drawn + 1 }) := by
              refine ⟨ρ, f.tmps, { w with drawn := w.drawn + 1 }, ?_, ?_, ?_, fun _ _ => rfl, ?_, ⟨rfl, rfl⟩, trivial⟩
              · rw [hsch]
              · rw [hH0]; exact hH
              · rw [hH0, hT0]; exact hf.tm
              · rw [hH0]; exact Nat.le_refl _
            have hun : (unl ops (Array.replicate ops.size false)).length ≤ ops.size := by
              unfold unl
              exact Nat.le_trans (List.length_filter_le _ _) (by simp)
            have hC0 : Closed ops (fun i => (Array.replicate ops.size false).getD i false) := by
              intro j o e hD _ _ _
              rw [show (fun i => (Array.replicate ops.size false).getD i false) j = false from hD0 j] at hD
              cases hD
            obtain ⟨m1, D, s1, q1, q2⟩ : ∃ m' D, Steps E.P (lone { f with todo := .inRegion ops (Region.schedule (E.P.follows .mixedOrders) ops (w.tape w.drawn (.order f.fn id))) :: k' } (fs ++ cs0) { w with drawn := w.drawn + 1 }) m' ∧ (∀ i, i < ops.size → D i = true) ∧
                At Pr (fun _ _ _ => True) ops C.fr.nt recs C.H C.fr.tm ρ f (fs ++ cs0) k' w D [] m' := by
              cases late with
              | none =>
                exact sched (I := At Pr (fun _ _ _ => True) ops C.fr.nt recs C.H C.fr.tm ρ f (fs ++ cs0) k' w) hK.edge
                  (fun D j o rest m ho hj hr hC hI => hK.step hR hm ho hj hr hC (fun q h => by cases h) (fun h => by cases h) (fun _ _ _ _ _ _ _ _ _ => trivial) hI) ops.size _ _ _ (by simp) hun hC0 hI
              | some q =>
                obtain ⟨dq, oq, hL⟩ := lateOk_get hst3
                obtain ⟨m', D, z1, z2, z3⟩ := sched (I := Inv E Pr ops C.fr.nt recs C.H C.fr.tm ρ f (fs ++ cs0) k' w q dq) hK.edge
                  (fun D j o rest m ho hj hr hC hI => Inv.step hK hL hR hm ho hj hr hC hI) ops.size _ _ _ (by simp) hun hC0 (.inl ⟨(fun h => by rw [show (fun i => (Array.replicate ops.size false).getD i false) q = false from hD0 q] at h; cases h), hI⟩)
                refine ⟨m', D, z1, z2, ?_⟩
                rcases z3 with ⟨_, z3⟩ | ⟨_, z3, _⟩
                · exact z3
                · exfalso
                  refine z3 fun b x h1 h2 h3 => z2 b ?_
                  rw [← hlen]
                  exact (List.getElem?_eq_some_iff.1 h2).1
            obtain ⟨ρ1, t1, w1, rfl, z1, z2, z3, z4, z5, _⟩ := q2
            have hHe : heapD D recs 0 C.H = H := by
              rw [p3]
              exact heapD_congr fun i d hd _ => by
                have : i < ops.size := by rw [← hlen]; exact (List.getElem?_eq_some_iff.1 hd).1
                simp only [Nat.zero_add]; exact q1 i this
            have hTe : tmD D recs 0 C.fr.tm = tm := by
              rw [p4]
              exact tmD_congr fun i hi => by simp only [Nat.zero_add]; exact q1 i (by omega)
            rw [hHe] at z1 z2 z4
            rw [hTe] at z2
            have hs2 : step E.P (lone { f with tmps := t1, todo := .inRegion ops [] :: k' } (fs ++ cs0) w1) = .next (lone { f with tmps := t1, todo := k' } (fs ++ cs0) w1) :=
              step_lone_go (by simp [stepG, stepG.exec, hm])
            have hA : ∀ i, AN C.H i → AN H i := fun i hi => by unfold AN at *; omega
            have hf1 := hf.mono (Pr' := Pr) (fun _ _ h => h) hA z3
            refine ⟨ρ1, _, (Steps.head hs0 s1).trans (.one hs2), ⟨_, fs, w1, rfl, ?_, ?_, z1⟩, z3, z4, z5⟩
            · exact hf1.turn z2 (t.mono hA z3)
            · exact hfs.mono (fun _ _ h => h) hA z3
          · cases h
        · cases h
      · cases h
  · cases h

end
end Go.Am
