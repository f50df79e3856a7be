/-
  The abstract machine: temporaries that nobody reads are forgotten, in frames below and in loops too; ways that end, what is named there.
-/
import Derived.Test.YtabloimmlmgcbaaAmCtr
set_option linter.unusedVariables false
namespace Go.Am

def dropTm (keep : Nat → Bool) : Tm → Tm
  | .al l => .al (l.filter fun p => keep p.1)
  | .node v l r => .node (bif keep 0 then v else none) (dropTm (fun j => keep (2 * j + 1)) l) (dropTm (fun j => keep (2 * j + 2)) r)
theorem lookup_filter {keep : Nat → Bool} {i : Nat} {v : Value} : ∀ {l : List (Nat × Value)}, (l.filter fun p => keep p.1).lookup i = some v → l.lookup i = some v
  | [], h => h
  | (j, u) :: r, h => by
    rw [List.filter_cons] at h
    split at h
    · rw [List.lookup_cons] at h ⊢
      cases hb : (i == j) with
      | true => rw [hb] at h; exact h
      | false => rw [hb] at h; exact lookup_filter h
    · rename_i hk
      rw [List.lookup_cons]
      have := lookup_filter h
      cases hb : (i == j) with
      | true =>
        exfalso
        have hij : i = j := by simpa using hb
        subst hij
        have hno : ∀ (l : List (Nat × Value)), (l.filter fun p => keep p.1).lookup i = none := by
          intro l
          induction l with
          | nil => rfl
          | cons p r ih =>
            rw [List.filter_cons]
            split
            · rename_i hp
              rw [List.lookup_cons]
              have : (i == p.1) = false := by
                rw [beq_eq_false_iff_ne]
                intro e
                rw [← e] at hp
                exact hk hp
              rw [this]; exact ih
            · exact ih
        rw [hno r] at h
        cases h
      | false => exact this
theorem getT_drop : ∀ {tm : Tm} {keep : Nat → Bool} {i : Nat} {v : Value}, getT (dropTm keep tm) i = some v → getT tm i = some v
  | .al l, keep, i, v, h => lookup_filter h
  | .node u l r, keep, i, v, h => by
    simp only [dropTm, getT] at h ⊢
    cases h0 : Nat.beq i 0 with
    | true =>
      rw [h0] at h
      simp only [cond_true] at h ⊢
      cases hk : keep 0 with
      | true => rw [hk] at h; exact h
      | false => rw [hk] at h; cases h
    | false =>
      rw [h0] at h
      simp only [cond_false] at h ⊢
      cases h1 : Nat.beq (Nat.mod i 2) 1 with
      | true => rw [h1] at h; exact getT_drop h
      | false => rw [h1] at h; exact getT_drop h

def dropOb (l : Option (List Nat)) (o : Ob) : Ob :=
  match o, l with
  | .loop a b c tm nt ps as bd ds, some l => .loop a b c (dropTm (fun i => l.contains i) tm) nt ps as bd ds
  | o, _ => o
def dropHp (lp : List (Nat × List Nat)) : Heap → Nat → Heap
  | [], _ => []
  | o :: r, i => (match o with | some b => some (dropOb (lp.lookup i) b) | none => none) :: dropHp lp r (Nat.add i 1)
def dropFs : List (List Nat) → List AFr → List AFr
  | l :: ls, f :: r => { f with tm := dropTm (fun i => l.contains i) f.tm } :: dropFs ls r
  | _, fs => fs
def prune (ls : List (List Nat)) (lp : List (Nat × List Nat)) (C : Cfg) : Cfg := { fr := C.fr, cs := dropFs ls C.cs, H := dropHp lp C.H 0 }

theorem dropHp_length (lp : List (Nat × List Nat)) : ∀ (H : Heap) (n : Nat), (dropHp lp H n).length = H.length
  | [], _ => rfl
  | o :: r, n => by simp [dropHp, dropHp_length lp r]
theorem getO_dropHp (lp : List (Nat × List Nat)) : ∀ (H : Heap) (n j : Nat) (ob : Ob), getO (dropHp lp H n) j = some ob → ∃ o, getO H j = some o ∧ ob = dropOb (lp.lookup (n + j)) o
  | [], n, j, ob, h => by simp [dropHp, getO] at h
  | o :: r, n, 0, ob, h => by
    cases o with
    | none => simp [dropHp, getO] at h
    | some b =>
      simp only [dropHp, getO, List.getElem?_cons_zero, Option.some.injEq] at h
      exact ⟨b, rfl, h.symm⟩
  | o :: r, n, j + 1, ob, h => by
    have h' : getO (dropHp lp r (n + 1)) j = some ob := h
    obtain ⟨b, h1, h2⟩ := getO_dropHp lp r (n + 1) j ob h'
    exact ⟨b, h1, by rw [h2]; congr 2; omega⟩

theorem getO_dropHp_log (lp : List (Nat × List Nat)) {c : List Value} {e : TypeId} {z : Nat} : ∀ (H : Heap) (n j : Nat), getO H j = some (.log c e z) → getO (dropHp lp H n) j = some (.log c e z)
  | [], n, j, h => by simp [getO] at h
  | o :: r, n, 0, h => by
    cases o with
    | none => simp [getO] at h
    | some b =>
      simp only [getO, List.getElem?_cons_zero, Option.some.injEq] at h
      subst h
      rfl
  | o :: r, n, j + 1, h => getO_dropHp_log lp r (n + 1) j h

section
variable {E : Env} {Pr : Prot} {A : Nat → Prop} {ρ : Nat → Nm}
theorem TmR.drop {keep : Nat → Bool} {tm : Tm} {nt : Nat} {t : Array Value} (h : TmR Pr A ρ tm nt t) : TmR Pr A ρ (dropTm keep tm) nt t :=
  ⟨h.size, fun i v hv => h.get i v (getT_drop hv)⟩
theorem OR0.drop {x : Nm} {hp : Array Obj} {o : Ob} (l : Option (List Nat)) (h : OR0 Pr A ρ x hp o) : OR0 Pr A ρ x hp (dropOb l o) := by
  unfold dropOb
  split
  · obtain ⟨t, h1, h2, h3⟩ := h
    exact ⟨t, h1, h2.drop, h3⟩
  · exact h
theorem HR.drop {H : Heap} {hp : Array Obj} (lp : List (Nat × List Nat)) (h : HR Pr A ρ H hp) : HR Pr A ρ (dropHp lp H 0) hp := by
  obtain ⟨own, h⟩ := h
  refine ⟨own, h.pr, fun i ob hi => ?_, fun i ob hi hf => ?_, fun i cs e z hi => ?_, h.ow⟩
  · obtain ⟨o, h1, _⟩ := getO_dropHp lp H 0 i ob hi
    exact h.nm i o h1
  · obtain ⟨o, h1, rfl⟩ := getO_dropHp lp H 0 i ob hi
    rcases h.ob i o h1 (by cases o <;> first | rfl | (cases hf)) with ⟨g1, e, z, rfl, g3⟩ | ⟨g1, g2, g3⟩
    · exact .inl ⟨g1, e, z, rfl, g3⟩
    · refine .inr ⟨g1, ?_, g3⟩
      rcases g2 with g2 | ⟨J, rfl, g2⟩
      · exact .inl (g2.drop _)
      · exact .inr ⟨J, rfl, g2⟩
  · obtain ⟨o, h1, he⟩ := getO_dropHp lp H 0 i _ hi
    have e1 : o = .fro cs e z := by cases o <;> first | exact he.symm | (unfold dropOb at he; split at he <;> cases he)
    subst e1
    refine h.fr_keep (fun _ h => h) (fun _ _ => rfl) h1 rfl (fun j hj => ⟨hj, fun cj ej zj q => ?_⟩)
    exact getO_dropHp_log lp H 0 j q
theorem FsR.drop : ∀ {ls : List (List Nat)} {l : List AFr} {l' : List Frame}, FsR Pr A ρ l l' → FsR Pr A ρ (dropFs ls l) l'
  | [], l, l', h => by cases l <;> exact h
  | k :: ls, _, _, .nil => .nil
  | k :: ls, _, _, .cons h t => .cons { h with tm := h.tm.drop } (FsR.drop t)
theorem CR.prune {ls : List (List Nat)} {lp : List (Nat × List Nat)} {C : Cfg} {cs0 : List Frame} {m : Machine} (h : CR Pr ρ C cs0 m) : CR Pr ρ (prune ls lp C) cs0 m := by
  obtain ⟨f, fs, w, rfl, h1, h2, h3⟩ := h
  have hA : AN (Go.Am.prune ls lp C).H = AN C.H := by unfold AN Go.Am.prune; simp only [dropHp_length]
  refine ⟨f, fs, w, rfl, ?_, ?_, ?_⟩
  · rw [hA]; exact h1
  · rw [hA]; exact h2.drop
  · rw [hA]; exact h3.drop lp
theorem reach_prune {B : Nat} (ls : List (List Nat)) (lp : List (Nat × List Nat)) (C : Cfg) : Gets E B C (prune ls lp C) := fun Pr ρ cs0 m h => ⟨ρ, m, .refl _ _, h.prune, fun _ _ => rfl, Kp.refl _⟩
end

/-- n steps; what nobody reads and what is not named is forgotten. -/
def goPr (E : Env) (K : Ctr) (N n : Nat) (ds : Option (List Bool)) (ls : List (List Nat)) (lp : List (Nat × List Nat)) (keep live : List Nat) (C : Cfg) : Option (List Bool × Cfg) :=
  match xgoS E K N n ds [] C with
  | some (ok, _, C') => match gc E keep live (prune ls lp C') with
    | some (ok2, C2) => some (ok2 ++ ok, C2)
    | none => none
  | none => none
theorem reach_gp {E : Env} {K : Ctr} (hK : KOk E K) {N n : Nat} {ds : Option (List Bool)} {ls : List (List Nat)} {lp : List (Nat × List Nat)} {keep live : List Nat} {C C' : Cfg} {ok : List Bool} {B : Nat} (h : goPr E K N n ds ls lp keep live C = some (ok, C')) (hok : AllT ok) (hB : B ≤ C.H.length) (hk : ∀ i, i < B → keep.getD i 0 = i) : Gets E B C C' := by
  unfold goPr at h
  rw [xgoS_eq] at h
  split at h
  · rename_i ok1 orc' C1 h1
    split at h
    · rename_i ok2 C2 h2
      cases h
      obtain ⟨k2, k1⟩ := AllT.app.1 hok
      exact (reach_go hK h1 k1 hB).trans ((reach_prune ls lp C1).trans (reach_gc h2 k2 hk))
    · cases h
  · cases h

/-! ### ends -/
/-- From C the call of g ends: v is handed back, the named blocks are H'. -/
def AEnds (E : Env) (g : FuncId) (B : Nat) (C : Cfg) (v : Value) (H' : Heap) : Prop :=
  ∀ (Pr : Prot) (ρ : Nat → Nm) (cs0 : List Frame) (m : Machine), CR Pr ρ C cs0 m → ∃ ρ' fr w' v' fn, Steps E.P m (lone fr cs0 w') ∧ fr.fn = g ∧ fr.mode = .returning ∧ fr.defers = [] ∧ fr.kind = .normal ∧ E.P.funcs[fr.fn]? = some fn ∧ (results fn fr.tmps).run E.P w' = .ok v' w' ∧
    HR Pr (AN H') ρ' H' w'.heap ∧ VR Pr (AN H') ρ' v v' ∧ (∀ i, i < B → ρ' i = ρ i) ∧ Kp m.world w'
theorem Gets.ends {E : Env} {g : FuncId} {B : Nat} {C C1 : Cfg} {v : Value} {H' : Heap} (h : Gets E B C C1) (h2 : AEnds E g B C1 v H') : AEnds E g B C v H' := fun Pr ρ cs0 m hC => by
  obtain ⟨ρ1, m1, s1, c1, r1, k1⟩ := h Pr ρ cs0 m hC
  obtain ⟨ρ2, fr, w', v', fn, s2, a1, a2, a3, a4, a5, a6, a7, a8, a9, k2⟩ := h2 Pr ρ1 cs0 m1 c1
  exact ⟨ρ2, fr, w', v', fn, s1.trans s2, a1, a2, a3, a4, a5, a6, a7, a8, fun i hi => (a9 i hi).trans (r1 i hi), k1.trans k2⟩
def fnAt : Option (List Bool × Cfg) → Option Nat
  | some (_, C) => some C.fr.fn
  | none => none

/-- n steps to the end, what is not named is forgotten; what is handed back, the blocks named in it. -/
def goFin (E : Env) (K : Ctr) (N n : Nat) (ds : Option (List Bool)) (keep live keepE : List Nat) (C : Cfg) : Option (List Bool × Value × Heap) :=
  match goGc E K N n ds keep live C with
  | some (ok, C') => match leaveA E C' with
    | some (ok2, v, H) => match nodup keepE, renV (toNew keepE) 6 v, renHi E (live.contains 1000000) keepE H with
      | true, some u, some (ok3, H2) => some (ok3 ++ (ok2 ++ ok), u, H2)
      | _, _, _ => none
    | none => none
  | none => none
theorem ends_of {E : Env} {K : Ctr} (hK : KOk E K) {g : FuncId} {H' : Heap} {C : Cfg} {N n : Nat} {ds : Option (List Bool)} {keep live keepE : List Nat} {ok : List Bool} {v : Value} {B : Nat} (h : goFin E K N n ds keep live keepE C = some (ok, v, H')) (hok : AllT ok)
    (hfn : fnAt (goGc E K N n ds keep live C) = some g) (hB : B ≤ C.H.length) (hk : ∀ i, i < B → keep.getD i 0 = i) (hkE : ∀ i, i < B → keepE.getD i 0 = i) : AEnds E g B C v H' := by
  unfold goFin at h
  split at h
  · rename_i ok1 C1 h1
    rw [h1] at hfn
    split at h
    · rename_i ok2 v2 H2 h2
      split at h
      · rename_i u ok3 H3 hnd hu hH
        cases h
        obtain ⟨k3, k12⟩ := AllT.app.1 hok
        obtain ⟨k2, k1⟩ := AllT.app.1 k12
        refine (reach_gg hK h1 k1 hB hk).ends fun Pr ρ cs0 m hC => ?_
        obtain ⟨fr, w', v', fn, s2, hfr, hm, hd, hkd, hfn2, hres, hH2, hv2, hl2, kp2⟩ := leaveA_sound h2 k2 hC
        have hm2 := toNew_ok (A' := AN H') (ρ := ρ) (l := keepE) (fun j hj => by unfold AN; have := renHi_len hH k3; omega)
        exact ⟨back' ρ keepE, fr, w', v', fn, s2, by rw [hfr]; exact Option.some.inj hfn, hm, hd, hkd, hfn2, hres, hH2.reni hnd hH k3, renV_sound hm2 6 _ _ _ hu hv2, fun i hi => by unfold back'; rw [hkE i hi], kp2⟩
      · cases h
    · cases h
  · cases h
theorem callOk_of_ends {E : Env} {g : FuncId} {args : List Value} {H H' : Heap} {v : Value} (h : AEnds E g H.length (startC E g args H) v H') (hs : canStart E g args = true) (hlen : H.length ≤ H'.length) : CallOk E g args H v H' := by
  intro Pr ρ args' cf cs w hH ha
  unfold canStart at hs
  unfold startC at h
  split at hs
  · rename_i F hF
    split at hs
    · rename_i c hc
      simp only [hF, hc] at h
      have hlen2 : args.length ≤ F.ntmps := by simpa using hs
      obtain ⟨ρ1, fr, w', v', fn, s1, _, hm, hd, hk, hfn, hres, hH2, hv2, r1, k1⟩ := h Pr ρ (cf :: cs) (lone (Frame.enter E.P g args'.toArray .normal) (cf :: cs) w) ⟨_, [], w, rfl, enter_sound hF hc ha hlen2, .nil, hH⟩
      refine ⟨ρ1, v', w', s1.trans (.one ?_), hH2, hv2, fun i hi => r1 i hi, hlen, k1⟩
      exact step_leave_returned ⟨hm, hd, hk, fn, hfn, hres⟩
    · cases hs
  · cases hs
theorem calls_of_ends {E : Env} {g : FuncId} {args : List Value} {args' : Array Value} {w : World} {b : Bool} {H' : Heap} (h : AEnds E g 0 (startC E g args []) (.bool b) H') (hs : canStart E g args = true) (hb : b = true)
    (ha : ∀ ρ, VL (prOf w) (AN []) ρ args args'.toList) : Calls E.P g args' w fun e w' => e = .returned (.bool true) ∧ Stays w w' := by
  intro cs
  unfold canStart at hs
  unfold startC at h
  split at hs
  · rename_i F hF
    split at hs
    · rename_i c hc
      simp only [hF, hc] at h
      have hlen2 : args.length ≤ F.ntmps := by simpa using hs
      have hH : HR (prOf w) (AN []) (fun _ => ⟨0, 0, 0, none, false⟩) [] w.heap := by
        refine ⟨fun _ => none, fun b o h => h, fun i ob h => ?_, fun i ob h => ?_, fun i _ _ _ h => ?_, fun b i h => ?_⟩
        · simp [getO] at h
        · simp [getO] at h
        · simp [getO] at h
        · cases h
      obtain ⟨ρ1, fr, w', v', fn, s1, hg, hm, hd, hk, hfn, hres, hH2, hv2, r1, k1⟩ := h (prOf w) _ cs (lone (Frame.enter E.P g args' .normal) cs w) ⟨_, [], w, rfl, enter_sound hF hc (ha _) hlen2, .nil, hH⟩
      cases hv2
      subst hb
      exact ⟨_, w', fr, ⟨rfl, k1, fun b o h => hH2.pr b o h⟩, s1, hg, hm, hd, hk, fn, hfn, hres⟩
    · cases hs
  · cases hs
end Go.Am
