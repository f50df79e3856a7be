/-
  The abstract machine: regions whose order is drawn: the whole region.
-/
import Derived.Test.YtagacgeamobjcaaAmDraw5
namespace Go.Am

theorem tmD_congr {D D' : Nat → Bool} : ∀ {l : List DRec} {k : Nat} {tm : Tm}, (∀ i, i < l.length → D (k + i) = D' (k + i)) → tmD D l k tm = tmD D' l k tm
  | [], _, _, _ => rfl
  | d :: r, k, tm, h => by
    have h0 := h 0 (by simp)
    simp only [Nat.add_zero] at h0
    simp only [tmD, h0]
    exact tmD_congr fun i hi => by have := h (i + 1) (by simpa using hi); simpa [Nat.add_assoc, Nat.add_comm 1 i] using this

theorem tmD_none {D : Nat → Bool} : ∀ {l : List DRec} {k : Nat} {tm : Tm}, (∀ i, D i = false) → tmD D l k tm = tm
  | [], _, _, _ => rfl
  | d :: r, k, tm, h => by
    simp only [tmD, h k, Bool.false_eq_true, if_false]
    exact tmD_none h

theorem filter_lt {p q : Nat → Bool} : ∀ {l : List Nat} {x : Nat}, x ∈ l → p x = true → q x = false → (∀ y, q y = true → p y = true) → (l.filter q).length < (l.filter p).length
  | [], x, h, _, _, _ => by simp at h
  | a :: l, x, h, hp, hq, hi => by
    have hle : (l.filter q).length ≤ (l.filter p).length := by
      clear h
      induction l with
      | nil => simp
      | cons b l ih =>
        simp only [List.filter_cons]
        cases hqb : q b
        · cases hpb : p b <;> simp <;> omega
        · simp [hi b hqb]; omega
    simp only [List.filter_cons]
    rcases List.mem_cons.1 h with rfl | h
    · simp only [hp, hq, if_true, Bool.false_eq_true, if_false, List.length_cons]
      omega
    · have := filter_lt h hp hq hi
      cases hqa : q a
      · cases hpa : p a <;> simp <;> omega
      · simp [hi a hqa]; omega

def unl (ops : Array Oper) (listed : Array Bool) : List Nat := (List.range ops.size).filter fun i => !listed.getD i true

section
variable {E : Env} {Pr : Prot} {R : Caller} {ops : Array Oper} {nt : Nat}
variable {recs : List DRec} {H0 : Heap} {tm0 : Tm} {ρ0 : Nat → Nm} {f0 : Frame} {cs : List Frame} {k : List Item} {w0 : World}

theorem allListed {listed : Array Bool} (hs : listed.size = ops.size) (h : unl ops listed = []) : ∀ i, i < ops.size → listed.getD i false = true := by
  intro i hi
  have : ¬ (i ∈ unl ops listed) := by rw [h]; simp
  unfold unl at this
  rw [List.mem_filter] at this
  have hi' : i < listed.size := by omega
  simp only [List.mem_range, hi, true_and, Array.getD_eq_getD_getElem?, Array.getElem?_eq_getElem hi', Option.getD_some, Bool.not_eq_true', Bool.not_eq_false] at this
  simpa [Array.getD_eq_getD_getElem?, Array.getElem?_eq_getElem hi'] using this

/-- Someone is ready as long as someone is left. -/
theorem readyNil (hedge : ∀ j o e, ops[j]? = some o → e ∈ o.after.toList → Region.binds .any e = true → e.on < j) {listed : Array Bool} (hs : listed.size = ops.size) (h : Region.ready .any ops listed = []) : unl ops listed = [] := by
  have key : ∀ i, i < ops.size → listed.getD i true = true := by
    intro i
    induction i using Nat.strongRecOn with
    | ind i ih =>
      intro hi
      cases hb : listed.getD i true
      · exfalso
        have hmem : i ∈ Region.ready .any ops listed := by
          unfold Region.ready
          rw [List.mem_filter]
          refine ⟨by simpa using hi, ?_⟩
          have ho : ops[i]? = some ops[i] := Array.getElem?_eq_getElem hi
          simp only [hb, Bool.not_false, Bool.true_and, ho, Option.map_some, Option.getD_some]
          rw [← Array.all_toList]
          rw [List.all_eq_true]
          intro e he
          cases hbe : Region.binds .any e
          · rfl
          · have h1 := hedge i _ e ho he hbe
            have h2 := ih e.on h1 (by omega)
            have hl : e.on < listed.size := by omega
            simp only [Array.getD_eq_getD_getElem?, Array.getElem?_eq_getElem hl, Option.getD_some] at h2 ⊢
            simp [h2]
        rw [h] at hmem
        simp at hmem
      · rfl
  unfold unl
  rw [List.filter_eq_nil_iff]
  intro i hi
  simp [key i (by simpa using hi)]

theorem sched (hK : Known E R ops nt recs H0 tm0) (hR : ROk E R) (hm : f0.mode = .run) : ∀ (fuel tq : Nat) (listed : Array Bool) (m : Machine), listed.size = ops.size → (unl ops listed).length ≤ fuel → Closed ops (fun i => listed.getD i false) →
    At Pr ops nt recs H0 tm0 ρ0 f0 cs k w0 (fun i => listed.getD i false) (Region.linearise.go .any ops fuel tq listed []) m →
    ∃ m' D, Steps E.P m m' ∧ (∀ i, i < ops.size → D i = true) ∧ At Pr ops nt recs H0 tm0 ρ0 f0 cs k w0 D [] m' := by
  intro fuel
  induction fuel with
  | zero =>
    intro tq listed m hs hu hC hI
    have : unl ops listed = [] := List.eq_nil_of_length_eq_zero (by omega)
    exact ⟨m, _, .refl _ _, allListed hs this, by simpa [Region.linearise.go] using hI⟩
  | succ fuel ih =>
    intro tq listed m hs hu hC hI
    simp only [Region.linearise.go] at hI
    change At Pr ops nt recs H0 tm0 ρ0 f0 cs k w0 (fun i => listed.getD i false) (match (Region.ready .any ops listed)[tq % (Region.ready .any ops listed).length]? with
      | some i => Region.linearise.go .any ops fuel (tq / (Region.ready .any ops listed).length) (listed.setIfInBounds i true) [i]
      | none => [].reverse) m at hI
    cases hi : (Region.ready .any ops listed)[tq % (Region.ready .any ops listed).length]? with
    | none =>
      have hnil : Region.ready .any ops listed = [] := by
        cases hr : Region.ready .any ops listed with
        | nil => rfl
        | cons x xs =>
          rw [hr] at hi
          have hlt : tq % (x :: xs).length < (x :: xs).length := Nat.mod_lt _ (by simp)
          simp at hi
          simp at hlt
          omega
      rw [hi] at hI
      exact ⟨m, _, .refl _ _, allListed hs (readyNil hK.edge hs hnil), by simpa using hI⟩
    | some i =>
      rw [hi] at hI
      simp only at hI
      rw [linearise_go_acc, List.reverse_singleton, List.singleton_append] at hI
      have hmem := List.mem_of_getElem? hi
      unfold Region.ready at hmem
      rw [List.mem_filter] at hmem
      obtain ⟨h1, h2⟩ := hmem
      have hlt : i < ops.size := by simpa using h1
      have hl : i < listed.size := by omega
      have ho : ops[i]? = some ops[i] := Array.getElem?_eq_getElem hlt
      simp only [ho, Option.map_some, Option.getD_some, Bool.and_eq_true] at h2
      obtain ⟨h2, h3⟩ := h2
      have hj : listed.getD i false = false := by
        simp only [Array.getD_eq_getD_getElem?, Array.getElem?_eq_getElem hl, Option.getD_some] at h2 ⊢
        simpa using h2
      have hready : Ready ops (fun i => listed.getD i false) i := by
        intro o e hoo he hb
        rw [ho] at hoo
        cases hoo
        rw [← Array.all_toList, List.all_eq_true] at h3
        have := h3 e he
        simpa [hb] using this
      obtain ⟨m1, s1, hI1⟩ := hK.step hR hm ho hj hready hC hI
      have hD : (fun x => listed.getD x false || x == i) = fun x => (listed.setIfInBounds i true).getD x false := by
        funext x
        by_cases hx : x = i
        · subst hx
          simp [Array.getD_eq_getD_getElem?, Array.getElem?_setIfInBounds_self_of_lt hl]
        · have : (x == i) = false := by simpa using hx
          simp [Array.getD_eq_getD_getElem?, Array.getElem?_setIfInBounds_ne (Ne.symm hx), this]
      rw [hD] at hI1
      have hC1 : Closed ops (fun x => (listed.setIfInBounds i true).getD x false) := by
        rw [← hD]
        intro j o e hDj hoo he hb
        simp only [Bool.or_eq_true] at hDj ⊢
        rcases hDj with hDj | hDj
        · exact .inl (hC j o e hDj hoo he hb)
        · have : j = i := by simpa using hDj
          subst this
          exact .inl (hready o e hoo he hb)
      have hu1 : (unl ops (listed.setIfInBounds i true)).length ≤ fuel := by
        have : (unl ops (listed.setIfInBounds i true)).length < (unl ops listed).length := by
          unfold unl
          refine filter_lt (x := i) (by simpa using hlt) h2 ?_ ?_
          · simp [Array.getD_eq_getD_getElem?, Array.getElem?_setIfInBounds_self_of_lt hl]
          · intro y hy
            by_cases hyi : y = i
            · subst hyi
              simp [Array.getD_eq_getD_getElem?, Array.getElem?_setIfInBounds_self_of_lt hl] at hy
            · simpa [Array.getD_eq_getD_getElem?, Array.getElem?_setIfInBounds_ne (Ne.symm hyi)] using hy
        omega
      obtain ⟨m2, D, s2, q1, q2⟩ := ih _ _ m1 (by simpa using hs) hu1 hC1 hI1
      exact ⟨m2, D, s1.trans s2, q1, q2⟩

theorem edgesOk_get : ∀ {l : List Oper} {n : Nat}, edgesOk l n = true → ∀ j o e, l[j]? = some o → e ∈ o.after.toList → Region.binds .any e = true → e.on < n + j
  | [], _, _, _, _, _, h, _, _ => by simp at h
  | a :: r, n, h, j, o, e, ho, he, hb => by
    simp only [edgesOk, Bool.and_eq_true] at h
    cases j with
    | zero =>
      simp only [List.getElem?_cons_zero, Option.some.injEq] at ho
      subst ho
      have := List.all_eq_true.1 h.1 e he
      simpa [hb] using this
    | succ j =>
      have := edgesOk_get h.2 j o e (by simpa using ho) he hb
      omega

theorem clashOk_get {m : Nat} {y : Oper} : ∀ {l : List Oper} {n : Nat}, clashOk E ops m y l n = true → ∀ i x, l[i]? = some x → clash E ops x y = true → m.testBit (n + i) = true
  | [], _, _, _, _, h, _ => by simp at h
  | a :: r, n, h, i, x, hx, hc => by
    simp only [clashOk, Bool.and_eq_true] at h
    cases i with
    | zero =>
      simp only [List.getElem?_cons_zero, Option.some.injEq] at hx
      subst hx
      simpa [hc] using h.1
    | succ i =>
      have := clashOk_get h.2 i x (by simpa using hx) hc
      simpa [Nat.add_assoc, Nat.add_comm 1 i] using this

theorem statOk_get {ms : List Nat} {all : List Oper} : ∀ {l : List Oper} {n : Nat}, statOk E ops ms all l n = true → ∀ j y, l[j]? = some y → ∀ i x, i < n + j → all[i]? = some x → clash E ops x y = true → (ms.getD (n + j) 0).testBit i = true
  | [], _, _, _, _, h, _, _, _, _, _ => by simp at h
  | a :: r, n, h, j, y, hy, i, x, hi, hx, hc => by
    simp only [statOk, Bool.and_eq_true] at h
    cases j with
    | zero =>
      simp only [List.getElem?_cons_zero, Option.some.injEq] at hy
      subst hy
      have := clashOk_get h.1 i x (by rw [List.getElem?_take]; simp only [Nat.add_zero] at hi; rw [if_pos hi]; exact hx) hc
      simpa using this
    | succ j =>
      have := statOk_get h.2 j y (by simpa using hy) i x (by omega) hx hc
      simpa [Nat.add_assoc, Nat.add_comm 1 j] using this

theorem dchkI_get {ms : List Nat} {all : List DRec} {d : DRec} {j : Nat} : ∀ {l : List (Nat × Heap)} {ok : List Bool}, dchkI E R ops ms all d j l = some ok → AllT ok → ∀ i H, (i, H) ∈ l → (bigIn E all 0 i j || bigIn E all 0 j i) = true → mayMeet E ms j i all 0 = true → ∃ ok, dchk1 E R ops d H = some ok ∧ AllT ok
  | [], _, _, _, _, _, h, _, _ => by simp at h
  | (i', H') :: r, ok, h, hok, i, H, hm, hb, hmay => by
    simp only [dchkI] at h
    split at h
    · rename_i ok1 hr
      split at h
      · split at h
        · rename_i ok2 hd
          cases h
          obtain ⟨k1, k2⟩ := AllT.app.1 hok
          rcases List.mem_cons.1 hm with hm | hm
          · cases hm; exact ⟨ok2, hd, k1⟩
          · exact dchkI_get hr k2 i H hm hb hmay
        · cases h
      · rename_i hc
        cases h
        rcases List.mem_cons.1 hm with hm | hm
        · cases hm
          rw [hb, hmay] at hc
          exact absurd rfl hc
        · exact dchkI_get hr hok i H hm hb hmay
    · cases h

theorem dchkA_get {ms : List Nat} {all : List DRec} {hs : List (Nat × Heap)} : ∀ {l : List DRec} {n : Nat} {ok : List Bool}, dchkA E R ops ms all hs l n = some ok → AllT ok → ∀ j d, l[j]? = some d → isBig E d.o.op = false → ∀ i H, (i, H) ∈ hs →
    (bigIn E all 0 i (n + j) || bigIn E all 0 (n + j) i) = true → mayMeet E ms (n + j) i all 0 = true → ∃ ok, dchk1 E R ops d H = some ok ∧ AllT ok
  | [], _, _, _, _, _, _, h, _, _, _, _, _, _ => by simp at h
  | a :: r, n, ok, h, hok, j, d, hd, hb, i, H, hm, hbi, hmay => by
    simp only [dchkA] at h
    split at h
    · rename_i ok1 hr
      have hrest : AllT ok1 → ∀ j', j = j' + 1 → ∃ ok, dchk1 E R ops d H = some ok ∧ AllT ok := by
        intro k1 j' hj
        subst hj
        have e : n + 1 + j' = n + (j' + 1) := by omega
        exact dchkA_get hr k1 j' d (by simpa using hd) hb i H hm (by rw [e]; exact hbi) (by rw [e]; exact hmay)
      split at h
      · rename_i hab
        cases h
        cases j with
        | zero =>
          simp only [List.getElem?_cons_zero, Option.some.injEq] at hd
          subst hd
          rw [hb] at hab
          cases hab
        | succ j => exact hrest hok j rfl
      · split at h
        · rename_i ok2 hi
          cases h
          obtain ⟨k1, k2⟩ := AllT.app.1 hok
          cases j with
          | zero =>
            simp only [List.getElem?_cons_zero, Option.some.injEq] at hd
            subst hd
            exact dchkI_get hi k1 i H hm hbi hmay
          | succ j => exact hrest k2 j rfl
        · cases h
    · cases h

theorem dstep_sound (hR : ROk E R) {ρ : Nat → Nm} {orc orc' : Option (List Bool)} {ok : List Bool} {C C' : Cfg} {cs0 : List Frame} {m : Machine} (h : dstep E R orc C = some (ok, orc', C')) (hok : AllT ok) (hC : CR Pr ρ C cs0 m) : Goes E Pr ρ C C' cs0 m := by
  obtain ⟨f, fs, w, rfl, hf, hfs, hH⟩ := hC
  have hm := hf.mode
  have htd := hf.todo
  unfold dstep at h
  split at h
  · rename_i id ops k hk
    rw [hk] at htd
    generalize hft : f.todo = ft at htd
    cases htd with
    | code _ t =>
      rename_i k'
      split at h
      · rename_i ok1 orc1 recs H tm hp
        dsimp only at h
        split at h
        · rename_i hst
          split at h
          · rename_i ok2 hc
            cases h
            obtain ⟨k2, k1⟩ := AllT.app.1 hok
            obtain ⟨p1, p2, p3, p4⟩ := dpass_facts hp k1 0
            simp only [Bool.and_eq_true] at hst
            have hlen : recs.length = ops.size := by
              have := congrArg List.length p2
              simpa using this
            have hK : Known E R ops C.fr.nt recs C.H C.fr.tm := by
              refine ⟨p2, p1, ?_, ?_, ?_⟩
              · intro j o e ho he hb
                have := edgesOk_get hst.1 j o e (by simpa using ho) he hb
                omega
              · intro i j x y hij hx hy hcl
                have hx' : ops.toList[i]? = some x.o := by rw [← p2]; simp [hx]
                have hy' : ops.toList[j]? = some y.o := by rw [← p2]; simp [hy]
                have := statOk_get hst.2 j y.o hy' i x.o (by omega) hx' hcl
                simp only [Nat.zero_add] at this
                exact masks_bef this
              · intro j d hd hb i Hi hm hbi hmay
                exact dchkA_get hc k2 j d hd hb i Hi hm (by simpa using hbi) (by simpa using hmay)
            have hs0 : step E.P (lone f (fs ++ cs0) w) = .next (lone { f with todo := .inRegion ops (Region.schedule (E.P.follows .mixedOrders) ops (w.tape w.drawn (.order f.fn id))) :: k' } (fs ++ cs0) { w with drawn := w.drawn + 1 }) :=
              step_lone_go (by simp [stepG, stepG.exec, hm, hft, choose, Sem.run, Question.forced, Question.cut])
            have hD0 : ∀ i, (Array.replicate ops.size false).getD i false = false := by
              intro i
              simp only [Array.getD_eq_getD_getElem?, Array.getElem?_replicate]
              split <;> rfl
            have hH0 : heapD (fun i => (Array.replicate ops.size false).getD i false) recs 0 C.H = C.H := heapD_none fun i d _ _ => by simp only [Nat.zero_add]; exact hD0 i
            have hT0 : tmD (fun i => (Array.replicate ops.size false).getD i false) recs 0 C.fr.tm = C.fr.tm := tmD_none hD0
            have hsch : Region.schedule (E.P.follows .mixedOrders) ops (w.tape w.drawn (.order f.fn id)) = Region.linearise.go .any ops ops.size (w.tape w.drawn (.order f.fn id)) (Array.replicate ops.size false) [] := by
              simp only [Region.schedule, E.mixed, Bool.true_or, if_true]
              rfl
            have hI : At Pr ops C.fr.nt recs C.H C.fr.tm ρ f (fs ++ cs0) k' w (fun i => (Array.replicate ops.size false).getD i false) (Region.linearise.go .any ops ops.size (w.tape w.drawn (.order f.fn id)) (Array.replicate ops.size false) [])
                (lone { f with todo := .inRegion ops (Region.schedule (E.P.follows .mixedOrders) ops (w.tape w.drawn (.order f.fn id))) :: k' } (fs ++ cs0) { w with drawn := w.drawn + 1 }) := by
              refine ⟨ρ, f.tmps, { w with drawn := w.drawn + 1 }, ?_, ?_, ?_, fun _ _ => rfl, ?_, ⟨rfl, rfl⟩⟩
              · rw [hsch]
              · rw [hH0]; exact hH
              · rw [hH0, hT0]; exact hf.tm
              · rw [hH0]; exact Nat.le_refl _
            obtain ⟨m1, D, s1, q1, q2⟩ := sched hK hR hm ops.size _ _ _ (by simp) (by
              unfold unl
              exact Nat.le_trans (List.length_filter_le _ _) (by simp)) (by
              intro j o e hD _ _ _
              rw [show (fun i => (Array.replicate ops.size false).getD i false) j = false from hD0 j] at hD
              cases hD) hI
            obtain ⟨ρ1, t1, w1, rfl, z1, z2, z3, z4, z5⟩ := q2
            have hHe : heapD D recs 0 C.H = H := by
              rw [p3]
              exact heapD_congr fun i d hd _ => by
                have : i < ops.size := by rw [← hlen]; exact (List.getElem?_eq_some_iff.1 hd).1
                simp only [Nat.zero_add]; exact q1 i this
            have hTe : tmD D recs 0 C.fr.tm = tm := by
              rw [p4]
              exact tmD_congr fun i hi => by simp only [Nat.zero_add]; exact q1 i (by omega)
            rw [hHe] at z1 z2 z4
            rw [hTe] at z2
            have hs2 : step E.P (lone { f with tmps := t1, todo := .inRegion ops [] :: k' } (fs ++ cs0) w1) = .next (lone { f with tmps := t1, todo := k' } (fs ++ cs0) w1) :=
              step_lone_go (by simp [stepG, stepG.exec, hm])
            have hA : ∀ i, AN C.H i → AN H i := fun i hi => by unfold AN at *; omega
            have hf1 := hf.mono (Pr' := Pr) (fun _ _ h => h) hA z3
            refine ⟨ρ1, _, (Steps.head hs0 s1).trans (.one hs2), ⟨_, fs, w1, rfl, ?_, ?_, z1⟩, z3, z4, z5⟩
            · exact hf1.turn z2 (t.mono hA z3)
            · exact hfs.mono (fun _ _ h => h) hA z3
          · cases h
        · cases h
      · cases h
  · cases h

end
end Go.Am
