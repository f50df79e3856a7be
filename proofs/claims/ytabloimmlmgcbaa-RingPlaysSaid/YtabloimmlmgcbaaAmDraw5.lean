/-
  The abstract machine: regions whose order is drawn: any order that the region lets does what the text's order does.
-/
import Derived.Test.YtabloimmlmgcbaaAmDraw4
namespace Go.Am

section
variable {E : Env} {Pr : Prot} {R : Caller} {ops : Array Oper} {nt : Nat}

/-- What is known of a region's records. -/
structure Known (E : Env) (R : Caller) (ops : Array Oper) (nt : Nat) (late : Option Nat) (recs : List DRec) (H0 : Heap) (tm0 : Tm) : Prop where
  os : recs.map (·.o) = ops.toList
  facts : Facts E R ops nt recs H0 tm0
  edge : ∀ j o e, ops[j]? = some o → e ∈ o.after.toList → Region.binds .any e = true → e.on < j
  stat : ∀ i j x y, i < j → recs[i]? = some x → recs[j]? = some y → clash E ops x.o y.o = true → Bef ops j i ∨ (late = some j ∧ clashN ops x.o y.o = false)
  chk : ∀ j d, recs[j]? = some d → isBig E d.o.op = false → ∀ i Hi, (i, Hi) ∈ (0, H0) :: dheaps E recs 0 → (bigIn E recs 0 i j || bigIn E recs 0 j i) = true → mayMeet E (masksL ops.toList []) j i recs 0 = true → ∃ ok, dchk1 E R ops d Hi = some ok ∧ AllT ok

def At (Pr : Prot) (X : (Nat → Prop) → (Nat → Nm) → Array Value → Prop) (ops : Array Oper) (nt : Nat) (recs : List DRec) (H0 : Heap) (tm0 : Tm) (ρ0 : Nat → Nm) (f0 : Frame) (cs : List Frame) (k : List Item) (w0 : World) (D : Nat → Bool) (L : List Nat) (m : Machine) : Prop :=
  ∃ ρ t w, m = lone { f0 with tmps := t, todo := .inRegion ops L :: k } cs w ∧ HR Pr (AN (heapD D recs 0 H0)) ρ (heapD D recs 0 H0) w.heap ∧ TmR Pr (AN (heapD D recs 0 H0)) ρ (tmD D recs 0 tm0) nt t ∧
    (∀ i, AN H0 i → ρ i = ρ0 i) ∧ H0.length ≤ (heapD D recs 0 H0).length ∧ Kp w0 w ∧ X (AN (heapD D recs 0 H0)) ρ t

theorem bigIn_false : ∀ {l : List DRec} {k i j : Nat}, bigIn E l k i j = false → ∀ b d, l[b]? = some d → isBig E d.o.op = true → i ≤ k + b → k + b < j → False
  | [], _, _, _, _, _, _, h, _, _, _ => by simp at h
  | a :: r, k, i, j, h, b, d, hb, hbig, h1, h2 => by
    simp only [bigIn, Bool.or_eq_false_iff] at h
    cases b with
    | zero =>
      simp only [List.getElem?_cons_zero, Option.some.injEq] at hb
      subst hb
      have := h.1
      simp only [hbig, Bool.true_and, Bool.and_eq_false_iff, decide_eq_false_iff_not] at this
      omega
    | succ b => exact bigIn_false h.2 b d (by simpa using hb) hbig (by omega) (by omega)

theorem mayMeet_true {ms : List Nat} {j i : Nat} : ∀ {l : List DRec} {k : Nat}, (∀ b d, l[b]? = some d → isBig E d.o.op = true → if i ≤ k + b then (ms.getD j 0).testBit (k + b) = false else (ms.getD (k + b) 0).testBit j = false) → mayMeet E ms j i l k = true
  | [], _, _ => rfl
  | a :: r, k, h => by
    simp only [mayMeet, Bool.and_eq_true]
    refine ⟨?_, mayMeet_true fun b d hb hbig => by have := h (b + 1) d (by simpa using hb) hbig; simpa [Nat.add_assoc, Nat.add_comm 1 b] using this⟩
    cases hbig : isBig E a.o.op
    · rfl
    · have := h 0 a rfl hbig
      simp only [Nat.add_zero] at this
      split at this
      · rename_i hik
        simp only [if_pos hik, this, Bool.not_false, Bool.or_true]
      · rename_i hik
        simp only [if_neg hik, this, Bool.not_false, Bool.or_true]

theorem dheaps_mem : ∀ {l : List DRec} {k b : Nat} {d : DRec}, l[b]? = some d → isBig E d.o.op = true → (k + b + 1, d.rc.heap d.H) ∈ dheaps E l k
  | [], _, _, _, h, _ => by simp at h
  | a :: r, k, 0, d, h, hb => by
    simp only [List.getElem?_cons_zero, Option.some.injEq] at h
    subst h
    simp [dheaps, hb]
  | a :: r, k, b + 1, d, h, hb => by
    have := dheaps_mem (k := k + 1) (b := b) (by simpa using h) hb
    have e : k + 1 + b + 1 = k + (b + 1) + 1 := by omega
    rw [e] at this
    simp only [dheaps]
    split
    · exact List.mem_cons_of_mem _ this
    · exact this

/-- A chain's part that is closed downward is a beginning. -/
theorem chain_cut {D B : Nat → Bool} : ∀ n, (∀ b b', b < b' → b' < n → B b = true → B b' = true → D b' = true → D b = true) → ∃ i, i ≤ n ∧ (∀ b, b < n → B b = true → (D b = true ↔ b < i)) ∧ (i = 0 ∨ ∃ b, i = b + 1 ∧ b < n ∧ B b = true)
  | 0, _ => ⟨0, Nat.le_refl _, fun b hb => by omega, .inl rfl⟩
  | n + 1, h => by
    by_cases hn : B n = true ∧ D n = true
    · refine ⟨n + 1, Nat.le_refl _, fun b hb hB => ⟨fun _ => hb, fun _ => ?_⟩, .inr ⟨n, rfl, by omega, hn.1⟩⟩
      rcases Nat.lt_or_ge b n with hbn | hbn
      · exact h b n hbn (by omega) hB hn.1 hn.2
      · have : b = n := by omega
        rw [this]; exact hn.2
    · obtain ⟨i, h1, h2, h3⟩ := chain_cut n fun b b' hb hb' => h b b' hb (by omega)
      refine ⟨i, by omega, fun b hb hB => ?_, ?_⟩
      · rcases Nat.lt_or_ge b n with hbn | hbn
        · exact h2 b hbn hB
        · have : b = n := by omega
          subst this
          constructor
          · intro hD; exact absurd ⟨hB, hD⟩ hn
          · intro hi; omega
      · rcases h3 with h3 | ⟨b, h3, h4, h5⟩
        · exact .inl h3
        · exact .inr ⟨b, h3, by omega, h5⟩

variable {late : Option Nat} {X : (Nat → Prop) → (Nat → Nm) → Array Value → Prop} {recs : List DRec} {H0 : Heap} {tm0 : Tm} {ρ0 : Nat → Nm} {f0 : Frame} {cs : List Frame} {k : List Item} {w0 : World}

theorem Known.get (hK : Known E R ops nt late recs H0 tm0) {j : Nat} {o : Oper} (ho : ops[j]? = some o) : ∃ d, recs[j]? = some d ∧ d.o = o := by
  have h : (recs.map (·.o))[j]? = some o := by rw [hK.os]; simpa using ho
  rw [List.getElem?_map] at h
  cases hd : recs[j]? with
  | none => rw [hd] at h; cases h
  | some d => rw [hd] at h; exact ⟨d, rfl, by simpa using h⟩

theorem Known.turn (hK : Known E R ops nt late recs H0 tm0) {j : Nat} {d : DRec} (hd : recs[j]? = some d) (ht : d.rc.isTurn = true) : isBig E d.o.op = true := by
  obtain ⟨_, _, ⟨ok, orc', h, _⟩, _⟩ := facts_get (k := 0) hK.facts hd
  exact dop_turn h ht

/-- Where an operation's time has come: who clashes with it has run iff it stands ahead. -/
theorem Known.clashD (hK : Known E R ops nt late recs H0 tm0) {D : Nat → Bool} {j : Nat} {d : DRec} (hd : recs[j]? = some d) (hj : D j = false) (hr : Ready ops D j) (hC : Closed ops D) {i : Nat} {x : DRec} (hx : recs[i]? = some x)
    (hc : clash E ops x.o d.o = true ∨ clash E ops d.o x.o = true) (hcc : clash E ops x.o d.o = clash E ops d.o x.o)
    (hw1 : late = some j → i < j → clashN ops x.o d.o = false → D i = true) (hw2 : late = some i → j < i → clashN ops d.o x.o = false → D i = false) : D i = decide (i < j) := by
  rcases Nat.lt_trichotomy i j with h | h | h
  · rcases hK.stat i j x d h hx hd (by rcases hc with h | h; exact h; rw [hcc]; exact h) with this | ⟨w1, w2⟩
    · rw [this.has hC hr]
      simp [h]
    · rw [hw1 w1 h w2]
      simp [h]
  · subst h; rw [hj]; simp
  · have : decide (i < j) = false := by simp; omega
    rw [this]
    rcases hK.stat j i d x h hd hx (by rcases hc with h | h; rw [← hcc]; exact h; exact h) with hb | ⟨w1, w2⟩
    case inr => exact hw2 w1 h w2
    cases hD : D i
    · rfl
    · exfalso
      have hri : Ready ops D i := fun o e ho he hb => hC i o e hD ho he hb
      rw [hb.has hC hri] at hj
      cases hj

theorem clash_comm {x y : Oper} : clash E ops x y = clash E ops y x := by
  unfold clash
  rw [Bool.or_comm (writes x (names ops y)), Bool.and_comm]

theorem writes_of {x : Oper} {t : Tmp} {l : List Tmp} (h : x.dst = some t) (ht : t ∈ l) : writes x l = true := by
  unfold writes
  rw [h]
  simpa using ht

theorem Known.step (hK : Known E R ops nt late recs H0 tm0) (hR : ROk E R) (hm : f0.mode = .run) {D : Nat → Bool} {j : Nat} {o : Oper} {rest : List Nat} {m : Machine} (ho : ops[j]? = some o) (hj : D j = false) (hr : Ready ops D j) (hC : Closed ops D)
    (hN : ∀ q, late = some q → D q = true → ∀ (b : Nat) x, b < q → recs[b]? = some x → isBig E x.o.op = true → D b = true)
    (hq : late = some j → ∀ (b : Nat) x, b < j → recs[b]? = some x → isBig E x.o.op = true → D b = true)
    (hX : ∀ (A A' : Nat → Prop) (ρ ρ' : Nat → Nm) (t : Array Value) (v' : Value), X A ρ t → (∀ i, A i → A' i) → (∀ i, A i → ρ' i = ρ i) → X A' ρ' (match o.dst with | some q => t.setIfInBounds q v' | none => t))
    (hI : At Pr X ops nt recs H0 tm0 ρ0 f0 cs k w0 D (j :: rest) m) : ∃ m', Steps E.P m m' ∧ At Pr X ops nt recs H0 tm0 ρ0 f0 cs k w0 (fun i => D i || i == j) rest m' := by
  obtain ⟨d, hd, hdo⟩ := hK.get ho
  obtain ⟨ρ, t, w, rfl, hH, ht, hρ, hlen, hkp, hXX⟩ := hI
  obtain ⟨g1, g2, ⟨ok, orc', g3, g4⟩, g5⟩ := facts_get (k := 0) hK.facts hd
  simp only [Nat.zero_add] at g1 g2
  have hlk : ∀ q ∈ looks ops d.o, getT (tmD D recs 0 tm0) q = getT d.tm q := by
    intro q hq
    rw [g2, getT_tmD, getT_tmD]
    refine lk_congr fun i x hx hxd => ?_
    simp only [Nat.zero_add]
    have hwr : writes x.o (names ops d.o) = true := writes_of hxd (show q ∈ names ops d.o from List.mem_append_right _ hq)
    refine hK.clashD hd hj hr hC hx (.inl ?_) clash_comm (fun _ _ h => ?_) (fun _ _ h => ?_)
    · unfold clash
      rw [hwr]
      rfl
    · unfold clashN at h
      rw [hwr] at h; cases h
    · unfold clashN at h
      rw [hwr, Bool.or_true] at h; cases h
  have hbigD : isBig E d.o.op = true → ∀ i x, recs[i]? = some x → isBig E x.o.op = true → D i = decide (i < j) := by
    intro hb i x hx hxb
    refine hK.clashD hd hj hr hC hx (.inl ?_) clash_comm (fun h1 h2 _ => hq h1 i x h2 hx hxb) (fun h1 h2 _ => ?_)
    · unfold clash
      simp [hb, hxb]
    · cases hDi : D i
      · rfl
      · have := hN i h1 hDi j d h2 hd hb
        rw [hj] at this; cases this
  have hft : ({ f0 with tmps := t, todo := .inRegion ops (j :: rest) :: k } : Frame).todo = .inRegion ops (j :: rest) :: k := rfl
  have hfm : ({ f0 with tmps := t, todo := .inRegion ops (j :: rest) :: k } : Frame).mode = .run := hm
  have hsame : heapD D recs 0 H0 = d.H → Left E Pr ρ (heapD D recs 0 H0) { f0 with tmps := t, todo := .inRegion ops (j :: rest) :: k } cs w d.rc.v (d.rc.heap (heapD D recs 0 H0)) := by
    intro he
    have h3 : dop E R ops d.o d.g d.p d.orc (heapD D recs 0 H0) (tmD D recs 0 tm0) = some (ok, orc', d.rc) := by rw [dop_congr hlk, he]; exact g3
    exact dop_sound hR h3 g4 hfm ht hH hft (by rw [hdo]; exact ho)
  have hleft : Left E Pr ρ (heapD D recs 0 H0) { f0 with tmps := t, todo := .inRegion ops (j :: rest) :: k } cs w d.rc.v (d.rc.heap (heapD D recs 0 H0)) := by
    cases hb : isBig E d.o.op
    · -- any time
      obtain ⟨i, hi, hcut, hi0⟩ := chain_cut (D := D) (B := fun b => match recs[b]? with | some x => isBig E x.o.op | none => false) recs.length (by
        intro b b' hlt hb' h1 h2 h3
        obtain ⟨x, hx⟩ : ∃ x, recs[b]? = some x := ⟨recs[b], List.getElem?_eq_getElem (by omega)⟩
        obtain ⟨y, hy⟩ : ∃ y, recs[b']? = some y := ⟨recs[b'], List.getElem?_eq_getElem (by omega)⟩
        simp only [hx] at h1
        simp only [hy] at h2
        rcases hK.stat b b' x y hlt hx hy (by unfold clash; simp [h1, h2]) with hbef | ⟨w1, _⟩
        · exact hbef.has hC fun o e ho he hb => hC b' o e h3 ho he hb
        · exact hN b' w1 h3 b x hlt hx h1)
      have hcut' : ∀ b x, recs[b]? = some x → isBig E x.o.op = true → D b = decide (b < i) := by
        intro b x hx hxb
        have hbl : b < recs.length := (List.getElem?_eq_some_iff.1 hx).1
        have := hcut b hbl (by simp only [hx]; exact hxb)
        rw [Bool.eq_iff_iff, this]; simp
      have hHD : heapD D recs 0 H0 = heapD (fun b => decide (b < i)) recs 0 H0 := heapD_congr fun b x hx hxt => by
        simp only [Nat.zero_add]; exact hcut' b x hx (hK.turn hx hxt)
      cases hbi : bigIn E recs 0 i j || bigIn E recs 0 j i
      · -- nothing big between
        rw [Bool.or_eq_false_iff] at hbi
        refine hsame ?_
        rw [hHD, g1]
        refine heapD_congr fun b x hx hxt => ?_
        simp only [Nat.zero_add]
        have hxb := hK.turn hx hxt
        rw [Bool.eq_iff_iff]
        simp only [decide_eq_true_eq]
        constructor
        · intro h1
          rcases Nat.lt_or_ge b j with h2 | h2
          · exact h2
          · exact (bigIn_false hbi.2 b x hx hxb (by omega) (by omega)).elim
        · intro h1
          rcases Nat.lt_or_ge b i with h2 | h2
          · exact h2
          · exact (bigIn_false hbi.1 b x hx hxb (by omega) (by omega)).elim
      · -- looked at there too
        have hmay : mayMeet E (masksL ops.toList []) j i recs 0 = true := mayMeet_true fun b x hx hxb => by
          simp only [Nat.zero_add]
          have hD := hcut' b x hx hxb
          split
          · rename_i hib
            cases hbit : ((masksL ops.toList []).getD j 0).testBit b
            · rfl
            · have := (masks_bef hbit).has hC hr
              rw [this] at hD
              simp at hD; omega
          · rename_i hib
            cases hbit : ((masksL ops.toList []).getD b 0).testBit j
            · rfl
            · have hDb : D b = true := by rw [hD]; simp; omega
              have := (masks_bef hbit).has hC fun o e ho he hb => hC b o e hDb ho he hb
              rw [this] at hj
              cases hj
        have hmem : (i, heapD D recs 0 H0) ∈ (0, H0) :: dheaps E recs 0 := by
          rcases hi0 with rfl | ⟨b, rfl, hbl, hB⟩
          · rw [hHD, heapD_none fun b x _ _ => by simp]
            simp
          · obtain ⟨x, hx⟩ : ∃ x, recs[b]? = some x := ⟨recs[b], List.getElem?_eq_getElem hbl⟩
            simp only [hx] at hB
            obtain ⟨q1, _⟩ := facts_get (k := 0) hK.facts hx
            have hm := dheaps_mem (E := E) (k := 0) hx hB
            simp only [Nat.zero_add] at hm q1
            have : heapD D recs 0 H0 = x.rc.heap x.H := by
              rw [hHD]
              cases hxr : x.rc with
              | keep v =>
                rw [q1]
                show _ = heapD _ _ _ _
                refine heapD_congr fun c y hy hyt => ?_
                simp only [Nat.zero_add]
                have : c ≠ b := by rintro rfl; rw [hx] at hy; cases hy; rw [hxr] at hyt; cases hyt
                congr 1; simp; omega
              | turn v H' =>
                show _ = H'
                exact heapD_last hx hxr (by simp) fun c y hy hyt hbc => by simp; omega
            rw [this]
            exact List.mem_cons_of_mem _ hm
        obtain ⟨ok1, hc, hcok⟩ := hK.chk j d hd hb i _ hmem hbi hmay
        unfold dchk1 at hc
        split at hc
        · rename_i v hv
          split at hc
          · rename_i ok2 orc2 u hdop
            split at hc
            · rename_i ok3 hs
              cases hc
              obtain ⟨k1, k2⟩ := AllT.app.1 hcok
              have huv := sameQ_sound hs k1
              subst huv
              rw [← dop_congr hlk] at hdop
              have := dop_sound hR hdop k2 hfm ht hH hft (by rw [hdo]; exact ho) (cs := cs)
              rw [hv]
              exact this
            · cases hc
          · cases hc
        · cases hc
    · refine hsame ?_
      rw [g1]
      refine heapD_congr fun i x hx hxt => ?_
      simp only [Nat.zero_add]
      exact hbigD hb i x hx (hK.turn hx hxt)
  have hHD' : heapD (fun i => D i || i == j) recs 0 H0 = d.rc.heap (heapD D recs 0 H0) := by
    cases hrc : d.rc with
    | keep v =>
      show _ = heapD D recs 0 H0
      refine heapD_congr fun i x hx hxt => ?_
      simp only [Nat.zero_add]
      have : i ≠ j := by rintro rfl; rw [hd] at hx; cases hx; rw [hrc] at hxt; cases hxt
      simp [this]
    | turn v H' =>
      show _ = H'
      have hb := hK.turn hd (by rw [hrc]; rfl)
      refine heapD_last hd hrc (by simp) fun i x hx hxt hji => ?_
      simp only [Nat.zero_add]
      have := hbigD hb i x hx (hK.turn hx hxt)
      have h1 : (i == j) = false := by simp; omega
      rw [this, h1]
      simp; omega
  obtain ⟨ρ', v', w', s1, s2, s3, s4, s5, s6⟩ := hleft
  rw [← hHD'] at s2 s3 s5
  have hfin : ({ f0 with tmps := t, todo := .inRegion ops (j :: rest) :: k } : Frame).finish v' = { f0 with tmps := (match o.dst with | some q => t.setIfInBounds q v' | none => t), todo := .inRegion ops rest :: k } := by
    unfold Frame.finish
    simp only [ho, Option.bind_some]
    cases o.dst <;> rfl
  have hA : ∀ i, AN (heapD D recs 0 H0) i → AN (heapD (fun i => D i || i == j) recs 0 H0) i := fun i hi => by unfold AN at *; omega
  have ht' := ht.mono (Pr' := Pr) (fun _ _ h => h) hA s4
  rw [hfin] at s1
  refine ⟨_, s1, ρ', _, w', rfl, s2, ⟨?_, ?_⟩, fun i hi => ?_, by omega, hkp.trans s6, hX _ _ _ _ _ _ hXX hA s4⟩
  · have := ht'.size
    cases o.dst <;> simp [this]
  · intro q v hq
    rw [getT_tmD] at hq
    by_cases hqd : d.o.dst = some q
    · have hlast : lk (fun i => D i || i == j) q recs 0 (getT tm0 q) = some d.rc.v := by
        refine lk_last hd hqd (by simp) fun i x hx hxd hji => ?_
        simp only [Nat.zero_add]
        have hwr : writes x.o (names ops d.o) = true := writes_of hxd (show q ∈ names ops d.o from List.mem_append_left _ (by simp [hqd]))
        have := hK.clashD hd hj hr hC hx (.inl (by unfold clash; rw [hwr]; rfl)) clash_comm (fun _ _ h => by unfold clashN at h; rw [hwr] at h; cases h) (fun _ _ h => by unfold clashN at h; rw [hwr, Bool.or_true] at h; cases h)
        have h1 : (i == j) = false := by simp; omega
        rw [this, h1]
        simp; omega
      rw [hlast] at hq
      cases hq
      have hod : o.dst = some q := by rw [← hdo]; exact hqd
      have hlt : q < nt := by
        unfold dstOk at g5
        rw [hqd] at g5
        simpa using g5
      have hsz := ht.size
      rw [hod]
      exact ⟨v', by rw [Array.getElem?_setIfInBounds_self_of_lt (by omega)], s3⟩
    · have hsame : lk (fun i => D i || i == j) q recs 0 (getT tm0 q) = lk D q recs 0 (getT tm0 q) := lk_congr fun i x hx hxd => by
        have : i ≠ j := by rintro rfl; rw [hd] at hx; cases hx; exact hqd hxd
        simp [this]
      rw [hsame, ← getT_tmD] at hq
      obtain ⟨u, h1, h2⟩ := ht'.get q v hq
      refine ⟨u, ?_, h2⟩
      cases hod : o.dst with
      | none => exact h1
      | some p =>
        have : p ≠ q := by rintro rfl; exact hqd (by rw [hdo]; exact hod)
        show (t.setIfInBounds p v')[q]? = _
        rw [Array.getElem?_setIfInBounds_ne this]
        exact h1
  · rw [s4 i (by unfold AN at *; omega), hρ i hi]

end
end Go.Am
