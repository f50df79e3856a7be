/-
  The abstract machine: what makes a row and looks at none; a row that is hidden for a while.
-/
import Derived.Test.YtabloimmlmgcbaaAmDraw5
namespace Go.Am
section
variable {E : Env} {Pr : Prot} {A : Nat → Prop} {ρ : Nat → Nm}

/-- What a maker does. -/
theorem maker_run {H H' : Heap} {w : World} {tm : Tm} {nt : Nat} {t : Array Value} (ht : TmR Pr A ρ tm nt t) {o : Oper} (hmk : isMaker o.op = true) {v : Value} {ok : List Bool} (h : aop E H tm o.op = some (.val v H', ok)) (hok : AllT ok) :
    ∃ (cs cs' : List Value) (e : TypeId) (u : Value) (w' : World), H' = slot H (.cells cs e none) ∧ VL Pr A ρ cs cs' ∧ (execOp (evC t) o).run E.P w = .ok (.value u) w' ∧ w'.heap = w.heap.push (.cells cs'.toArray e (0, 0)) ∧ Kp w w' ∧
      ∀ (A' : Nat → Prop) (ρ' : Nat → Nm), A' H.length → VR Pr A' (upd ρ' H.length ⟨w.heap.size, 0, cs'.length, none, false⟩) v u := by
  have hval : ∀ {x : Operand} {k : Value → Res}, with1 (evalT tm x) k = some (.val v H', ok) → ∃ v1, evalT tm x = some v1 ∧ k v1 = some (.val v H', ok) ∧ VR Pr A ρ v1 (evC t x) := by
    intro x k hk
    unfold with1 at hk
    split at hk
    · rename_i v1 hv; exact ⟨v1, hv, hk, evalT_sound ht hv⟩
    · cases hk
  have hptr : ∀ (A' : Nat → Prop) (ρ' : Nat → Nm) (b n : Nat), A' H.length → VR Pr A' (upd ρ' H.length ⟨b, 0, n, none, false⟩) (newPtr H) (.pointer (some ⟨b, 0, none⟩)) := by
    intro A' ρ' b n hA
    have := VR.ptr (Pr := Pr) (A := A') (ρ := upd ρ' H.length ⟨b, 0, n, none, false⟩) H.length 0 hA
    simpa [upd_same, addr, Am.newPtr] using this
  have hslx : ∀ (A' : Nat → Prop) (ρ' : Nat → Nm) (b n m : Nat), A' H.length → VR Pr A' (upd ρ' H.length ⟨b, 0, n, none, false⟩) (.slice (some ⟨H.length, 0, none⟩) m m) (.slice (some ⟨b, 0, none⟩) m m) := by
    intro A' ρ' b n m hA
    have := VR.slx (Pr := Pr) (A := A') (ρ := upd ρ' H.length ⟨b, 0, n, none, false⟩) H.length 0 m m hA (by simp [upd_same]) (Nat.le_refl _)
    simpa [upd_same, addr] using this
  obtain ⟨dst, op, ty, pos, after, guard⟩ := o
  cases op <;> simp only [isMaker] at hmk <;> try (cases hmk; done)
  case alloc e =>
    simp only [aop] at h
    split at h
    · rename_i i hi
      cases h
      have hz := (AllT.cons.1 hok).1
      have hzv : VL Pr A ρ i.zero.cells.toList i.zero.cells.toList := (VR.const (Pr := Pr) (A := A) (ρ := ρ) hz).cells
      refine ⟨_, i.zero.cells.toList, e, .pointer (some ⟨w.heap.size, 0, none⟩), { w with heap := w.heap.push (.cells i.zero.cells e) }, rfl, hzv, ?_, by simp, ⟨rfl, rfl⟩, fun A' ρ' hA => hptr A' ρ' _ _ hA⟩
      simp [execOp, Instr.alloc, ty_run_zero hi w, newVar, newRow, newObj, Sem.run]
    · cases h
  case makeSlice t' l c =>
    simp only [aop] at h
    obtain ⟨v1, h1, h2, h3⟩ := hval h
    unfold with1 at h2
    split at h2
    · rename_i v2 hv2
      have h4 := evalT_sound ht hv2
      unfold makeOp at h2
      dsimp only at h2
      split at h2
      · rename_i e i a b hj
        obtain ⟨hu, he⟩ := elemT_spec hj
        cases h2
        generalize hl' : evC t l = l' at h3
        generalize hc' : evC t c = c' at h4
        cases h3; cases h4
        obtain ⟨hab, hok⟩ := AllT.cons.1 hok
        obtain ⟨h0, hok⟩ := AllT.cons.1 hok
        obtain ⟨hby, hok⟩ := AllT.cons.1 hok
        obtain ⟨hmax, hok⟩ := AllT.cons.1 hok
        obtain ⟨hsz, hok⟩ := AllT.cons.1 hok
        obtain ⟨hzl, hok⟩ := AllT.cons.1 hok
        have hzc := (AllT.cons.1 hok).1
        obtain rfl : a = b := by simpa using hab
        have h0 : 0 ≤ a := by simpa using h0
        have hby : a * i.bytes ≤ 140737488355328 := by simpa using hby
        have hmax : a ≤ 9223372036854775807 := by simpa using hmax
        have hsz : 0 < i.size := by simpa using hsz
        have hzl : i.zero.cells.size = i.size := by rw [← Array.length_toList]; simpa using hzl
        have hz : VL Pr A ρ i.zero.cells.toList i.zero.cells.toList := (VR.const (Pr := Pr) (A := A) (ρ := ρ) hzc).cells
        obtain ⟨_, inf, hinf, q1, q2, q3⟩ := E.tyOk e i he
        have hrun := run_make (P := E.P) w t' e inf i.zero (undT_P hu) hinf q3 .i64 .i64 a a h0 (Int.le_refl _) (by rw [q2, Int.mul_comm]; omega) (by omega)
        have hrow : (madeCells i.zero.cells (a.toNat * inf.size)).toList = rep i.zero.cells.toList a.toNat := by
          rw [q1, ← hzl]
          exact zeros_rep i.zero.cells a.toNat
        have hm : madeCells i.zero.cells (a.toNat * inf.size) = (rep i.zero.cells.toList a.toNat).toArray := by
          rw [← hrow]
        rw [hm] at hrun
        refine ⟨_, rep i.zero.cells.toList a.toNat, e, .slice (some ⟨w.heap.size, 0, none⟩) a.toNat a.toNat, w.alloc (.cells (rep i.zero.cells.toList a.toNat).toArray e), rfl, rep_VL hz a.toNat, ?_, rfl, ⟨rfl, rfl⟩, fun A' ρ' hA => hslx A' ρ' _ _ _ hA⟩
        simp only [execOp, hl', hc', Sem.run_bind, hrun, Result.andThen_ok]
        rfl
      · cases h2
    · cases h2
  case buildSlice t' n ps =>
    simp only [aop] at h
    split at h
    · rename_i l hl
      have hp := evalP_sound ht hl
      have e1 : (ps.map fun (i, x) => (i, evC t x)) = (ps.toList.map fun p => (p.1, evC t p.2)).toArray := by
        apply Array.ext'
        simp
      unfold buildSOp at h
      split at h
      · rename_i e j hj
        obtain ⟨hu, he⟩ := elemT_spec hj
        split at h
        · rename_i hc
          obtain ⟨hc1, hc2, hc3⟩ := hc
          split at h
          · rename_i cs hfill
            cases h
            have hz := (AllT.cons.1 hok).1
            have hzv : VL Pr A ρ j.zero.cells.toList j.zero.cells.toList := (VR.const (Pr := Pr) (A := A) (ρ := ρ) hz).cells
            have hzs : j.zero.cells.size = j.size := by rw [← Array.length_toList]; exact hc2
            have hrep := rep_VL hzv n
            have hbase : VL Pr A ρ (rep j.zero.cells.toList n) ((Array.range (n * j.size)).map (fun i => j.zero.cells[i % j.zero.cells.size]!)).toList := by
              rw [← hzs, zeros_rep]; exact hrep
            obtain ⟨c2, g1, g2⟩ := fill_sound (pc := fun k => some (k * j.size, j.size)) (fun _ _ _ h => h) hp hfill hbase
            refine ⟨cs, c2.toList, e, .slice (some ⟨w.heap.size, 0, none⟩) n n, { w with heap := w.heap.push (.cells c2 e) }, rfl, g2, ?_, by simp, ⟨rfl, rfl⟩, fun A' ρ' hA => hslx A' ρ' _ _ _ hA⟩
            have hlim : ¬ (n * j.size > 2 ^ 24) := by omega
            have hfl : Instr.fill (fun i => some (i * j.size, j.size)) ((Array.range (n * j.size)).map (fun i => j.zero.cells[i % j.zero.cells.size]!)) (ps.toList.map fun p => (p.1, evC t p.2)) = some c2 := g1
            simp only [execOp, e1]
            by_cases h0 : n * j.size = 0
            · have hr0 : Array.range 0 = #[] := rfl
              have hfl0 : Instr.fill (fun i => some (i * j.size, j.size)) #[] (ps.toList.map fun p => (p.1, evC t p.2)) = some c2 := by
                rw [h0, hr0] at hfl; simpa using hfl
              simp [Instr.buildSlice, undT_run hu w, ty_run_size he w, h0, newRow, newObj, Sem.run, hr0, hfl0]
            · simp [Instr.buildSlice, undT_run hu w, ty_run_size he w, hlim, h0, ty_run_zero he w, newRow, newObj, Sem.run, hfl]
          · cases h
        · cases h
      · cases h
    · cases h

/-- A row put aside: it stays as it is, and nobody reads it. -/
def hide (Pr : Prot) (b : Nat) (o : Obj) (h : Pr.keep b = none) : Prot :=
  ⟨fun i => if i = b then some o else Pr.keep i, Pr.rd, fun i x hx => by
    have := Pr.sub i x hx
    by_cases hi : i = b
    · subst hi; rw [h] at this; cases this
    · rw [if_neg hi]; exact this⟩

theorem HR.hideNew {H : Heap} {hp : Array Obj} (h : HR Pr A ρ H hp) (o : Obj) : ∃ hn : Pr.keep hp.size = none, HR (hide Pr hp.size o hn) A ρ H (hp.push o) := by
  have hlt : ∀ {b : Nat} {o' : Obj}, hp[b]? = some o' → b < hp.size := fun h => (Array.getElem?_eq_some_iff.1 h).1
  have hpp : ∀ b, b < hp.size → (hp.push o)[b]? = hp[b]? := fun b hb => by rw [Array.getElem?_push]; rw [if_neg (by omega)]
  have hnone : Pr.keep hp.size = none := by
    cases hs : Pr.keep hp.size with
    | none => rfl
    | some o' => exact absurd (hlt (h.pr _ _ hs)) (by omega)
  obtain ⟨own, h⟩ := h
  refine ⟨hnone, own, fun b x hb => ?_, h.nm, fun i ob hi hf => ?_, fun i cs e z hi => ?_, fun b i hb => ?_⟩
  · have hb : (if b = hp.size then some o else Pr.keep b) = some x := hb
    by_cases hbs : b = hp.size
    · rw [if_pos hbs] at hb
      cases hb
      subst hbs
      simp
    · rw [if_neg hbs] at hb
      have := h.pr b x hb
      rw [hpp b (hlt this)]
      exact this
  · rcases h.ob i ob hi hf with g | ⟨g1, g2, g3⟩
    · exact .inl g
    · exact .inr ⟨g1, g2.mono (Pr := Pr) (Pr' := hide Pr hp.size o hnone) (fun _ _ h => h) (fun _ h => h) (fun _ _ => rfl) (fun _ h => h) (fun b hb => hpp b (h.ow _ _ hb).1) g3, g3⟩
  · have hl := h.fr_lt hi
    refine h.fr_keepP (Pr := Pr) (Pr' := hide Pr hp.size o hnone) (fun _ _ h => h) (fun _ h => h) (fun _ _ => rfl) hi (hpp _ hl) (fun hk => ?_) (fun j hj => ⟨hj, fun _ _ _ q => q⟩)
    show (if (ρ i).blk = hp.size then some o else Pr.keep (ρ i).blk) = none
    rw [if_neg (by omega)]
    exact hk
  · obtain ⟨h1, h2⟩ := h.ow b i hb
    refine ⟨by rw [Array.size_push]; omega, ?_⟩
    show (if b = hp.size then some o else Pr.keep b) = none
    rw [if_neg (by omega)]
    exact h2

/-- The row that was put aside is a block again. -/
theorem HR.absorb {H : Heap} {hp : Array Obj} {b : Nat} {e : TypeId} {cs cs' : List Value} {hn : Pr.keep b = none} (h : HR (hide Pr b (.cells cs'.toArray e (0, 0)) hn) (AN H) ρ H hp) (hv : VL Pr (AN H) ρ cs cs') :
    HR Pr (AN (slot H (.cells cs e none))) (upd ρ H.length ⟨b, 0, cs'.length, none, false⟩) (slot H (.cells cs e none)) hp := by
  have hA : ∀ i, AN H i → AN (slot H (.cells cs e none)) i := AN_slot
  have hr : ∀ i, AN H i → upd ρ H.length ⟨b, 0, cs'.length, none, false⟩ i = ρ i := fun i hi => upd_old ρ _ _ hi
  have hb : hp[b]? = some (.cells cs'.toArray e (0, 0)) := h.pr b _ (by show (if b = b then _ else _) = _; rw [if_pos rfl])
  have hk : ∀ i, (hide Pr b (.cells cs'.toArray e (0, 0)) hn).keep i = none → Pr.keep i = none ∧ i ≠ b := by
    intro i hi
    have hi : (if i = b then some (Obj.cells cs'.toArray e (0, 0)) else Pr.keep i) = none := hi
    by_cases hib : i = b
    · rw [if_pos hib] at hi; cases hi
    · rw [if_neg hib] at hi; exact ⟨hi, hib⟩
  have hcase : ∀ i oi, getO (slot H (.cells cs e none)) i = some oi → (i < H.length ∧ getO H i = some oi) ∨ (i = H.length ∧ oi = .cells cs e none) := by
    intro i oi hi
    have hl := getO_lt hi
    rw [slot_length] at hl
    by_cases hc : i < H.length
    · rw [getO_slot_old hc] at hi; exact .inl ⟨hc, hi⟩
    · have : i = H.length := by omega
      subst this
      rw [getO_slot_new] at hi
      exact .inr ⟨rfl, (Option.some.inj hi).symm⟩
  obtain ⟨own, h⟩ := h
  have hne : ∀ c i, own c = some i → c ≠ b := fun c i hc => (hk c (h.ow c i hc).2).2
  have hbl : b < hp.size := (Array.getElem?_eq_some_iff.1 hb).1
  refine ⟨fun c => if c = b then some H.length else own c, fun c x hc => ?_, fun i oi hi => getO_lt hi, fun i oi hi hf => ?_, fun i ci ei zi hi => ?_, fun c i hc => ?_⟩
  · refine h.pr c x ?_
    show (if c = b then _ else _) = _
    rw [if_neg (by rintro rfl; rw [hn] at hc; cases hc)]
    exact hc
  · rcases hcase i oi hi with ⟨hc, hg⟩ | ⟨rfl, rfl⟩
    · rw [upd_old ρ _ _ hc]
      rcases h.ob i oi hg hf with g | ⟨g1, g2, g3⟩
      · exact .inl g
      · refine .inr ⟨g1, g2.mono (Pr := hide Pr b (.cells cs'.toArray e (0, 0)) hn) (Pr' := Pr) (fun _ _ h => h) hA hr (fun c hc => ?_) (fun _ _ => rfl) g3, ?_⟩
        · show (if c = b then some H.length else own c) = _
          rw [if_neg (hne c i hc)]; exact hc
        · show (if (ρ i).blk = b then some H.length else own _) = _
          rw [if_neg (hne _ i g3)]; exact g3
    · rw [upd_same]
      refine .inr ⟨rfl, .inl ⟨cs'.toArray, (0, 0), hb, by simp, by simp [hv.length], by intro k _; simp, rfl, fun _ => ⟨rfl, by simp [hv.length]⟩, ?_⟩, ?_⟩
      · have : ((cs'.toArray.toList.drop 0).take cs.length) = cs' := by simp [hv.length]
        rw [this]
        exact hv.mono (fun _ _ h => h) hA hr
      · show (if b = b then some H.length else _) = _
        rw [if_pos rfl]
  · rcases hcase i _ hi with ⟨hc, hg⟩ | ⟨_, he⟩
    · have hk0 := hk _ (h.fr i ci ei zi hg).2.1
      refine h.fr_keepP (Pr := hide Pr b (.cells cs'.toArray e (0, 0)) hn) (Pr' := Pr) (fun _ _ h => h) hA hr hg rfl (fun _ => hk0.1) (fun j hj => ?_)
      have hj : (if (ρ i).blk = b then some H.length else own (ρ i).blk) = some j := hj
      rw [if_neg hk0.2] at hj
      exact ⟨hj, fun cj ej zj q => by rw [getO_slot_old (getO_lt q)]; exact q⟩
    · cases he
  · have hc : (if c = b then some H.length else own c) = some i := hc
    by_cases hcb : c = b
    · subst hcb; exact ⟨hbl, hn⟩
    · rw [if_neg hcb] at hc
      exact ⟨(h.ow c i hc).1, (hk c (h.ow c i hc).2).1⟩


end
end Go.Am
