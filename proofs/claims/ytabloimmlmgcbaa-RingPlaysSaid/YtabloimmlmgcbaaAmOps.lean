/-
  The abstract machine: its operations against the model's. First: types, loads, stores, new blocks.
-/
import Derived.Test.YtabloimmlmgcbaaAmHeap
import Derived.WalkKit
namespace Go.Am

def AllT (ok : List Bool) : Prop := ∀ b ∈ ok, b = true

theorem AllT.cons {b : Bool} {l : List Bool} : AllT (b :: l) ↔ b = true ∧ AllT l := by
  constructor
  · intro h; exact ⟨h b (by simp), fun x hx => h x (by simp [hx])⟩
  · rintro ⟨h1, h2⟩ x hx
    rcases List.mem_cons.1 hx with rfl | hx
    · exact h1
    · exact h2 x hx
theorem AllT.app {a b : List Bool} : AllT (a ++ b) ↔ AllT a ∧ AllT b := by
  constructor
  · intro h; exact ⟨fun x hx => h x (by simp [hx]), fun x hx => h x (by simp [hx])⟩
  · rintro ⟨h1, h2⟩ x hx
    rcases List.mem_append.1 hx with hx | hx
    · exact h1 x hx
    · exact h2 x hx
theorem AllT.nil : AllT [] := fun _ h => by cases h

section
variable {E : Env}

theorem undT_run {t : TypeId} {d : TypeDesc} (h : undT E t = some d) (w : World) : (underlying t).run E.P w = .ok d w := by
  unfold undT at h
  split at h
  · rename_i i hi
    cases h
    exact run_underlying (E.tyOk t i hi).1 w
  · cases h

theorem undT_P {t : TypeId} {d : TypeDesc} (h : undT E t = some d) : E.P.underlying t = some d := by
  unfold undT at h
  split at h
  · rename_i i hi
    cases h
    exact (E.tyOk t i hi).1
  · cases h

theorem ty_run_und {t : TypeId} {i : TI} (h : E.ty t = some i) (w : World) : (underlying t).run E.P w = .ok i.und w := run_underlying (E.tyOk t i h).1 w

theorem ty_run_size {t : TypeId} {i : TI} (h : E.ty t = some i) (w : World) : (sizeOf t).run E.P w = .ok i.size w := by
  obtain ⟨_, inf, h1, h2, _⟩ := E.tyOk t i h
  simp [sizeOf, typeInfo, h1, h2]

theorem ty_run_zero {t : TypeId} {i : TI} (h : E.ty t = some i) (w : World) : (zeroValue t).run E.P w = .ok i.zero w := by
  obtain ⟨_, inf, h1, _, _, h2⟩ := E.tyOk t i h
  simp [zeroValue, typeInfo, h1, h2]

theorem ty_run_agg {t : TypeId} {i : TI} (h : E.ty t = some i) (w : World) : (isAgg t).run E.P w = .ok (isAggT i.und) w := by
  simp only [isAgg, Sem.run_bind, ty_run_und h w, Result.andThen_ok]
  cases i.und <;> rfl

theorem addr_add (b o k : Nat) : (⟨b, o, none⟩ : Addr).add k = ⟨b, o + k, none⟩ := by
  unfold Addr.add
  split
  · rename_i h; subst h; rfl
  · rfl

theorem proj_eq {l : Leaf} {v : Value} (h : AllT (projOk l v)) : proj l v = v := by
  cases l with
  | int k =>
    have := h (isInt k v) (by simp [projOk])
    cases v <;> simp [isInt] at this
    subst this; rfl
  | bool =>
    have := h (isBool v) (by simp [projOk])
    cases v <;> simp [isBool] at this
    rfl
  | str =>
    have := h (isStr v) (by simp [projOk])
    cases v <;> simp [isStr] at this
    rfl
  | row =>
    have := h (isRow v) (by simp [projOk])
    cases v <;> simp [isRow] at this
    rename_i n w
    cases w <;> simp at this
    rename_i cs
    show Value.iface n (.agg cs.toList.toArray) = _
    rw [Array.toArray_toList]
  | other => rfl

section
variable {Pr : Prot} {A : Nat → Prop} {ρ : Nat → Nm}

theorem loadN_length (cs : List Value) (o : Nat) : ∀ (ls : List Leaf) (k : Nat), (loadN cs o ls k).length = ls.length
  | [], _ => rfl
  | l :: r, k => by simp [loadN, loadN_length cs o r (k + 1)]

theorem loadN_get {cs : List Value} {o : Nat} : ∀ (ls : List Leaf) (k : Nat), AllT (loadNOk cs o ls k) → ∀ j, j < ls.length → (loadN cs o ls k).getD j undef = cs.getD (o + (k + j)) undef
  | [], _, _, j, hj => by simp at hj
  | l :: r, k, h, j, hj => by
    simp only [loadNOk] at h
    obtain ⟨h1, h2⟩ := AllT.app.1 h
    cases j with
    | zero => simpa [loadN] using proj_eq h1
    | succ j =>
      have := loadN_get r (k + 1) h2 j (by simpa using hj)
      simp only [loadN, List.getD_cons_succ]
      rw [this]
      congr 1; omega

/-- A variable is read: where the cells read as told, the value does. -/
theorem load_run {t : TypeId} {i : TI} (ht : E.ty t = some i) {cs : List Value} {o : Nat} {v : Value} {ok : List Bool} (hl : loadV i cs o = some (v, ok)) (hok : AllT ok)
    (w : World) (a : Addr) (f : Nat → Value) (hc : ∀ k, o + k < cs.length → w.cell? (a.add k) = some (f k)) (hv : ∀ k, o + k < cs.length → VR Pr A ρ (cs.getD (o + k) undef) (f k)) :
    ∃ v', (loadVar t a).run E.P w = .ok v' w ∧ VR Pr A ρ v v' := by
  unfold loadV at hl
  split at hl
  · rename_i hagg
    split at hl
    · rename_i hlen
      cases hl
      obtain ⟨h1, h2⟩ := AllT.cons.1 hok
      have hle : o + i.size ≤ cs.length := by simpa using h1
      refine ⟨.agg ((List.range i.size).map f).toArray, ?_, ?_⟩
      · have := run_loadCells (P := E.P) w a i.size f (fun j hj => hc j (by omega))
        simp only [loadVar, Sem.run_bind, ty_run_agg ht w, Result.andThen_ok, hagg, if_true, ty_run_size ht w, this]
        rfl
      · refine VR.aggL (VL.of_get (by simp [loadN_length, hlen]) fun k hk => ?_)
        rw [loadN_length] at hk
        rw [loadN_get i.leaves 0 h2 k hk]
        have hk2 : k < i.size := by omega
        have := hv k (by omega)
        simpa [List.getD_eq_getElem?_getD, hk2] using this
    · cases hl
  · rename_i hagg
    have hagg' : isAggT i.und = false := by simpa using hagg
    split at hl
    · rename_i l hleaf
      cases hl
      obtain ⟨h1, h2⟩ := AllT.cons.1 hok
      have hle : o < cs.length := by simpa using h1
      refine ⟨f 0, ?_, ?_⟩
      · have h0 := hc 0 (by omega)
        have ha : a.add 0 = a := by simp [Addr.add]
        rw [ha] at h0
        simp [loadVar, ty_run_agg ht w, hagg', h0]
      · rw [proj_eq h2]
        simpa using hv 0 (by omega)
    · cases hl

theorem loadV_len {i : TI} {cs : List Value} {o : Nat} {v : Value} {ok : List Bool} (hl : loadV i cs o = some (v, ok)) (hok : AllT ok) (hs : 0 < i.size) : 0 < cs.length := by
  unfold loadV at hl
  split at hl
  · split at hl
    · cases hl
      have := (AllT.cons.1 hok).1
      simp at this; omega
    · cases hl
  · split at hl
    · cases hl
      have := (AllT.cons.1 hok).1
      simp at this; omega
    · cases hl

theorem CellsR.cell {cs : List Value} {e : TypeId} {g : Option Nat} {x : Nm} {w : World} (h : CellsR Pr A ρ cs e g x w.heap) :
    ∃ f : Nat → Value, ∀ k, k < cs.length → w.cell? (addr x k) = some (f k) ∧ VR Pr A ρ (cs.getD k undef) (f k) := by
  obtain ⟨c, fz, h1, h2, h3, h4, h5, h6, h7⟩ := h
  refine ⟨fun k => c.getD (x.base + k) undef, fun k hk => ⟨?_, ?_⟩⟩
  · simp [World.cell?, addr, h1, Array.getD_eq_getD_getElem?]
    rw [Array.getElem?_eq_getElem (by omega)]
    simp
  · have := h7.get k hk
    have e1 : ((c.toList.drop x.base).take cs.length).getD k undef = c.getD (x.base + k) undef := by
      simp [List.getD_eq_getElem?_getD, Array.getD_eq_getD_getElem?, hk]
    rw [e1] at this
    exact this

/-- Load of an own block or a protected place. -/
theorem load_sound {H : Heap} {w : World} (hH : HR Pr A ρ H w.heap) {t : TypeId} {a a' v : Value} {H' : Heap} {ok : List Bool} (hl : loadOp E H t a = some (.val v H', ok)) (hok : AllT ok)
    (ha : VR Pr A ρ a a') : ∃ v', (Instr.loadAt t a').run E.P w = .ok v' w ∧ VR Pr A ρ v v' ∧ H' = H := by
  unfold loadOp at hl
  split at hl
  · rename_i i b o hi
    have key : ∀ {cs : List Value} {e : TypeId} {g : Option Nat} {v1 : Value} {ok1 : List Bool}, CellsR Pr A ρ cs e g (ρ b) w.heap → loadV i cs o = some (v1, ok1) → AllT ok1 → ∃ v', (Instr.loadAt t a').run E.P w = .ok v' w ∧ VR Pr A ρ v1 v' ∧ H = H := by
      intro cs e g v1 ok1 ho hlv hok
      cases ha with
      | ptr _ _ hb =>
        obtain ⟨f, hf⟩ := CellsR.cell (w := w) ho
        obtain ⟨v', h1, h2⟩ := load_run hi hlv hok w (addr (ρ b) o) (fun k => f (o + k)) (fun k hk => by
          have := (hf (o + k) hk).1
          rw [addr, addr_add]
          rw [addr] at this
          rw [← Nat.add_assoc] at this
          exact this) (fun k hk => (hf (o + k) hk).2)
        exact ⟨v', by simpa [Instr.loadAt, Instr.sureAddr] using h1, h2, rfl⟩
    split at hl
    · rename_i cs e g hg
      split at hl
      case isFalse => cases hl
      rename_i hgs
      split at hl
      · rename_i v1 ok1 hlv
        cases hl
        exact key (hH.realC hg (hgs.imp id fun hs => loadV_len hlv hok hs)).2.1 hlv hok
      · cases hl
    · rename_i cs e z hg
      split at hl
      case isFalse => cases hl
      split at hl
      · rename_i v1 ok1 hlv
        cases hl
        exact key (hH.logR (.inl hg)).2.1 hlv hok
      · cases hl
    · rename_i cs e z hg
      split at hl
      case isFalse => cases hl
      split at hl
      · rename_i v1 ok1 hlv
        cases hl
        exact key (hH.logR (.inr hg)).2.1 hlv hok
      · cases hl
    · cases hl
  · rename_i i o cs hi
    split at hl
    · rename_i v1 ok1 hlv
      cases hl
      cases ha with
      | rop _ _ b o' f hf hv =>
        obtain ⟨v', h1, h2⟩ := load_run hi hlv hok w ⟨b, o' + o, none⟩ (fun k => f (o + k)) (fun k hk => by
          have hk' : o + k < cs.size := by simpa using hk
          have := hf (o + k) hk'
          rw [addr_add]
          unfold rd at this
          cases hp : Pr.rd b with
          | none => simp [hp] at this
          | some ob =>
            simp only [hp] at this
            have h2 := hH.pr b ob (Pr.sub b ob hp)
            cases ob <;> simp at this
            simp [World.cell?, h2, Nat.add_assoc, this]) (fun k hk => by
          have hk' : o + k < cs.size := by simpa using hk
          have := (hv (o + k) hk').vr (A := A) (ρ := ρ)
          simpa [Array.getD_eq_getD_getElem?, List.getD_eq_getElem?_getD] using this)
        exact ⟨v', by simpa [Instr.loadAt, Instr.sureAddr] using h1, h2, rfl⟩
    · cases hl
  · cases hl

/-! ### stores -/

theorem setN_length : ∀ (vs cs : List Value) (o : Nat), (setN cs o vs).length = cs.length
  | [], cs, o => rfl
  | v :: r, cs, o => by rw [setN, setN_length r, List.length_set]

theorem VL.setN {vs vs' : List Value} (hv : VL Pr A ρ vs vs') : ∀ {cs cs' : List Value} (o : Nat), VL Pr A ρ cs cs' → VL Pr A ρ (Am.setN cs o vs) (Am.setN cs' o vs') := by
  induction hv with
  | nil => intro cs cs' o h; exact h
  | cons h _ ih => intro cs cs' o hc; exact ih (o + 1) (hc.set h o)

theorem one_iff (v : Value) : one v = true ↔ v.oneCell' = true := by cases v <;> simp [one, Value.oneCell']

theorem VR.one {v v' : Value} (h : VR Pr A ρ v v') (h1 : Am.one v = true) (hi : ∀ n c, v ≠ .iface n c) : Am.one v' = true := by
  cases h <;> first | rfl | (exact absurd rfl (hi _ _)) | cases h1

theorem VR.one' {v v' : Value} (h : VR Pr A ρ v v') (h1 : Am.one v = true) : Am.one v' = true := by
  cases h <;> first | rfl | cases h1

theorem VL.one {l l' : List Value} (h : VL Pr A ρ l l') (h1 : l.all Am.one = true) : l'.all Am.one = true := by
  induction h with
  | nil => rfl
  | cons h _ ih =>
    simp only [List.all_cons, Bool.and_eq_true] at h1 ⊢
    exact ⟨h.one' h1.1, ih h1.2⟩

theorem VR.cells {v v' : Value} (h : VR Pr A ρ v v') : VL Pr A ρ v.cells.toList v'.cells.toList := by
  have h' := h
  cases h <;> first
    | exact VL.cons h' .nil
    | exact VL.toArray ‹_› ‹_›

/-- Cells written, one behind the other. -/
theorem run_storeL (P : Program) (b o : Nat) (e : TypeId) (fz : Nat × Nat) : ∀ (vs : List Value) (i : Nat) (c : Array Value) (w : World), w.heap[b]? = some (.cells c e fz) →
    o + i + vs.length ≤ c.size → (∀ k, k < c.size → ¬ (fz.1 ≤ k ∧ k < fz.2)) → vs.all Am.one = true →
    ∃ w', (storeCells ⟨b, o, none⟩ vs i).run P w = .ok () w' ∧ w'.heap = w.heap.setIfInBounds b (.cells (Am.setN c.toList (o + i) vs).toArray e fz) ∧ Kp w w'
  | [], i, c, w, hb, _, _, _ => by
    refine ⟨w, by simp [storeCells], ?_, ⟨rfl, rfl⟩⟩
    obtain ⟨hlt, hk⟩ := Array.getElem?_eq_some_iff.1 hb
    apply Array.ext_getElem?
    intro k
    by_cases hbk : b = k
    · subst hbk
      simp [Am.setN, hlt, hk]
    · rw [Array.getElem?_setIfInBounds_ne hbk]
  | v :: r, i, c, w, hb, hle, hfz, h1 => by
    simp only [List.length_cons] at hle
    simp only [List.all_cons, Bool.and_eq_true] at h1
    have hcell : w.cell? ⟨b, o + i, none⟩ = some (c[o + i]'(by omega)) := by simp [World.cell?, hb]
    have hf : w.frozen? ⟨b, o + i, none⟩ = false := by
      have := hfz (o + i) (by omega)
      simp only [World.frozen?, hb]
      simpa using this
    have hs := run_store P w ⟨b, o + i, none⟩ v .plain ((one_iff v).1 h1.1)
    have hb2 : (w.setCell ⟨b, o + i, none⟩ v).heap[b]? = some (.cells (c.setIfInBounds (o + i) v) e fz) := by
      simp [World.setCell, Array.getElem?_modify, hb]
    obtain ⟨w', h2, h3, h4⟩ := run_storeL P b o e fz r (i + 1) (c.setIfInBounds (o + i) v) _ hb2 (by simp; omega) (by simpa using hfz) h1.2
    refine ⟨w', ?_, ?_, Kp.trans ⟨rfl, rfl⟩ h4⟩
    · simp only [storeCells, addr_add, Sem.run_bind, hs, hcell, hf]
      simpa using h2
    · rw [h3]
      obtain ⟨hlt, hk⟩ := Array.getElem?_eq_some_iff.1 hb
      apply Array.ext_getElem?
      intro k
      by_cases hbk : b = k
      · subst hbk
        simp [Am.setN, Nat.add_assoc, World.setCell, hlt]
      · rw [Array.getElem?_setIfInBounds_ne hbk, Array.getElem?_setIfInBounds_ne hbk]
        simp [World.setCell, Array.getElem?_modify, hbk]

theorem setN_drop : ∀ (vs l : List Value) (b o : Nat), (Am.setN l (b + o) vs).drop b = Am.setN (l.drop b) o vs
  | [], l, b, o => rfl
  | v :: r, l, b, o => by
    rw [Am.setN, Nat.add_assoc, setN_drop r, Am.setN, List.drop_set, if_neg (by omega), Nat.add_sub_cancel_left]

theorem setN_take : ∀ (vs l : List Value) (n o : Nat), (Am.setN l o vs).take n = Am.setN (l.take n) o vs
  | [], l, n, o => rfl
  | v :: r, l, n, o => by rw [Am.setN, setN_take r, Am.setN, List.take_set]

/-- A store. -/
theorem store_sound {H : Heap} {w : World} (hH : HR Pr A ρ H w.heap) {t : TypeId} {a a' v v' r : Value} {H' : Heap} {ok : List Bool} (hl : storeOp E H t a v = some (.val r H', ok)) (hok : AllT ok)
    (ha : VR Pr A ρ a a') (hv : VR Pr A ρ v v') : ∃ w', (Instr.storeAt t a' v').run E.P w = .ok () w' ∧ HR Pr A ρ H' w'.heap ∧ r = undef ∧ H'.length = H.length ∧ Kp w w' := by
  unfold storeOp at hl
  split at hl
  · rename_i i b o hi
    split at hl
    · rename_i cs e g hg
      split at hl
      · rename_i hc
        cases hl
        obtain ⟨h1, h2, hgs⟩ := hc
        have hle : o + i.size ≤ cs.length := by simpa using (AllT.cons.1 hok).1
        cases ha with
        | ptr _ _ hb =>
          obtain ⟨_, ho, hpr, hph⟩ := hH.realC hg (hgs.imp id fun hs => by omega)
          obtain ⟨c, fz, g1, g2, g3, g4, g5, g6, g7⟩ := id ho
          have hcv := hv.cells
          have hlen := hcv.length
          obtain ⟨w', e1, e2, e3⟩ := run_storeL E.P (ρ b).blk ((ρ b).base + o) e fz v'.cells.toList 0 c w g1 (by omega) g4 (hcv.one h1)
          refine ⟨w', ?_, ?_, rfl, by simp, e3⟩
          · have hsz : v'.cells.size = i.size := by simpa [h2] using hlen.symm
            simp only [Instr.storeAt, Instr.sureAddr, pure_bind, storeVar, Sem.run_bind, ty_run_size hi w, Result.andThen_ok, hsz, ne_eq, not_true_eq_false, if_false]
            simpa [addr] using e1
          · rw [e2]
            refine hH.turn hg hph hpr _ ?_
            refine ⟨_, fz, Array.getElem?_setIfInBounds_self_of_lt (Array.getElem?_eq_some_iff.1 g1).1, ?_, ?_, ?_, g5, ?_, ?_⟩
            · simpa [setN_length] using g2
            · simpa [setN_length] using g3
            · simpa [setN_length] using g4
            · intro hn
              obtain ⟨q1, q2⟩ := g6 hn
              simpa [setN_length] using ⟨q1, q2⟩
            · rw [setN_length]
              simp only [Nat.add_zero]
              rw [setN_drop, setN_take]
              exact hcv.setN o g7
      · cases hl
    · cases hl
  · cases hl

end

/-! ### new blocks -/

section
variable {Pr : Prot} {ρ : Nat → Nm}

/-- A new row of cells, of which the first are known. -/
theorem HR.newCells {H : Heap} {hp : Array Obj} (h : HR Pr (AN H) ρ H hp) {cs cs' : List Value} (hv : VL Pr (AN H) ρ cs cs') (ex : List Value) (e : TypeId) (g : Option Nat) (fz : Nat × Nat)
    (hfz : ∀ k, k < (cs' ++ ex).length → ¬ (fz.1 ≤ k ∧ k < fz.2)) (hg : g = none → ex = []) :
    HR Pr (AN (slot H (.cells cs e g))) (upd ρ H.length ⟨hp.size, 0, (cs' ++ ex).length, g, false⟩) (slot H (.cells cs e g)) (hp.push (.cells (cs' ++ ex).toArray e fz)) := by
  refine h.alloc _ _ _ rfl rfl ⟨(cs' ++ ex).toArray, fz, by simp, by simp, ?_, by simpa using hfz, rfl, ?_, ?_⟩
  · simp only [List.size_toArray, List.length_append, hv.length]; omega
  · intro hn
    have := hg hn
    subst this
    simp [hv.length]
  · have : ((cs' ++ ex).toArray.toList.drop 0).take cs.length = cs' := by
      simp [hv.length]
    rw [this]
    exact hv.mono (fun _ _ h => h) AN_slot (fun i hi => upd_old ρ _ _ hi)

theorem VR.newPtr {H : Heap} {ob : Ob} {b tot : Nat} {g : Option Nat} : VR Pr (AN (slot H ob)) (upd ρ H.length ⟨b, 0, tot, g, false⟩) (newPtr H) (.pointer (some ⟨b, 0, none⟩)) := by
  have := VR.ptr (Pr := Pr) (A := AN (slot H ob)) (ρ := upd ρ H.length ⟨b, 0, tot, g, false⟩) H.length 0 (by unfold AN; rw [slot_length]; omega)
  simpa [upd_same, addr, Am.newPtr] using this

theorem VR.newSlx {H : Heap} {ob : Ob} {b tot n c : Nat} (hn : n ≤ c) : VR Pr (AN (slot H ob)) (upd ρ H.length ⟨b, 0, tot, none, false⟩) (.slice (some ⟨H.length, 0, none⟩) n c) (.slice (some ⟨b, 0, none⟩) n c) := by
  have := VR.slx (Pr := Pr) (A := AN (slot H ob)) (ρ := upd ρ H.length ⟨b, 0, tot, none, false⟩) H.length 0 n c (by unfold AN; rw [slot_length]; omega) (by simp [upd_same]) hn
  simpa [upd_same, addr] using this

theorem VR.newSlf {H : Heap} {ob : Ob} {b base tot n c c' z : Nat} (h1 : n ≤ c') (h2 : base + c' * z ≤ tot) (h3 : c' ≤ maxLen) :
    VR Pr (AN (slot H ob)) (upd ρ H.length ⟨b, base, tot, some z, false⟩) (.slice (some ⟨H.length, 0, none⟩) n c) (.slice (some ⟨b, base, none⟩) n c') := by
  have := VR.slf (Pr := Pr) (A := AN (slot H ob)) (ρ := upd ρ H.length ⟨b, base, tot, some z, false⟩) H.length 0 n c c' z (by unfold AN; rw [slot_length]; omega) (by simp [upd_same]) (by simp [upd_same]) h1 (by simpa [upd_same] using h2) h3
  simpa [upd_same, addr] using this

end
end
end Go.Am
