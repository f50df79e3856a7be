/-
  The abstract machine: conversions, literals, new rows against the model's.
-/
import Derived.Test.YtabloimmlmgcbaaAmOps3
namespace Go.Am
section
variable {E : Env} {Pr : Prot} {ρ : Nat → Nm}

/-- What an operation that hands back a value has done. -/
def Did (E : Env) (Pr : Prot) (ρ : Nat → Nm) (H : Heap) (w : World) (s : Sem Value) (v : Value) (H' : Heap) : Prop :=
  ∃ v' w' ρ', s.run E.P w = .ok v' w' ∧ HR Pr (AN H') ρ' H' w'.heap ∧ VR Pr (AN H') ρ' v v' ∧ (∀ i, AN H i → ρ' i = ρ i) ∧ H.length ≤ H'.length ∧ Kp w w'

theorem Did.same {H : Heap} {w : World} (hH : HR Pr (AN H) ρ H w.heap) {s : Sem Value} {v v' : Value} (h : s.run E.P w = .ok v' w) (hv : VR Pr (AN H) ρ v v') : Did E Pr ρ H w s v H :=
  ⟨v', w, ρ, h, hH, hv, fun _ _ => rfl, Nat.le_refl _, Kp.refl _⟩

theorem ofBytes_VL {A : Nat → Prop} (s : ByteArray) : VL Pr A ρ (ofBytes s) (ofBytes s) := by
  refine VL.flat ?_
  simp [ofBytes, Am.flat]

theorem ofBytes_length (s : ByteArray) : (ofBytes s).length = s.size := by
  have := slen_eq s
  simpa [ofBytes, slen] using this

theorem ofBytes_toArray (s : ByteArray) : (ofBytes s).toArray = s.data.map fun b => Value.int .u8 b.toNat := by
  apply Array.ext'
  simp [ofBytes, toL]

theorem bytes_VL {A : Nat → Prop} {cs cs' : List Value} (h : VL Pr A ρ cs cs') (hb : cs.all (isInt .u8) = true) : cs' = cs ∧ cs = (cs.map toInt).map (Value.int .u8) := by
  induction h with
  | nil => exact ⟨rfl, rfl⟩
  | cons h _ ih =>
    simp only [List.all_cons, Bool.and_eq_true] at hb
    obtain ⟨h1, h2⟩ := ih hb.2
    cases h <;> simp [isInt] at hb
    obtain ⟨rfl, _⟩ := hb
    refine ⟨by rw [h1], ?_⟩
    simp only [List.map_cons, toInt]
    rw [← h2]

theorem foldl_bytes (l : List Int) : ∀ (s : ByteArray), l.foldl (fun r n => r.push (UInt8.ofNat n.toNat)) s = ⟨s.data ++ (l.map fun n => UInt8.ofNat n.toNat).toArray⟩ := by
  induction l with
  | nil => intro s; simp
  | cons n l ih =>
    intro s
    rw [List.foldl_cons, ih]
    congr 1
    apply Array.ext'
    simp [ByteArray.push]

/-- The cells that a slice or a string holds, read: 'firstCells'. -/
theorem cellsIn_sound {A : Nat → Prop} {H : Heap} {w : World} (hH : HR Pr A ρ H w.heap) {size n : Nat} {x x' : Value} {cs : List Value} {ok : List Bool} (h : cellsIn H size n x = some (cs, ok)) (hok : AllT ok) (hx : VR Pr A ρ x x') (hn : lenOf x = some n ∨ (∃ m, lenOf x = some m ∧ n ≤ m)) :
    ∃ cs' : List Value, (∀ w1 : World, w1.heap = w.heap → (Builtin.firstCells size n x').run E.P w1 = .ok cs'.toArray w1) ∧ VL Pr A ρ cs cs' ∧ (lenOf x = some n → (Builtin.lenOf x').run E.P w = .ok n w) ∧ cs.length = n * size := by
  have hlenof : lenOf x = some n → (Builtin.lenOf x').run E.P w = .ok n w := by
    intro hl
    unfold lenOf at hl
    split at hl <;> cases hl <;> cases hx <;> simp [Builtin.lenOf, slen_eq]
  have hrd : ∀ (a : Addr) (f : Nat → Value) (m : Nat), (∀ k, k < m → w.cell? (a.add k) = some (f k)) → ∀ w1 : World, w1.heap = w.heap → (loadCells a m).run E.P w1 = .ok ((List.range m).map f).toArray w1 := by
    intro a f m h w1 hw
    exact run_loadCells (P := E.P) w1 a m f fun k hk => by rw [← h k hk]; simp [World.cell?, hw]
  unfold cellsIn at h
  split at h
  · cases h
    have h0 := (AllT.cons.1 hok).1
    have h0 : n = 0 := by simpa using h0
    subst h0
    cases hx with
    | snil => exact ⟨[], fun w1 _ => by simp [Builtin.firstCells], .nil, hlenof, by simp⟩
  · rename_i i o m c
    have key : ∀ ds : List Value, (∃ f : Nat → Value, ∀ k, k < ds.length → w.cell? (addr (ρ i) k) = some (f k) ∧ VR Pr A ρ (ds.getD k undef) (f k)) → AllT [decide (o + n * size ≤ ds.length)] →
        ∃ cs' : List Value, (∀ w1 : World, w1.heap = w.heap → (Builtin.firstCells size n x').run E.P w1 = .ok cs'.toArray w1) ∧ VL Pr A ρ ((ds.drop o).take (n * size)) cs' ∧ (lenOf (.slice (some ⟨i, o, none⟩) m c) = some n → (Builtin.lenOf x').run E.P w = .ok n w) ∧ ((ds.drop o).take (n * size)).length = n * size := by
      intro ds ⟨f, hf⟩ hok
      have h0 := (AllT.cons.1 hok).1
      have h0 : o + n * size ≤ ds.length := by simpa using h0
      have hgen : ∀ a : Addr, a = addr (ρ i) o → ∀ w1 : World, w1.heap = w.heap → (loadCells a (n * size)).run E.P w1 = .ok ((List.range (n * size)).map fun k => f (o + k)).toArray w1 := by
        intro a ha
        subst ha
        refine hrd _ (fun k => f (o + k)) _ fun k hk => ?_
        have := (hf (o + k) (by omega)).1
        rw [addr, addr_add]
        rw [addr, ← Nat.add_assoc] at this
        exact this
      have hVL : VL Pr A ρ ((ds.drop o).take (n * size)) ((List.range (n * size)).map fun k => f (o + k)) := by
        refine VL.of_get (by simp; omega) fun k hk => ?_
        simp only [List.length_take, List.length_drop] at hk
        have hk2 : k < n * size := by omega
        have := (hf (o + k) (by omega)).2
        simpa [List.getD_eq_getElem?_getD, hk2] using this
      have hl : ((ds.drop o).take (n * size)).length = n * size := by simp; omega
      cases hx with
      | slx _ _ _ _ hb hfx hnc => exact ⟨_, fun w1 hw => by simpa [Builtin.firstCells] using hgen _ rfl w1 hw, hVL, hlenof, hl⟩
      | slf _ _ _ _ c' z hb hp hfx g1 g2 g3 => exact ⟨_, fun w1 hw => by simpa [Builtin.firstCells] using hgen _ rfl w1 hw, hVL, hlenof, hl⟩
      | sl0 _ _ _ a hb =>
        have hn0 : n = 0 := by
          rcases hn with hn | ⟨m, hn, hle⟩
          · simpa [lenOf] using hn.symm
          · simp [lenOf] at hn; omega
        subst hn0
        refine ⟨[], fun w1 _ => by simp [Builtin.firstCells, loadCells, loadCellsFrom], by simp; exact .nil, hlenof, by simp⟩
      | nl0 _ _ _ hb =>
        have hn0 : n = 0 := by
          rcases hn with hn | ⟨m, hn, hle⟩
          · simpa [lenOf] using hn.symm
          · simp [lenOf] at hn; omega
        subst hn0
        refine ⟨[], fun w1 _ => by simp [Builtin.firstCells], by simp; exact .nil, hlenof, by simp⟩
    split at h
    · rename_i ds e g hg
      cases h
      refine key ds ?_ hok
      rcases hH.cellsOr hg with ⟨_, ho, _⟩ | ⟨_, h2, _⟩
      · exact CellsR.cell (w := w) ho
      · exact ⟨fun _ => undef, fun k hk => by rw [h2] at hk; simp at hk⟩
    · rename_i ds e z hg
      cases h
      exact key ds (CellsR.cell (w := w) (hH.logR (.inl hg)).2.1) hok
    · rename_i ds e z hg
      cases h
      exact key ds (CellsR.cell (w := w) (hH.logR (.inr hg)).2.1) hok
    · cases h
  · rename_i m cs0
    cases h
    have h0 := (AllT.cons.1 hok).1
    have h0 : n * size ≤ cs0.toList.length := by simpa using h0
    have hl : (cs0.toList.take (n * size)).length = n * size := by simp at h0 ⊢; omega
    cases hx with
    | rov _ _ b o c' f hnc hf hv =>
      refine ⟨(List.range (n * size)).map f, ?_, ?_, hlenof, hl⟩
      · intro w1 hw
        simp only [Builtin.firstCells]
        refine hrd _ f _ (fun k hk => ?_) w1 hw
        have hk' : k < cs0.size := by simp at h0; omega
        have := hf k hk'
        rw [addr_add]
        unfold rd at this
        cases hp : Pr.rd b with
        | none => simp [hp] at this
        | some ob =>
          simp only [hp] at this
          have h2 := hH.pr b ob (Pr.sub b ob hp)
          cases ob <;> simp at this
          simp [World.cell?, h2, this]
      · refine VL.of_get (by simp at hl ⊢; omega) fun k hk => ?_
        simp only [List.length_take] at hk
        have hk2 : k < n * size := by omega
        have hk3 : k < cs0.size := by simp at h0; omega
        have := (hv k hk3).vr (A := A) (ρ := ρ)
        simpa [List.getD_eq_getElem?_getD, Array.getD_eq_getD_getElem?, hk2] using this
    | rov0 _ a c' h1 =>
      have hz : n * size = 0 := by simp [h1] at h0; simpa using h0
      refine ⟨[], ?_, ?_, hlenof, hl⟩
      · intro w1 _
        rw [show cs0.toList.take (n * size) = [] from by simp [hz]] at hl
        cases a with
        | none => simp [Builtin.firstCells]
        | some a => simp [Builtin.firstCells, hz, loadCells, loadCellsFrom]
      · rw [hz]; exact .nil
  · rename_i s
    split at h
    · rename_i hs
      cases h
      subst hs
      have h0 := (AllT.cons.1 hok).1
      have h0 : n ≤ slen s := by simpa using h0
      cases hx
      refine ⟨(ofBytes s).take n, ?_, (ofBytes_VL s).take n, hlenof, ?_⟩
      · intro w1 _
        simp only [Builtin.firstCells, Sem.run_pure]
        congr 1
        apply Array.ext'
        simp [ofBytes, toL, List.extract_eq_take_drop]
      · have := ofBytes_length s
        rw [slen_eq] at h0
        simp; omega
    · cases h
  · cases h

theorem conv_sound {H H' : Heap} {w : World} (hH : HR Pr (AN H) ρ H w.heap) {src dst : TypeId} {x x' v : Value} {ok : List Bool} (h : convOp E H src dst x = some (.val v H', ok)) (hok : AllT ok) (hx : VR Pr (AN H) ρ x x') :
    Did E Pr ρ H w (Go.convert src dst x') v H' := by
  unfold convOp at h
  split at h
  · rename_i d k q n h1 h2
    cases h; cases hx
    exact Did.same hH (by simp [Go.convert, undT_run h1 w, undT_run h2 w, Conv.intToInt]) (.int _ _)
  · rename_i d q n h1 h2
    cases h; cases hx
    exact Did.same hH (by simp [Go.convert, undT_run h1 w, undT_run h2 w, Conv.intToString]) (.str _)
  · rename_i d s h1 h2
    cases h; cases hx
    exact Did.same hH (by simp [Go.convert, undT_run h1 w, undT_run h2 w]) (.str _)
  · rename_i e s h1 h2
    split at h
    · rename_i h3
      cases h; cases hx
      have h0 := (AllT.cons.1 hok).1
      rw [slen_eq] at h0
      have h0 : s.size ≤ maxLen := by simpa [maxLen] using h0
      have c1 := grownCap_ge w s.size 0 e
      have c2 := grownCap_le_maxLen w s.size 0 e h0
      have hsz : (ofBytes s ++ List.replicate (grownCap w s.size 0 e - s.size) (Value.int .u8 0)).length = grownCap w s.size 0 e := by
        simp [ofBytes_length]; omega
      have hrow : (bytesRow s (grownCap w s.size 0 e)) = (ofBytes s ++ List.replicate (grownCap w s.size 0 e - s.size) (Value.int .u8 0)).toArray := by
        apply Array.ext'
        simp [bytesRow, ofBytes, toL]
      have hrun := run_bytes_of_string (P := E.P) w src dst e s (undT_P h1) (undT_P h2) (undT_P h3)
      rw [hrow] at hrun
      have hz : (ofBytes s ++ List.replicate (grownCap w s.size 0 e - s.size) (Value.int .u8 0)).toArray.size = grownCap w s.size 0 e := by simpa using hsz
      have hn := hH.newCells (ofBytes_VL (A := AN H) s) (List.replicate (grownCap w s.size 0 e - s.size) (Value.int .u8 0)) e (some 1) (grownCap w s.size 0 e, grownCap w s.size 0 e + 1)
        (by intro k hk; rw [hsz] at hk; simp; omega) (by intro h; cases h)
      rw [hz] at hrun
      refine ⟨_, _, _, hrun, hn, ?_, fun i hi => upd_old ρ _ _ hi, (by rw [slot_length]; omega), ⟨rfl, rfl⟩⟩
      rw [slen_eq]
      exact VR.newSlf c1 (by rw [hsz]; omega) c2
    · cases h
  · rename_i e h1 h2 _ _
    split at h
    · rename_i n h3 hl
      split at h
      · rename_i a m c _ _
        split at h
        · rename_i cs ok1 hc
          cases h
          obtain ⟨hb, hok⟩ := AllT.cons.1 hok
          obtain ⟨cs', g0, g2, _⟩ := cellsIn_sound (E := E) hH hc hok hx (.inl hl)
          have g1 := g0 w rfl
          obtain ⟨b1, b2⟩ := bytes_VL g2 hb
          subst b1
          simp only [lenOf, Option.some.injEq] at hl
          subst hl
          refine Did.same hH (v' := .string (bytesOf cs')) ?_ (.str _)
          have hbytes : bytesOf cs' = (cs'.map toInt).foldl (fun r n => r.push (UInt8.ofNat n.toNat)) ByteArray.empty := by
            rw [foldl_bytes]
            simp [bytesOf, ofL, ByteArray.empty, ByteArray.emptyWithCapacity]
            rfl
          have hx' : ∃ a' c', x' = .slice a' m c' := by cases hx <;> exact ⟨_, _, rfl⟩
          obtain ⟨a', c', rfl⟩ := hx'
          rw [run_convert_bytes_string w src dst e a' m c' (undT_P h1) (undT_P h3) (undT_P h2), hbytes]
          cases a' with
          | none =>
            have : cs' = [] := by
              have := g1
              simp [Builtin.firstCells] at this
              exact this
            subst this
            simp [Conv.bytesToString]
          | some a' =>
            refine run_bytesToString w a' m c' _ ?_
            rw [← b2]
            simpa [Builtin.firstCells] using g1
        · cases h
      · cases h
    · cases h
  · rename_i u h1 h2
    cases h; cases hx
    exact Did.same hH (by simp [Go.convert, undT_run h1 w, undT_run h2 w, Conv.unsafePointer]) .pnil
  · rename_i u b o h1 h2
    split at h
    · rename_i i cs e hi hb
      cases h
      obtain ⟨k1, k2⟩ := AllT.cons.1 hok
      have k1 : 0 < i.size := by simpa using k1
      have k2 : o < cs.length := by simpa using (AllT.cons.1 k2).1
      cases hx with
      | ptr _ _ hA =>
        obtain ⟨_, ho, _⟩ := hH.realC hb (.inl rfl)
        obtain ⟨c, fz, g1, g2, g3, g4, g5, g6, g7⟩ := id ho
        obtain ⟨z1, z2⟩ := g6 rfl
        refine Did.same hH (v' := .pointer (some (addr (ρ b) o))) ?_ (.ptr b o hA)
        have hs : w.shape? (ρ b).blk = some (e, c.size) := by simp [World.shape?, g1]
        have hv : (viewAt (ρ b).blk).run E.P w = .ok none w := by simp [viewAt, shape, Sem.run, hs]
        have hn : ¬ (c.size ≤ (ρ b).base + o) := by omega
        simp [Go.convert, undT_run h1 w, undT_run h2 w, Conv.unsafePointer, Conv.seenAt, addr, hv, Go.cellsIn, shape, Sem.run, hs, ty_run_size hi w, show i.size ≠ 0 by omega, hn]
    · cases h
  · rename_i u h1 h2
    cases h; cases hx
    exact Did.same hH (by simp [Go.convert, undT_run h1 w, undT_run h2 w, Conv.unsafePointer]) .pnil
  · rename_i u b o h1 h2
    split at h
    · rename_i i cs e hi hb
      cases h
      obtain ⟨k1, k2⟩ := AllT.cons.1 hok
      have k1 : 0 < i.size := by simpa using k1
      have k2 := (AllT.cons.1 k2).1
      cases hx with
      | ptr _ _ hA =>
        obtain ⟨_, ho, _⟩ := hH.realC hb (.inl rfl)
        obtain ⟨c, fz, g1, g2, g3, g4, g5, g6, g7⟩ := id ho
        obtain ⟨z1, z2⟩ := g6 rfl
        refine Did.same hH (v' := .pointer (some (addr (ρ b) o))) ?_ (.ptr b o hA)
        have hs : w.shape? (ρ b).blk = some (e, c.size) := by simp [World.shape?, g1]
        have hv : (viewAt (ρ b).blk).run E.P w = .ok none w := by simp [viewAt, shape, Sem.run, hs]
        rw [z2] at k2
        simp [Go.convert, undT_run h1 w, undT_run h2 w, Conv.unsafePointer, Conv.seenAt, addr, hv, variablesAt, shape, Sem.run, hs, ty_run_size hi w, show i.size ≠ 0 by omega, z1, k2, run_program]
    · cases h
  · cases h

end
end Go.Am
