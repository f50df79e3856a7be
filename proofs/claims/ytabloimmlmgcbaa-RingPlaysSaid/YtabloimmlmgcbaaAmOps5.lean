/-
  The abstract machine: literals, new rows, append, copy, clear against the model's.
-/
import Derived.Test.YtabloimmlmgcbaaAmOps4
namespace Go.Am
section
variable {E : Env} {Pr : Prot} {ρ : Nat → Nm}

/-! ### literals -/

inductive PL (Pr : Prot) (A : Nat → Prop) (ρ : Nat → Nm) : List (Nat × Value) → List (Nat × Value) → Prop
  | nil : PL Pr A ρ [] []
  | cons (i : Nat) {v v' : Value} {l l' : List (Nat × Value)} (h : VR Pr A ρ v v') (t : PL Pr A ρ l l') : PL Pr A ρ ((i, v) :: l) ((i, v') :: l')

theorem fold_setN (o : Nat) : ∀ (l : List Value) (j : Nat) (c : Array Value), (l.zipIdx j).foldl (fun cs (p : Value × Nat) => cs.setIfInBounds (o + p.2) p.1) c = (setN c.toList (o + j) l).toArray
  | [], j, c => by simp [setN]
  | v :: l, j, c => by
    simp only [List.zipIdx_cons, List.foldl_cons]
    rw [fold_setN o l (j + 1)]
    simp [setN, Nat.add_assoc]

theorem fill_sound {A : Nat → Prop} {pa pc : Nat → Option (Nat × Nat)} (hp : ∀ i o n, pa i = some (o, n) → pc i = some (o, n)) : ∀ {l l' : List (Nat × Value)} (_ : PL Pr A ρ l l') {cs cs2 : List Value} {c : Array Value},
    fillL pa cs l = some cs2 → VL Pr A ρ cs c.toList → ∃ c2, Instr.fill pc c l' = some c2 ∧ VL Pr A ρ cs2 c2.toList := by
  intro l l' hl
  induction hl with
  | nil => intro cs cs2 c h hv; cases h; exact ⟨c, rfl, hv⟩
  | cons i h t ih =>
    rename_i v v' r r'
    intro cs cs2 c hf hv
    simp only [fillL] at hf
    split at hf
    · rename_i o n hi
      split at hf
      · rename_i hc
        obtain ⟨h1, h2⟩ := hc
        have hcl := h.cells
        have hlen := hcl.length
        have hs : v'.cells.size = n := by rw [← Array.length_toList]; omega
        have hcs := hv.length
        have hsz : ¬ (o + v'.cells.size > c.size) := by rw [← Array.length_toList (xs := c)]; omega
        have hset : VL Pr A ρ (setN cs o v.cells.toList) (setN c.toList o v'.cells.toList).toArray.toList := hcl.setN o hv
        obtain ⟨c2, g1, g2⟩ := ih hf hset
        refine ⟨c2, ?_, g2⟩
        have hpi := hp i o n hi
        simp only [Instr.fill, hpi, hs, ne_eq, not_true_eq_false, decide_false, Bool.false_or]
        have hsz' : ¬ (o + n > c.size) := by omega
        simp only [hsz', decide_false, Bool.false_eq_true, if_false]
        rw [← Array.foldl_toList, Array.toList_zipIdx, fold_setN o v'.cells.toList 0 c]
        exact g1
      · cases hf
    · cases hf

theorem build_sound {H H' : Heap} {w : World} {t : TypeId} {l l' : List (Nat × Value)} {v : Value} {ok : List Bool} (h : buildOp E H t l = some (.val v H', ok)) (hok : AllT ok) (hl : PL Pr (AN H) ρ l l') :
    ∃ v', (Instr.build t l'.toArray).run E.P w = .ok v' w ∧ VR Pr (AN H) ρ v v' ∧ H' = H := by
  unfold buildOp at h
  split at h
  · rename_i i hi
    obtain ⟨hu, inf, hinf, hsz, hby, hz⟩ := E.tyOk t i hi
    have hz0 : AllT ok → constOk i.zero = true → VL Pr (AN H) ρ i.zero.cells.toList i.zero.cells.toList := fun _ hc => (VR.const (Pr := Pr) (A := AN H) (ρ := ρ) hc).cells
    split at h
    · rename_i fs hfs
      split at h
      · rename_i hk
        split at h
        · rename_i cs hfill
          cases h
          have hc := (AllT.cons.1 hok).1
          let pl : List (Nat × Nat) := fs.toList.map fun f => (f.offset, match E.ty f.type with | some t => t.size | none => 0)
          have hpl : fs.toList.mapM (fun f => (E.P.info? f.type).map fun i => (f.offset, i.size)) = some pl := by
            simp only [allKnown, List.all_eq_true] at hk
            have : ∀ l : List Field, (∀ f ∈ l, (E.ty f.type).isSome = true) → l.mapM (fun f => (E.P.info? f.type).map fun i => (f.offset, i.size)) = some (l.map fun f => (f.offset, match E.ty f.type with | some t => t.size | none => 0)) := by
              intro l
              induction l with
              | nil => intro _; rfl
              | cons f l ih =>
                intro hl
                have hf := hl f (by simp)
                obtain ⟨tf, htf⟩ := Option.isSome_iff_exists.1 hf
                obtain ⟨_, inf2, h1, h2, _⟩ := E.tyOk _ _ htf
                rw [List.mapM_cons, ih (fun x hx => hl x (by simp [hx]))]
                simp [h1, h2, htf]
            exact this fs.toList hk
          have hplace : ∀ i o n, structPlace E fs i = some (o, n) → (pl.toArray[·]?) i = some (o, n) := by
            intro k o n hp
            unfold structPlace at hp
            split at hp
            · rename_i f hf
              split at hp
              · rename_i tf htf
                cases hp
                have : fs.toList[k]? = some f := by simpa using hf
                simp [pl, this, htf]
              · cases hp
            · cases hp
          obtain ⟨c2, g1, g2⟩ := fill_sound hplace hl hfill (hz0 hok hc)
          have hb : E.P.built t l'.toArray.toList = some c2 := by
            unfold Program.built
            rw [hinf, hu, hfs]
            simp only [hz, hpl]
            exact g1
          refine ⟨.agg c2, run_build w t _ c2 hb, ?_, rfl⟩
          simpa using VR.aggL g2
        · cases h
      · cases h
    · rename_i n e hfs
      split at h
      · rename_i j hj
        split at h
        · rename_i cs hfill
          cases h
          have hc := (AllT.cons.1 hok).1
          obtain ⟨_, inf2, h1, h2, _⟩ := E.tyOk _ _ hj
          obtain ⟨c2, g1, g2⟩ := fill_sound (pc := fun k => some (k * j.size, j.size)) (fun _ _ _ h => h) hl hfill (hz0 hok hc)
          have hb : E.P.built t l'.toArray.toList = some c2 := by
            unfold Program.built
            rw [hinf, hu, hfs]
            simp only [hz, h1, h2]
            exact g1
          refine ⟨.agg c2, run_build w t _ c2 hb, ?_, rfl⟩
          simpa using VR.aggL g2
        · cases h
      · cases h
    · cases h
  · cases h

/-! ### new rows -/

theorem rep_length (z : List Value) : ∀ n, (rep z n).length = n * z.length
  | 0 => by simp [rep]
  | n + 1 => by rw [rep, List.length_append, rep_length z n, Nat.add_mul]; omega

theorem rep_get (z : List Value) (hz : 0 < z.length) : ∀ n k, k < n * z.length → (rep z n)[k]? = z[k % z.length]?
  | 0, k, h => by simp at h
  | n + 1, k, h => by
    rw [rep]
    by_cases hk : k < z.length
    · rw [List.getElem?_append_left hk, Nat.mod_eq_of_lt hk]
    · rw [List.getElem?_append_right (by omega), rep_get z hz n (k - z.length) (by rw [Nat.add_mul] at h; omega)]
      have : k % z.length = (k - z.length) % z.length := Nat.mod_eq_sub_mod (by omega)
      rw [this]

theorem zeros_rep (z : Array Value) (n : Nat) : ((Array.range (n * z.size)).map (fun i => z[i % z.size]!)).toList = rep z.toList n := by
  by_cases hz : z.size = 0
  · have : z = #[] := Array.eq_empty_of_size_eq_zero hz
    subst this
    simp
    have := rep_length [] n
    simpa using this
  · apply List.ext_getElem?
    intro k
    by_cases hk : k < n * z.size
    · rw [rep_get z.toList (by simpa using Nat.pos_of_ne_zero hz) n k (by simpa using hk)]
      have hm : k % z.size < z.size := Nat.mod_lt _ (Nat.pos_of_ne_zero hz)
      simp [hk, hm, getElem!_pos]
    · rw [List.getElem?_eq_none (by simpa using hk), List.getElem?_eq_none (by rw [rep_length]; simpa using hk)]

theorem rep_VL {A : Nat → Prop} {z z' : List Value} (h : VL Pr A ρ z z') : ∀ n, VL Pr A ρ (rep z n) (rep z' n)
  | 0 => .nil
  | n + 1 => h.append (rep_VL h n)

theorem newVar_sound {H : Heap} {w : World} (hH : HR Pr (AN H) ρ H w.heap) {cs : List Value} {c : Array Value} (e : TypeId) (hv : VL Pr (AN H) ρ cs c.toList) :
    Did E Pr ρ H w (do pure (.pointer (some (← newRow e c)))) (newPtr H) (slot H (.cells cs e none)) := by
  have hn := hH.newCells hv [] e none (0, 0) (by intro k _; simp) (fun _ => rfl)
  simp only [List.append_nil, Array.toArray_toList] at hn
  exact ⟨_, { w with heap := w.heap.push (.cells c e) }, _, by simp [newRow, newObj, Sem.run], hn, VR.newPtr, fun i hi => upd_old ρ _ _ hi, (by rw [slot_length]; omega), ⟨rfl, rfl⟩⟩

theorem buildS_sound {H H' : Heap} {w : World} (hH : HR Pr (AN H) ρ H w.heap) {t : TypeId} {n : Nat} {l l' : List (Nat × Value)} {v : Value} {ok : List Bool} (h : buildSOp E H t n l = some (.val v H', ok)) (hok : AllT ok) (hl : PL Pr (AN H) ρ l l') :
    Did E Pr ρ H w (Instr.buildSlice t n l'.toArray) v H' := by
  unfold buildSOp at h
  split at h
  · rename_i e j hj
    obtain ⟨hu, he⟩ := elemT_spec hj
    split at h
    · rename_i hc
      obtain ⟨hc1, hc2, hc3⟩ := hc
      split at h
      · rename_i cs hfill
        cases h
        have hz := (AllT.cons.1 hok).1
        have hzv : VL Pr (AN H) ρ j.zero.cells.toList j.zero.cells.toList := (VR.const (Pr := Pr) (A := AN H) (ρ := ρ) hz).cells
        have hzs : j.zero.cells.size = j.size := by rw [← Array.length_toList]; exact hc2
        have hrep := rep_VL hzv n
        have hbase : VL Pr (AN H) ρ (rep j.zero.cells.toList n) ((Array.range (n * j.size)).map (fun i => j.zero.cells[i % j.zero.cells.size]!)).toList := by
          rw [← hzs, zeros_rep]; exact hrep
        obtain ⟨c2, g1, g2⟩ := fill_sound (pc := fun k => some (k * j.size, j.size)) (fun _ _ _ h => h) hl hfill hbase
        have hn := hH.newCells g2 [] e none (0, 0) (by intro k _; simp) (fun _ => rfl)
        simp only [List.append_nil, Array.toArray_toList] at hn
        refine ⟨_, { w with heap := w.heap.push (.cells c2 e) }, _, ?_, hn, VR.newSlx (Nat.le_refl _), fun i hi => upd_old ρ _ _ hi, (by rw [slot_length]; omega), ⟨rfl, rfl⟩⟩
        have hlim : ¬ (n * j.size > 2 ^ 24) := by omega
        have hfl : Instr.fill (fun i => some (i * j.size, j.size)) ((Array.range (n * j.size)).map (fun i => j.zero.cells[i % j.zero.cells.size]!)) l' = some c2 := g1
        by_cases h0 : n * j.size = 0
        · have hr0 : Array.range 0 = #[] := rfl
          have hfl0 : Instr.fill (fun i => some (i * j.size, j.size)) #[] l' = some c2 := by
            rw [h0, hr0] at hfl; simpa using hfl
          simp [Instr.buildSlice, undT_run hu w, ty_run_size he w, h0, newRow, newObj, Sem.run, hr0, hfl0]
        · simp [Instr.buildSlice, undT_run hu w, ty_run_size he w, hlim, h0, ty_run_zero he w, newRow, newObj, Sem.run, hfl]
      · cases h
    · cases h
  · cases h


theorem make_sound {H H' : Heap} {w : World} (hH : HR Pr (AN H) ρ H w.heap) {t : TypeId} {l c l' c' v : Value} {ok : List Bool} (h : makeOp E H t l c = some (.val v H', ok)) (hok : AllT ok) (hl : VR Pr (AN H) ρ l l') (hc : VR Pr (AN H) ρ c c') :
    Did E Pr ρ H w (Instr.makeSlice t l' c') v H' := by
  unfold makeOp at h
  split at h
  · rename_i e i a b hj
    obtain ⟨hu, he⟩ := elemT_spec hj
    cases h; cases hl; cases hc
    obtain ⟨hab, hok⟩ := AllT.cons.1 hok
    obtain ⟨h0, hok⟩ := AllT.cons.1 hok
    obtain ⟨hby, hok⟩ := AllT.cons.1 hok
    obtain ⟨hmax, hok⟩ := AllT.cons.1 hok
    obtain ⟨hsz, hok⟩ := AllT.cons.1 hok
    obtain ⟨hzl, hok⟩ := AllT.cons.1 hok
    have hzc := (AllT.cons.1 hok).1
    obtain rfl : a = b := by simpa using hab
    have h0 : 0 ≤ a := by simpa using h0
    have hby : a * i.bytes ≤ 140737488355328 := by simpa using hby
    have hmax : a ≤ 9223372036854775807 := by simpa using hmax
    have hsz : 0 < i.size := by simpa using hsz
    have hzl : i.zero.cells.size = i.size := by rw [← Array.length_toList]; simpa using hzl
    have hz : VL Pr (AN H) ρ i.zero.cells.toList i.zero.cells.toList := (VR.const (Pr := Pr) (A := AN H) (ρ := ρ) hzc).cells
    obtain ⟨_, inf, hinf, q1, q2, q3⟩ := E.tyOk e i he
    have hrun := run_make (P := E.P) w t e inf i.zero (undT_P hu) hinf q3 .i64 .i64 a a h0 (Int.le_refl _) (by rw [q2, Int.mul_comm]; omega) (by omega)
    have hrow : (madeCells i.zero.cells (a.toNat * inf.size)).toList = rep i.zero.cells.toList a.toNat := by
      rw [q1, ← hzl]
      exact zeros_rep i.zero.cells a.toNat
    have hn := hH.newCells (rep_VL hz a.toNat) [] e none (0, 0) (by intro k _; simp) (fun _ => rfl)
    simp only [List.append_nil] at hn
    have hm : madeCells i.zero.cells (a.toNat * inf.size) = (rep i.zero.cells.toList a.toNat).toArray := by
      rw [← hrow]
    rw [hm] at hrun
    exact ⟨_, _, _, hrun, hn, VR.newSlx (Nat.le_refl _), fun i hi => upd_old ρ _ _ hi, (by rw [slot_length]; omega), ⟨rfl, rfl⟩⟩
  · cases h

end
end Go.Am
