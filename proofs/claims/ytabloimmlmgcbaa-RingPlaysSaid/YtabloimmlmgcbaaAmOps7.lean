/-
  The abstract machine: copy, clear, and every operation against the model's.
-/
import Derived.Test.YtabloimmlmgcbaaAmOps6
namespace Go.Am
section
variable {E : Env} {Pr : Prot} {ρ : Nat → Nm}

theorem overlayOk_set (o : Nat) (news : List Value) (n : Nat) (v : Value) : ∀ (L k j : Nat) (cs : List Value), j < o + k → overlayOk (cs.set j v) o news n L k = overlayOk cs o news n L k
  | 0, _, _, _, _ => rfl
  | L + 1, k, j, cs, h => by
    simp only [overlayOk]
    rw [overlayOk_set o news n v L (k + 1) j cs (by omega)]
    have : (cs.set j v).getD (o + k) undef = cs.getD (o + k) undef := by
      simp [List.getD_eq_getElem?_getD, List.getElem?_set_ne (show j ≠ o + k by omega)]
    rw [this]

theorem overlay_eq (o : Nat) (news : List Value) : ∀ (L k : Nat) (cs : List Value), news.length ≤ k + L → o + k + L ≤ cs.length → AllT (overlayOk cs o news news.length L k) → overlay cs o news news.length L k = setN cs (o + k) (news.drop k)
  | 0, k, cs, h, _, _ => by
    rw [List.drop_eq_nil_of_le (by omega)]; rfl
  | L + 1, k, cs, h, hlen, hok => by
    simp only [overlayOk] at hok
    obtain ⟨h1, h2⟩ := AllT.cons.1 hok
    by_cases hk : k < news.length
    · have hc : copyCell k news.length (news.getD k undef) (cs.getD (o + k) undef) = news[k] := by
        have hg : news.getD k undef = news[k] := by simp [List.getD_eq_getElem?_getD, hk]
        rw [hg] at h1 ⊢
        cases hv : cs.getD (o + k) undef with
        | int q a =>
          rw [hv] at h1
          simp only [copyCellOk, hk, decide_true, cond_true] at h1
          simp only [copyCell, hk, decide_true, cond_true]
          cases hn : news[k] <;> rw [hn] at h1 <;> simp [isInt] at h1
          subst h1; rfl
        | _ => rfl
      have hd : news.drop k = news[k] :: news.drop (k + 1) := List.drop_eq_getElem_cons hk
      rw [hd, setN, overlay, hc, overlay_eq o news L (k + 1) _ (by omega) (by rw [List.length_set]; omega) (by rw [overlayOk_set o news _ _ L (k + 1) (o + k) cs (by omega)]; exact h2)]
      rfl
    · have hnil : news.drop k = [] := List.drop_eq_nil_of_le (by omega)
      have hc : cs.set (o + k) (copyCell k news.length (news.getD k undef) (cs.getD (o + k) undef)) = cs := by
        have hlt : o + k < cs.length := by omega
        cases hv : cs.getD (o + k) undef with
        | int q a =>
          have hv2 : cs[o + k] = .int q a := by
            rw [← hv]; simp [List.getD_eq_getElem?_getD, hlt]
          simp only [copyCell, hk, decide_false, cond_false]
          rw [← hv2]
          exact List.set_getElem_self hlt
        | _ => rw [hv] at h1; simp [copyCellOk, hk] at h1
      rw [overlay, hc, overlay_eq o news L (k + 1) cs (by omega) (by omega) h2]
      rw [hnil, List.drop_eq_nil_of_le (by omega)]
      rfl

theorem set_self {H : Heap} {b : Nat} {ob : Ob} (hg : getO H b = some ob) : H.set b (some ob) = H := by
  apply List.ext_getElem?
  intro k
  by_cases hk : b = k
  · subst hk
    have hb := getO_lt hg
    rw [List.getElem?_set_self hb]
    unfold getO at hg
    rw [List.getElem?_eq_getElem hb] at hg ⊢
    cases hx : H[b] with
    | none => rw [hx] at hg; cases hg
    | some y => rw [hx] at hg; simp only [Option.some.injEq] at hg; rw [hg]
  · rw [List.getElem?_set_ne hk]

/-- A row's cells overwritten. -/
theorem over_sound {A : Nat → Prop} {H : Heap} {w : World} (hH : HR Pr A ρ H w.heap) {b o : Nat} {cs news news' : List Value} {e : TypeId} {g : Option Nat} (hg : getO H b = some (.cells cs e g)) (hn : VL Pr A ρ news news') (h1 : news'.all Am.one = true)
    (hle : o + news.length ≤ cs.length) : ∃ w', (storeCells (addr (ρ b) o) news').run E.P w = .ok () w' ∧ HR Pr A ρ (H.set b (some (.cells (setN cs o news) e g))) w'.heap ∧ Kp w w' := by
  have hlen := hn.length
  rcases hH.cellsOr hg with ⟨_, ho, hpr, hph⟩ | ⟨_, h2, _⟩
  case inr =>
    subst h2
    have h0 : news.length = 0 := by simp only [List.length_nil] at hle; omega
    have h1 : news' = [] := List.eq_nil_of_length_eq_zero (by omega)
    have h0 : news = [] := List.eq_nil_of_length_eq_zero h0
    subst h0
    subst h1
    refine ⟨w, by simp [storeCells], ?_, Kp.refl _⟩
    rw [show setN [] o [] = [] from rfl, set_self hg]
    exact hH
  obtain ⟨c, fz, g1, g2, g3, g4, g5, g6, g7⟩ := id ho
  obtain ⟨w', e1, e2, e3⟩ := run_storeL E.P (ρ b).blk ((ρ b).base + o) e fz news' 0 c w g1 (by omega) g4 h1
  refine ⟨w', by simpa [addr] using e1, ?_, e3⟩
  rw [e2]
  refine hH.turn hg hph hpr _ ⟨_, fz, Array.getElem?_setIfInBounds_self_of_lt (Array.getElem?_eq_some_iff.1 g1).1, ?_, ?_, ?_, g5, ?_, ?_⟩
  · simpa [setN_length] using g2
  · simpa [setN_length] using g3
  · simpa [setN_length] using g4
  · intro hn
    obtain ⟨q1, q2⟩ := g6 hn
    simpa [setN_length] using ⟨q1, q2⟩
  · rw [setN_length]
    simp only [Nat.add_zero]
    rw [setN_drop, setN_take]
    exact hn.setN o g7

theorem copy_sound {H : Heap} {w : World} (hH : HR Pr (AN H) ρ H w.heap) {t u ty : TypeId} {d d' x x' v : Value} {H' : Heap} {ok : List Bool} (h : copyOp E H t d x = some (.val v H', ok)) (hok : AllT ok) (hd : VR Pr (AN H) ρ d d') (hx : VR Pr (AN H) ρ x x') :
    Did E Pr ρ H w (Builtin.copy_ #[t, u] ty #[d', x']) v H' := by
  unfold copyOp at h
  split at h
  · rename_i e0 i b o L c m he hl
    obtain ⟨ht, hei⟩ := elemT_spec he
    split at h
    · rename_i cs e g news ok1 hg hc
      split at h
      · rename_i hsz
        cases h
        obtain ⟨hle, hok⟩ := AllT.cons.1 hok
        obtain ⟨hone, hok⟩ := AllT.cons.1 hok
        obtain ⟨k1, k2⟩ := AllT.app.1 hok
        have hle : o + L ≤ cs.length := by simpa using hle
        obtain ⟨news', f1, f2, f3, f4⟩ := cellsIn_sound (E := E) hH hc k2 hx (.inr ⟨m, hl, Nat.min_le_left _ _⟩)
        have f1 := f1 w rfl
        have hnl : news.length = min m L := by simpa using f4
        have hlen : (Builtin.lenOf x').run E.P w = .ok m w := by
          unfold lenOf at hl
          split at hl <;> cases hl <;> cases hx <;> simp [Builtin.lenOf, slen_eq]
        rw [← hnl] at k1 ⊢
        have hov := overlay_eq o news L 0 cs (by omega) (by omega) k1
        simp only [Nat.add_zero, List.drop_zero] at hov
        rw [hov]
        have hone' := f2.one hone
        have hmn : news'.length = min m L := by rw [← f2.length]; exact hnl
        have hgo : ∀ (a : Addr) (c' : Nat) (w' : World), (storeCells a news').run E.P w = .ok () w' → HR Pr (AN H) ρ (H.set b (some (.cells (setN cs o news) e g))) w'.heap ∧ Kp w w' →
            Did E Pr ρ H w (Builtin.copy_ #[t, u] ty #[.slice (some a) L c', x']) (.int .i64 (news.length : Nat)) (H.set b (some (.cells (setN cs o news) e g))) := by
          intro a c' w' e1 ⟨e2, e3⟩
          refine ⟨.int .i64 (news.length : Nat), w', ρ, ?_, by rw [AN_set]; exact e2, .int _ _, fun _ _ => rfl, (by simp), e3⟩
          rw [hnl]
          simp [Builtin.copy_, undT_run ht w, hlen, ty_run_size hei w, hsz, show m.min L = min m L from rfl, f1, e1, goInt]
        cases hd with
        | slx _ _ _ _ hbb hfx hnc =>
          obtain ⟨w', e1, e2⟩ := over_sound (E := E) (o := o) hH hg f2 hone' (by omega)
          exact hgo _ _ w' e1 e2
        | slf _ _ _ _ c' z hbb hp hfx q1 q2 q3 =>
          obtain ⟨w', e1, e2⟩ := over_sound (E := E) (o := o) hH hg f2 hone' (by omega)
          exact hgo _ _ w' e1 e2
        | sl0 _ _ _ a hbb =>
          have h0 : news' = [] := List.eq_nil_of_length_eq_zero (by rw [hmn]; simp)
          have h0' : news = [] := List.eq_nil_of_length_eq_zero (by rw [hnl]; simp)
          refine hgo a _ w (by rw [h0]; simp [storeCells]) ?_
          rw [h0', show setN cs o [] = cs from rfl, set_self hg]
          exact ⟨hH, Kp.refl _⟩
        | nl0 _ _ _ hbb =>
          have h0' : news = [] := List.eq_nil_of_length_eq_zero (by rw [hnl]; simp)
          rw [h0', show setN cs o [] = cs from rfl, set_self hg]
          refine ⟨.int .i64 (0 : Nat), w, ρ, ?_, hH, .int _ _, fun _ _ => rfl, Nat.le_refl _, Kp.refl _⟩
          have f1' : (Builtin.firstCells 1 0 x').run E.P w = .ok news'.toArray w := by simpa using f1
          simp [Builtin.copy_, undT_run ht w, hlen, ty_run_size hei w, hsz, f1', goInt]
      · cases h
    · cases h
  · cases h

theorem clear_sound {H : Heap} {w : World} (hH : HR Pr (AN H) ρ H w.heap) {t ty : TypeId} {x x' v : Value} {H' : Heap} {ok : List Bool} (h : clearOp E H t x = some (.val v H', ok)) (hok : AllT ok) (hx : VR Pr (AN H) ρ x x') :
    Did E Pr ρ H w (Builtin.clear_ #[t] ty #[x']) v H' := by
  unfold clearOp at h
  split at h
  · rename_i e0 i b o n c he
    obtain ⟨ht, hei⟩ := elemT_spec he
    split at h
    · rename_i cs e g hg
      cases h
      obtain ⟨hle, hok⟩ := AllT.cons.1 hok
      obtain ⟨hzl, hok⟩ := AllT.cons.1 hok
      obtain ⟨hz1, hok⟩ := AllT.cons.1 hok
      have hzc := (AllT.cons.1 hok).1
      have hle : o + n * i.size ≤ cs.length := by simpa using hle
      have hzl : i.zero.cells.toList.length = i.size := by simpa using hzl
      have hz : VL Pr (AN H) ρ i.zero.cells.toList i.zero.cells.toList := (VR.const (Pr := Pr) (A := AN H) (ρ := ρ) hzc).cells
      have hrl : (rep i.zero.cells.toList n).length = n * i.size := by rw [rep_length, hzl]
      have hset : cs.take o ++ rep i.zero.cells.toList n ++ cs.drop (o + n * i.size) = setN cs o (rep i.zero.cells.toList n) := by
        rw [setN_eq _ _ _ (by rw [hrl]; exact hle), hrl, List.append_assoc]
      rw [hset]
      have hr1 : ∀ k, (rep i.zero.cells.toList k).all Am.one = true := by
        intro k
        induction k with
        | zero => rfl
        | succ k ih => rw [rep, List.all_append, ih, hz1]; rfl
      have hzr := ty_run_zero hei w
      have hun := undT_run ht w
      have hgo : ∀ (a : Addr) (c' : Nat), 0 < n → (∃ w', (storeCells a (rep i.zero.cells.toList n)).run E.P w = .ok () w' ∧ HR Pr (AN H) ρ (H.set b (some (.cells (setN cs o (rep i.zero.cells.toList n)) e g))) w'.heap ∧ Kp w w') →
          Did E Pr ρ H w (Builtin.clear_ #[t] ty #[.slice (some a) n c']) noResult (H.set b (some (.cells (setN cs o (rep i.zero.cells.toList n)) e g))) := by
        rintro a c' hn ⟨w', e1, e2, e3⟩
        refine ⟨noResult, w', ρ, ?_, (by rw [AN_set]; exact e2), VR.undef, fun _ _ => rfl, (by simp), e3⟩
        obtain ⟨n', rfl⟩ : ∃ n', n = n' + 1 := ⟨n - 1, by omega⟩
        have hzz : (Builtin.zeroCells i.zero.cells (n' + 1)).toList = rep i.zero.cells.toList (n' + 1) := zeroCells_list _ _
        simp [Builtin.clear_, hun, hzr, hzz, e1, noResult]
      have h0 : n = 0 → ∀ (a : Addr) (c' : Nat), Did E Pr ρ H w (Builtin.clear_ #[t] ty #[.slice (some a) n c']) noResult (H.set b (some (.cells (setN cs o (rep i.zero.cells.toList n)) e g))) := by
        rintro rfl a c'
        obtain ⟨w', e1, e2, e3⟩ := over_sound (E := E) (o := o) (w := w) hH hg (.nil) (by rfl) (by simp; omega)
        simp only [storeCells, Sem.run_pure, Result.ok.injEq, true_and] at e1
        subst e1
        exact ⟨noResult, w, ρ, by simp [Builtin.clear_, hun, noResult], (by rw [AN_set]; exact e2), VR.undef, fun _ _ => rfl, (by simp), Kp.refl _⟩
      have hov := fun (_ : True) => over_sound (E := E) (o := o) (w := w) hH hg (rep_VL hz n) (hr1 n) (by rw [hrl]; exact hle)
      cases hx with
      | slx _ _ _ _ hbb hfx hnc =>
        rcases Nat.eq_zero_or_pos n with hn | hn
        · exact h0 hn _ _
        · exact hgo _ _ hn (hov trivial)
      | slf _ _ _ _ c' z hbb hp hfx q1 q2 q3 =>
        rcases Nat.eq_zero_or_pos n with hn | hn
        · exact h0 hn _ _
        · exact hgo _ _ hn (hov trivial)
      | sl0 _ _ _ a hbb => exact h0 rfl a 0
      | nl0 _ _ _ hbb =>
        rw [show rep i.zero.cells.toList 0 = [] from rfl, show setN cs o [] = cs from rfl, set_self hg]
        exact Did.same hH (v' := noResult) (by simp [Builtin.clear_, hun, noResult]) VR.undef
    · cases h
  · rename_i e0 n c he
    obtain ⟨ht, hei⟩ := elemT_spec (e := e0.1) (i := e0.2) he
    cases h
    cases hx
    exact Did.same hH (v' := noResult) (by simp [Builtin.clear_, undT_run ht w, noResult]) VR.undef
  · cases h

end
end Go.Am
