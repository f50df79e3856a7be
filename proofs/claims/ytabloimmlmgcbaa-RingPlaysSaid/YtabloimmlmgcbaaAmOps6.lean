/-
  The abstract machine: append, copy, clear against the model's.
-/
import Derived.Test.YtabloimmlmgcbaaAmOps5
namespace Go.Am
section
variable {E : Env} {Pr : Prot} {ρ : Nat → Nm}

theorem zeroCells_list (z : Array Value) (n : Nat) : (Builtin.zeroCells z n).toList = rep z.toList n := zeros_rep z n

/-- append in place. -/
theorem run_append_in {t u ty e : TypeId} {i : TI} {d : TypeDesc} (ht : undT E t = some (.slice e)) (hu : undT E u = some d) (hd : okSrc d = true) (he : E.ty e = some i) {a : Addr} {n c m : Nat} {x' : Value} {news : List Value} {w w' : World}
    (hl : (Builtin.lenOf x').run E.P w = .ok m w) (hf : (Builtin.firstCells i.size m x').run E.P w = .ok news.toArray w) (hc : n + m ≤ c) (hs : (storeCells (a.add (n * i.size)) news).run E.P w = .ok () w') :
    (Builtin.append_ #[t, u] ty #[.slice (some a) n c, x']).run E.P w = .ok (.slice (some a) (n + m) c) w' := by
  have h1 := undT_run ht w
  have h2 := undT_run hu w
  have h3 := ty_run_size he w
  unfold okSrc at hd
  split at hd
  · simp [Builtin.append_, h1, h2, h3, hl, hf, hc, hs]
  · simp [Builtin.append_, h1, h2, h3, hl, hf, hc, hs]
  · cases hd


/-- append into a new row. -/
theorem run_append_out {t u ty e : TypeId} {i : TI} {d : TypeDesc} (ht : undT E t = some (.slice e)) (hu : undT E u = some d) (hd : okSrc d = true) (he : E.ty e = some i) {base : Option Addr} {n c m : Nat} {x' : Value} {olds news : List Value} {w : World}
    (hl : (Builtin.lenOf x').run E.P w = .ok m w) (hf : (Builtin.firstCells i.size m x').run E.P w.drew = .ok news.toArray w.drew) (ho : (Builtin.firstCells i.size n (.slice base n c)).run E.P w.drew = .ok olds.toArray w.drew)
    (hc : ¬ n + m ≤ c) (h63 : n + m ≤ 9223372036854775807) (hb : (n + m) * i.bytes ≤ 140737488355328) :
    (Builtin.append_ #[t, u] ty #[.slice base n c, x']).run E.P w = .ok (.slice (some ⟨w.heap.size, 0, none⟩) (n + m) (grownCap w (n + m) c e))
      (w.drew.alloc (.cells (olds.toArray ++ (news.toArray ++ Builtin.zeroCells i.zero.cells (grownCap w (n + m) c e - (n + m)))) e)) := by
  obtain ⟨_, inf, hinf, q1, q2, q3⟩ := E.tyOk e i he
  have g1 : ¬ (9223372036854775807 < (n : Int) + (m : Int)) := by omega
  have g2 := growslice_fits (bytes := i.bytes) (need := n + m) (old := c) (by omega) hb
  have g3 : ¬ (281474976710656 < Builtin.nextslicecap (n + m) c * inf.bytes) := by rw [q2]; omega
  have hi64 : IntKind.i64.max = 9223372036854775807 := by decide
  have h1 := undT_run ht w
  have h2 := undT_run hu w
  have h3 := ty_run_size he w
  have h4 : ∀ v : World, (typeInfo e).run E.P v = .ok inf v := fun v => by simp [typeInfo, hinf]
  have h5 := ty_run_zero he w.drew
  unfold okSrc at hd
  split at hd
  · simp [Builtin.append_, h1, h2, h3, hl, hc, h4, hi64, g1, g3, Question.forced, grownCap, hf, ho, h5, newRow]
  · simp [Builtin.append_, h1, h2, h3, hl, hc, h4, hi64, g1, g3, Question.forced, grownCap, hf, ho, h5, newRow]
  · cases hd


/-- A block goes on under a new name. -/
theorem HR.move {H : Heap} {hp : Array Obj} (h : HR Pr (AN H) ρ H hp) {b : Nat} {ob : Ob} (hb : getO H b = some ob) (hbq : (ρ b).ph = false) (hbp : Pr.keep (ρ b).blk = none) (o : Obj) (x : Nm) (ob' : Ob) (hx : x.blk = (ρ b).blk) (hxp : x.ph = false)
    (ho : OR0 Pr (AN (slot (H.set b none) ob')) (upd ρ H.length x) x (hp.setIfInBounds (ρ b).blk o) ob') (hnl : plainB ob = true := by rfl) :
    HR Pr (AN (slot (H.set b none) ob')) (upd ρ H.length x) (slot (H.set b none) ob') (hp.setIfInBounds (ρ b).blk o) := by
  have hlen : (H.set b none).length = H.length := by simp
  have hA : ∀ i, AN H i → AN (slot (H.set b none) ob') i := fun i hi => by unfold AN at *; rw [slot_length, hlen]; omega
  have hr : ∀ i, AN H i → upd ρ H.length x i = ρ i := fun i hi => upd_old ρ _ x hi
  have hcase : ∀ i oi, getO (slot (H.set b none) ob') i = some oi → (i < H.length ∧ i ≠ b ∧ getO H i = some oi) ∨ (i = H.length ∧ oi = ob') := by
    intro i oi hi
    have hl := getO_lt hi
    rw [slot_length, hlen] at hl
    by_cases hc : i < H.length
    · rw [getO_slot_old (by rw [hlen]; exact hc)] at hi
      by_cases hib : b = i
      · subst hib
        rw [getO_set_same hb] at hi; cases hi
      · rw [getO_set_other hib] at hi; exact .inl ⟨hc, fun e => hib e.symm, hi⟩
    · have : i = H.length := by omega
      subst this
      have hnew := getO_slot_new (H := H.set b none) (o := ob')
      rw [hlen] at hnew
      rw [hnew] at hi
      exact .inr ⟨rfl, (Option.some.inj hi).symm⟩
  obtain ⟨own, h⟩ := h
  obtain ⟨hob, hbl⟩ := h.blk_lt hb (plainB_fro hnl) hbq
  refine ⟨fun c => if c = (ρ b).blk then some H.length else own c, fun c y hc => ?_, fun i oi hi => getO_lt hi, fun i oi hi hf => ?_, fun i cs e z hi => ?_, fun c i hc => ?_⟩
  · have hne : (ρ b).blk ≠ c := fun e => by rw [e, hc] at hbp; cases hbp
    rw [Array.getElem?_setIfInBounds_ne hne]
    exact h.pr c y hc
  · rcases hcase i oi hi with ⟨hc, hib, hg⟩ | ⟨rfl, rfl⟩
    · rw [upd_old ρ _ x hc]
      have hne : ∀ c, own c = some i → c ≠ (ρ b).blk := fun c hc e => by rw [e, hob] at hc; exact hib (Option.some.inj hc).symm
      rcases h.ob i oi hg hf with g | ⟨g1, g2, g3⟩
      · exact .inl g
      · refine .inr ⟨g1, g2.mono (fun _ _ h => h) hA hr (fun c hc => ?_) (fun c hc => Array.getElem?_setIfInBounds_ne (hne c hc).symm) g3, ?_⟩
        · show (if c = (ρ b).blk then _ else own c) = _
          rw [if_neg (hne c hc)]; exact hc
        · show (if (ρ i).blk = (ρ b).blk then _ else own _) = _
          rw [if_neg (hne _ g3)]; exact g3
    · rw [upd_same]
      refine .inr ⟨hxp, .inl ho, ?_⟩
      show (if x.blk = (ρ b).blk then some H.length else own x.blk) = some H.length
      rw [if_pos hx]
  · rcases hcase i _ hi with ⟨hc, hib, hg⟩ | ⟨rfl, rfl⟩
    · have hn := h.fro_ne hb hnl hg
      have hne : (ρ b).blk ≠ (ρ i).blk := fun e1 => hn (by rw [← e1]; exact hob)
      refine h.fr_keep hA hr hg (Array.getElem?_setIfInBounds_ne hne) (fun j hj => ?_)
      have hj : (if (ρ i).blk = (ρ b).blk then some H.length else own (ρ i).blk) = some j := hj
      rw [if_neg (Ne.symm hne)] at hj
      refine ⟨hj, fun cj ej zj q => ?_⟩
      rw [getO_slot_old (by rw [hlen]; exact getO_lt q), getO_set_other (fun e1 => hn (by rw [hj, e1]))]
      exact q
    · exact absurd ho id
  · have hc : (if c = (ρ b).blk then some H.length else own c) = some i := hc
    rw [Array.size_setIfInBounds]
    by_cases hcb : c = (ρ b).blk
    · subst hcb; exact ⟨hbl, hbp⟩
    · rw [if_neg hcb] at hc; exact h.ow c i hc

theorem setN_eq : ∀ (vs l : List Value) (q : Nat), q + vs.length ≤ l.length → setN l q vs = l.take q ++ (vs ++ l.drop (q + vs.length))
  | [], l, q, _ => by simp [setN]
  | v :: r, l, q, h => by
    simp only [List.length_cons] at h
    rw [setN, setN_eq r _ (q + 1) (by simp; omega)]
    have hq : q < l.length := by omega
    have h1 : (l.set q v).take (q + 1) = l.take q ++ [v] := by
      rw [List.take_set, List.take_add_one, List.getElem?_eq_getElem hq]
      simp only [Option.toList_some]
      rw [List.set_append_right _ _ (by simp; omega)]
      simp [Nat.min_eq_left (Nat.le_of_lt hq)]
    have h2 : (l.set q v).drop (q + 1 + r.length) = l.drop (q + (r.length + 1)) := by
      rw [List.drop_set_of_lt (by omega)]
      congr 1; omega
    rw [h1, h2]
    simp

theorem setN_window {c vs : List Value} {p q : Nat} (h : p + q + vs.length ≤ c.length) : ((setN c (p + q) vs).drop p).take (q + vs.length) = (c.drop p).take q ++ vs := by
  rw [setN_drop, setN_eq _ _ _ (by simp; omega)]
  rw [← List.append_assoc, List.take_left' (by simp; omega)]

/-- What append in place leaves. -/
theorem grown_cells {H : Heap} {hp : Array Obj} (h : HR Pr (AN H) ρ H hp) {b o : Nat} {cs : List Value} {e : TypeId} {g : Option Nat} (hb : getO H b = some (.cells cs e g)) (hreal : (ρ b).ph = false ∧ Pr.keep (ρ b).blk = none ∧ CellsR Pr (AN H) ρ cs e g (ρ b) hp) {q : Nat} {news news' : List Value} (hn : VL Pr (AN H) ρ news news')
    (hq : o + q ≤ cs.length) {c : Array Value} {fz : Nat × Nat} (h1 : hp[(ρ b).blk]? = some (.cells c e fz)) (hfit : (ρ b).base + o + q + news.length ≤ c.size) (z : Nat) :
    HR Pr (AN (slot (H.set b none) (.cells ((cs.drop o).take q ++ news) e (some z)))) (upd ρ H.length ⟨(ρ b).blk, (ρ b).base + o, c.size, some z, false⟩) (slot (H.set b none) (.cells ((cs.drop o).take q ++ news) e (some z)))
      (hp.setIfInBounds (ρ b).blk (.cells (setN c.toList ((ρ b).base + o + q) news').toArray e fz)) := by
  obtain ⟨hbq, hbp, hbo⟩ := hreal
  obtain ⟨c0, fz0, g1, g2, g3, g4, g5, g6, g7⟩ := hbo
  rw [g1] at h1
  cases h1
  have hA : ∀ i, AN H i → AN (slot (H.set b none) (.cells ((cs.drop o).take q ++ news) e (some z))) i := fun i hi => by unfold AN at *; rw [slot_length]; simp; omega
  refine h.move hb hbq hbp _ _ _ rfl rfl ⟨_, fz, Array.getElem?_setIfInBounds_self_of_lt (Array.getElem?_eq_some_iff.1 g1).1, ?_, ?_, ?_, rfl, (by intro hh; cases hh), ?_⟩
  · simp [setN_length]
  · simp [setN_length]; omega
  · simpa [setN_length] using g4
  · have hlen := hn.length
    have hl : ((cs.drop o).take q ++ news).length = q + news'.length := by simp; omega
    rw [hl]
    simp only
    rw [setN_window (by simp; omega)]
    refine VL.append ?_ (hn.mono (fun _ _ h => h) hA (fun i hi => upd_old ρ _ _ hi))
    have hw := (g7.drop o).take q
    have hl2 : ((c.toList.drop (ρ b).base).take cs.length).drop o = ((c.toList.drop ((ρ b).base + o)).take (cs.length - o)) := by
      rw [List.drop_take, List.drop_drop]
    rw [hl2, List.take_take, Nat.min_eq_left (by omega)] at hw
    exact hw.mono (fun _ _ h => h) hA (fun i hi => upd_old ρ _ _ hi)


/-- A row that is only appended to, forgotten but for what stands in it. -/
theorem HR.freeze {A : Nat → Prop} {H : Heap} {hp : Array Obj} (h : HR Pr A ρ H hp) {b : Nat} {cs : List Value} {e : TypeId} {z : Nat} (hb : getO H b = some (.log cs e z)) : HR Pr A ρ (H.set b (some (.fro cs e z))) hp := by
  obtain ⟨hbA, hbo, hbq, hbf⟩ := h.logR (.inl hb)
  have hcase : ∀ i oi, getO (H.set b (some (.fro cs e z))) i = some oi → (i = b ∧ oi = .fro cs e z) ∨ (b ≠ i ∧ getO H i = some oi) := by
    intro i oi hi
    by_cases hbi : b = i
    · subst hbi
      rw [getO_set_same hb] at hi
      exact .inl ⟨rfl, (Option.some.inj hi).symm⟩
    · rw [getO_set_other hbi] at hi
      exact .inr ⟨hbi, hi⟩
  obtain ⟨own, h⟩ := h
  obtain ⟨hob, _⟩ := h.blk_lt hb rfl hbq
  have ho : ∀ c j, (if own c = some b then none else own c) = some j → own c = some j ∧ j ≠ b := by
    intro c j hc
    by_cases hb : own c = some b
    · rw [if_pos hb] at hc; cases hc
    · rw [if_neg hb] at hc
      exact ⟨hc, fun e => hb (by rw [hc, e])⟩
  have ho2 : ∀ c j, j ≠ b → own c = some j → (if own c = some b then none else own c) = some j := by
    intro c j hj hc
    rw [if_neg (fun e => by rw [hc] at e; exact hj (Option.some.inj e))]; exact hc
  refine ⟨fun c => if own c = some b then none else own c, h.pr, fun i oi hi => ?_, fun i oi hi hf => ?_, fun i ci ei zi hi => ?_, fun c i hc => h.ow c i (ho c i hc).1⟩
  · rcases hcase i oi hi with ⟨rfl, _⟩ | ⟨_, hg⟩
    · exact hbA
    · exact h.nm _ _ hg
  · rcases hcase i oi hi with ⟨rfl, rfl⟩ | ⟨hne, g⟩
    · cases hf
    rcases h.ob i oi g hf with q | ⟨q1, q2, q3⟩
    · exact .inl q
    · exact .inr ⟨q1, q2.mono (fun _ _ h => h) (fun _ h => h) (fun _ _ => rfl) (fun c hc => ho2 c i (Ne.symm hne) hc) (fun _ _ => rfl) q3, ho2 _ i (Ne.symm hne) q3⟩
  · rcases hcase i _ hi with ⟨rfl, he⟩ | ⟨hne, g⟩
    · cases he
      refine ⟨hbq, h.keep hob, hbo, hbf, fun j hj => ?_⟩
      have hj : (if own (ρ i).blk = some i then none else own (ρ i).blk) = some j := hj
      rw [if_pos hob] at hj; cases hj
    · refine h.fr_keep (fun _ h => h) (fun _ _ => rfl) g rfl (fun j hj => ?_)
      obtain ⟨h1, h2⟩ := ho _ j hj
      exact ⟨h1, fun cj ej zj q => by rw [getO_set_other (Ne.symm h2)]; exact q⟩
theorem window_keep {l vs : List Value} {p k q : Nat} (h : p + k ≤ q) (hq : q + vs.length ≤ l.length) : ((setN l q vs).drop p).take k = (l.drop p).take k := by
  rw [setN_eq _ _ _ hq, List.drop_append_of_le_length (by simp; omega), List.take_append_of_le_length (by simp; omega), List.drop_take, List.take_take, Nat.min_eq_left (by omega)]
theorem CellsR.keep {A : Nat → Prop} {cs : List Value} {e : TypeId} {g : Nat} {x : Nm} {hp : Array Obj} (h : CellsR Pr A ρ cs e (some g) x hp) {c : Array Value} {e' : TypeId} {fz : Nat × Nat} (h1 : hp[x.blk]? = some (.cells c e' fz)) {q : Nat} {vs : List Value} (hq : x.base + cs.length ≤ q) (hf : q + vs.length ≤ c.size) :
    CellsR Pr A ρ cs e (some g) x (hp.setIfInBounds x.blk (.cells (setN c.toList q vs).toArray e' fz)) := by
  obtain ⟨c0, fz0, g1, g2, g3, g4, g5, g6, g7⟩ := h
  rw [g1] at h1
  cases h1
  refine ⟨_, _, Array.getElem?_setIfInBounds_self_of_lt (Array.getElem?_eq_some_iff.1 g1).1, by simpa [setN_length] using g2, by simpa [setN_length] using g3, by simpa [setN_length] using g4, g5, fun h => (by cases h), ?_⟩
  have e1 : ((setN c.toList q vs).toArray.toList.drop x.base).take cs.length = (c.toList.drop x.base).take cs.length := window_keep hq (by rw [Array.length_toList]; exact hf)
  rw [e1]
  exact g7
/-- A row that is only appended to goes on in place. -/
theorem HR.moveL {H : Heap} {hp : Array Obj} (h : HR Pr (AN H) ρ H hp) {b o : Nat} {cs : List Value} {e : TypeId} {z : Nat} (hb : getO H b = some (.log cs e z)) {q : Nat} {news news' : List Value} (hn : VL Pr (AN H) ρ news news') (hnf : news.all flat = true)
    (hq : o + q = cs.length) {c : Array Value} {fz : Nat × Nat} (h1 : hp[(ρ b).blk]? = some (.cells c e fz)) (hfit : (ρ b).base + o + q + news.length ≤ c.size) :
    HR Pr (AN (slot (H.set b (some (.fro cs e z))) (.log ((cs.drop o).take q ++ news) e z))) (upd ρ H.length ⟨(ρ b).blk, (ρ b).base + o, c.size, some z, false⟩) (slot (H.set b (some (.fro cs e z))) (.log ((cs.drop o).take q ++ news) e z))
      (hp.setIfInBounds (ρ b).blk (.cells (setN c.toList ((ρ b).base + o + q) news').toArray e fz)) := by
  obtain ⟨hbA, hbo, hbq, hbf⟩ := h.logR (.inl hb)
  have hlen : (H.set b (some (.fro cs e z))).length = H.length := by simp
  have hA : ∀ i, AN H i → AN (slot (H.set b (some (.fro cs e z))) (.log ((cs.drop o).take q ++ news) e z)) i := fun i hi => by unfold AN at *; rw [slot_length, hlen]; omega
  have hr : ∀ i, AN H i → upd ρ H.length ⟨(ρ b).blk, (ρ b).base + o, c.size, some z, false⟩ i = ρ i := fun i hi => upd_old ρ _ _ hi
  have hcase : ∀ i oi, getO (slot (H.set b (some (.fro cs e z))) (.log ((cs.drop o).take q ++ news) e z)) i = some oi → (i = b ∧ oi = .fro cs e z) ∨ (i < H.length ∧ i ≠ b ∧ getO H i = some oi) ∨ (i = H.length ∧ oi = .log ((cs.drop o).take q ++ news) e z) := by
    intro i oi hi
    have hl := getO_lt hi
    rw [slot_length, hlen] at hl
    by_cases hc : i < H.length
    · rw [getO_slot_old (by rw [hlen]; exact hc)] at hi
      by_cases hib : b = i
      · subst hib
        rw [getO_set_same hb] at hi
        exact .inl ⟨rfl, (Option.some.inj hi).symm⟩
      · rw [getO_set_other hib] at hi; exact .inr (.inl ⟨hc, fun e => hib e.symm, hi⟩)
    · have : i = H.length := by omega
      subst this
      have hnew := getO_slot_new (H := H.set b (some (.fro cs e z))) (o := .log ((cs.drop o).take q ++ news) e z)
      rw [hlen] at hnew
      rw [hnew] at hi
      exact .inr (.inr ⟨rfl, (Option.some.inj hi).symm⟩)
  have hnewO : getO (slot (H.set b (some (.fro cs e z))) (.log ((cs.drop o).take q ++ news) e z)) H.length = some (.log ((cs.drop o).take q ++ news) e z) := by
    have hnew := getO_slot_new (H := H.set b (some (.fro cs e z))) (o := .log ((cs.drop o).take q ++ news) e z)
    rw [hlen] at hnew
    exact hnew
  have hbp : Pr.keep (ρ b).blk = none := by
    obtain ⟨own, h⟩ := h
    exact h.keep (h.blk_lt hb rfl hbq).1
  have hnl := hn.length
  have hlt : (ρ b).blk < hp.size := (Array.getElem?_eq_some_iff.1 h1).1
  have hend : (ρ b).base + cs.length ≤ (ρ b).base + o + ((cs.drop o).take q ++ news).length := by simp; omega
  obtain ⟨own, h⟩ := h
  obtain ⟨hob, hbl⟩ := h.blk_lt hb rfl hbq
  have ho : ∀ d j, (if d = (ρ b).blk then some H.length else if own d = some b then none else own d) = some j → d ≠ (ρ b).blk → own d = some j ∧ j ≠ b := by
    intro d j hc hd
    rw [if_neg hd] at hc
    by_cases hb : own d = some b
    · rw [if_pos hb] at hc; cases hc
    · rw [if_neg hb] at hc
      exact ⟨hc, fun e => hb (by rw [hc, e])⟩
  have ho2 : ∀ d j, j ≠ b → own d = some j → (if d = (ρ b).blk then some H.length else if own d = some b then none else own d) = some j := by
    intro d j hj hc
    rw [if_neg (fun e => by rw [e, hob] at hc; exact hj (Option.some.inj hc).symm), if_neg (fun e => by rw [hc] at e; exact hj (Option.some.inj e))]
    exact hc
  refine ⟨fun d => if d = (ρ b).blk then some H.length else if own d = some b then none else own d, fun d y hc => ?_, fun i oi hi => getO_lt hi, fun i oi hi hf => ?_, fun i ci ei zi hi => ?_, fun d i hc => ?_⟩
  · have hne : (ρ b).blk ≠ d := fun e => by rw [e, hc] at hbp; cases hbp
    rw [Array.getElem?_setIfInBounds_ne hne]
    exact h.pr d y hc
  · rcases hcase i oi hi with ⟨rfl, rfl⟩ | ⟨hc, hib, hg⟩ | ⟨rfl, rfl⟩
    · cases hf
    · rw [upd_old ρ _ _ hc]
      rcases h.ob i oi hg hf with g | ⟨g1, g2, g3⟩
      · exact .inl g
      · refine .inr ⟨g1, g2.mono (fun _ _ h => h) hA hr (fun d hd => ho2 d i hib hd) (fun d hd => Array.getElem?_setIfInBounds_ne (fun e => by rw [← e, hob] at hd; exact hib (Option.some.inj hd).symm)) g3, ho2 _ i hib g3⟩
    · rw [upd_same]
      refine .inr ⟨rfl, .inl ⟨⟨_, fz, Array.getElem?_setIfInBounds_self_of_lt hlt, ?_, ?_, ?_, rfl, (by intro hh; cases hh), ?_⟩, ?_⟩, ?_⟩
      · simp [setN_length]
      · simp [setN_length]; omega
      · obtain ⟨c0, fz0, g1, g2, g3, g4, _⟩ := hbo
        rw [g1] at h1
        cases h1
        simpa [setN_length] using g4
      · obtain ⟨c0, fz0, g1, g2, g3, g4, g5, g6, g7⟩ := hbo
        rw [g1] at h1
        cases h1
        have hl : ((cs.drop o).take q ++ news).length = q + news'.length := by simp; omega
        rw [hl]
        simp only
        rw [setN_window (by simp; omega)]
        refine VL.append ?_ (hn.mono (fun _ _ h => h) hA hr)
        have hw := (g7.drop o).take q
        have hl2 : ((c.toList.drop (ρ b).base).take cs.length).drop o = ((c.toList.drop ((ρ b).base + o)).take (cs.length - o)) := by
          rw [List.drop_take, List.drop_drop]
        rw [hl2, List.take_take, Nat.min_eq_left (by omega)] at hw
        exact hw.mono (fun _ _ h => h) hA hr
      · rw [List.all_append, hnf, Bool.and_true]
        rw [List.all_eq_true] at hbf ⊢
        exact fun v hv => hbf v (List.mem_of_mem_drop (List.mem_of_mem_take hv))
      · show (if (ρ b).blk = (ρ b).blk then some H.length else _) = some H.length
        rw [if_pos rfl]
  · rcases hcase i _ hi with ⟨rfl, he⟩ | ⟨hc, hib, hg⟩ | ⟨rfl, he⟩
    · cases he
      unfold FroR
      rw [upd_old ρ _ _ hbA]
      refine ⟨hbq, hbp, (hbo.keep h1 (q := (ρ i).base + o + q) (vs := news') (by omega) (by omega)).mono (fun _ _ h => h) hA hr rfl, hbf, fun j hj => ?_⟩
      have hj : (if (ρ i).blk = (ρ i).blk then some H.length else _) = some j := hj
      rw [if_pos rfl] at hj
      cases hj
      exact ⟨_, _, _, hnewO, by rw [upd_same]; exact hend⟩
    · by_cases hbi : (ρ i).blk = (ρ b).blk
      · obtain ⟨f1, f0, f2, f3, f4⟩ := h.fr i ci ei zi hg
        obtain ⟨cj, ej, zj, q1, q2⟩ := f4 b (by rw [hbi]; exact hob)
        rw [hb] at q1
        cases q1
        have f2' := f2.keep (by rw [hbi]; exact h1) (q := (ρ b).base + o + q) (vs := news') (by omega) (by omega)
        rw [hbi] at f2'
        unfold FroR
        rw [upd_old ρ _ _ hc]
        refine ⟨f1, f0, f2'.mono (fun _ _ h => h) hA hr rfl, f3, fun j hj => ?_⟩
        have hj : (if (ρ i).blk = (ρ b).blk then some H.length else _) = some j := hj
        rw [if_pos hbi] at hj
        cases hj
        refine ⟨_, _, _, hnewO, ?_⟩
        rw [upd_same]
        exact Nat.le_trans q2 hend
      · refine h.fr_keep hA hr hg (Array.getElem?_setIfInBounds_ne (fun e => hbi e.symm)) (fun j hj => ?_)
        obtain ⟨p1, p2⟩ := ho _ j hj hbi
        refine ⟨p1, fun cj ej zj q => ?_⟩
        rw [getO_slot_old (by rw [hlen]; exact getO_lt q), getO_set_other (Ne.symm p2)]
        exact q
    · cases he
  · have hc : (if d = (ρ b).blk then some H.length else if own d = some b then none else own d) = some i := hc
    rw [Array.size_setIfInBounds]
    by_cases hcb : d = (ρ b).blk
    · subst hcb; exact ⟨hbl, hbp⟩
    · exact h.ow d i (ho d i hc hcb).1
/-- A new row that is only appended to. -/
theorem HR.newLog {H : Heap} {hp : Array Obj} (h : HR Pr (AN H) ρ H hp) {cs cs' : List Value} (hv : VL Pr (AN H) ρ cs cs') (hf : cs.all flat = true) (ex : List Value) (e : TypeId) (z : Nat) (fz : Nat × Nat)
    (hfz : ∀ k, k < (cs' ++ ex).length → ¬ (fz.1 ≤ k ∧ k < fz.2)) :
    HR Pr (AN (slot H (.log cs e z))) (upd ρ H.length ⟨hp.size, 0, (cs' ++ ex).length, some z, false⟩) (slot H (.log cs e z)) (hp.push (.cells (cs' ++ ex).toArray e fz)) := by
  refine h.alloc _ _ _ rfl rfl ⟨⟨(cs' ++ ex).toArray, fz, by simp, by simp, ?_, by simpa using hfz, rfl, fun h => (by cases h), ?_⟩, hf⟩
  · simp only [List.size_toArray, List.length_append, hv.length]; omega
  · have : ((cs' ++ ex).toArray.toList.drop 0).take cs.length = cs' := by
      simp [hv.length]
    rw [this]
    exact hv.mono (fun _ _ h => h) AN_slot (fun i hi => upd_old ρ _ _ hi)

/-- append into a new row: what stands behind it. -/
theorem out_sound {H : Heap} {w : World} (hH : HR Pr (AN H) ρ H w.heap) {t u ty e : TypeId} {i : TI} {d : TypeDesc} (ht : undT E t = some (.slice e)) (hu : undT E u = some d) (hd : okSrc d = true) (he : E.ty e = some i)
    (hz : i.zero.cells.toList.length = i.size) {base : Option Addr} {n c m : Nat} {x' : Value} {olds olds' news news' : List Value} (ho : VL Pr (AN H) ρ olds olds') (hn : VL Pr (AN H) ρ news news') (hol : olds.length = n * i.size) (hnl : news.length = m * i.size)
    (hl : (Builtin.lenOf x').run E.P w = .ok m w) (hf : (Builtin.firstCells i.size m x').run E.P w.drew = .ok news'.toArray w.drew) (hfo : (Builtin.firstCells i.size n (.slice base n c)).run E.P w.drew = .ok olds'.toArray w.drew)
    (hc : ¬ n + m ≤ c) (h63 : n + m ≤ 9223372036854775807) (hb : (n + m) * i.bytes ≤ 140737488355328) :
    Did E Pr ρ H w (Builtin.append_ #[t, u] ty #[.slice base n c, x']) (.slice (some ⟨H.length, 0, none⟩) (n + m) 0) (slot H (.cells (olds ++ news) e (some i.size))) := by
  have hrun := run_append_out (ty := ty) ht hu hd he hl hf hfo hc h63 hb
  have c1 := grownCap_ge w (n + m) c e
  have c2 := grownCap_le_maxLen w (n + m) c e (by simpa [maxLen] using h63)
  have hrow : olds'.toArray ++ (news'.toArray ++ Builtin.zeroCells i.zero.cells (grownCap w (n + m) c e - (n + m))) = ((olds' ++ news') ++ rep i.zero.cells.toList (grownCap w (n + m) c e - (n + m))).toArray := by
    apply Array.ext'
    simp [zeroCells_list]
  rw [hrow] at hrun
  have hnew := hH.newCells (ho.append hn) (rep i.zero.cells.toList (grownCap w (n + m) c e - (n + m))) e (some i.size) (0, 0) (by intro k _; simp) (by intro h; cases h)
  refine ⟨_, _, _, hrun, hnew, ?_, fun i hi => upd_old ρ _ _ hi, (by rw [slot_length]; omega), ⟨rfl, rfl⟩⟩
  refine VR.newSlf c1 ?_ c2
  have e1 : ((olds' ++ news') ++ rep i.zero.cells.toList (grownCap w (n + m) c e - (n + m))).length = n * i.size + m * i.size + (grownCap w (n + m) c e - (n + m)) * i.size := by
    rw [List.length_append, List.length_append, rep_length, hz, ← ho.length, ← hn.length, hol, hnl]
  rw [e1, ← Nat.add_mul, ← Nat.add_mul]
  have : n + m + (grownCap w (n + m) c e - (n + m)) = grownCap w (n + m) c e := by omega
  rw [this]
  omega

theorem outL_sound {H : Heap} {w : World} (hH : HR Pr (AN H) ρ H w.heap) {t u ty e : TypeId} {i : TI} {d : TypeDesc} (ht : undT E t = some (.slice e)) (hu : undT E u = some d) (hd : okSrc d = true) (he : E.ty e = some i)
    (hz : i.zero.cells.toList.length = i.size) {base : Option Addr} {n c m : Nat} {x' : Value} {olds olds' news news' : List Value} (ho : VL Pr (AN H) ρ olds olds') (hn : VL Pr (AN H) ρ news news') (hol : olds.length = n * i.size) (hnl : news.length = m * i.size)
    (hl : (Builtin.lenOf x').run E.P w = .ok m w) (hf : (Builtin.firstCells i.size m x').run E.P w.drew = .ok news'.toArray w.drew) (hfo : (Builtin.firstCells i.size n (.slice base n c)).run E.P w.drew = .ok olds'.toArray w.drew)
    (hc : ¬ n + m ≤ c) (h63 : n + m ≤ 9223372036854775807) (hb : (n + m) * i.bytes ≤ 140737488355328) (hfl : (olds ++ news).all flat = true) :
    Did E Pr ρ H w (Builtin.append_ #[t, u] ty #[.slice base n c, x']) (.slice (some ⟨H.length, 0, none⟩) (n + m) 0) (slot H (.log (olds ++ news) e i.size)) := by
  have hrun := run_append_out (ty := ty) ht hu hd he hl hf hfo hc h63 hb
  have c1 := grownCap_ge w (n + m) c e
  have c2 := grownCap_le_maxLen w (n + m) c e (by simpa [maxLen] using h63)
  have hrow : olds'.toArray ++ (news'.toArray ++ Builtin.zeroCells i.zero.cells (grownCap w (n + m) c e - (n + m))) = ((olds' ++ news') ++ rep i.zero.cells.toList (grownCap w (n + m) c e - (n + m))).toArray := by
    apply Array.ext'
    simp [zeroCells_list]
  rw [hrow] at hrun
  have hnew := hH.newLog (ho.append hn) hfl (rep i.zero.cells.toList (grownCap w (n + m) c e - (n + m))) e i.size (0, 0) (by intro k _; simp)
  refine ⟨_, _, _, hrun, hnew, ?_, fun i hi => upd_old ρ _ _ hi, (by rw [slot_length]; omega), ⟨rfl, rfl⟩⟩
  refine VR.newSlf c1 ?_ c2
  have e1 : ((olds' ++ news') ++ rep i.zero.cells.toList (grownCap w (n + m) c e - (n + m))).length = n * i.size + m * i.size + (grownCap w (n + m) c e - (n + m)) * i.size := by
    rw [List.length_append, List.length_append, rep_length, hz, ← ho.length, ← hn.length, hol, hnl]
  rw [e1, ← Nat.add_mul, ← Nat.add_mul]
  have : n + m + (grownCap w (n + m) c e - (n + m)) = grownCap w (n + m) c e := by omega
  rw [this]
  omega

theorem append1_sound {H : Heap} {w : World} (hH : HR Pr (AN H) ρ H w.heap) {t u ty e : TypeId} {i : TI} {d : TypeDesc} (ht : undT E t = some (.slice e)) (hu : undT E u = some d) (hd : okSrc d = true) (he : E.ty e = some i) (_hsz : 0 < i.size)
    (hz : i.zero.cells.toList.length = i.size)
    {s s' x' v : Value} {m : Nat} {news news' : List Value} {H' : Heap} {ok : List Bool} (h : append1 H e i s m news = some (.val v H', ok)) (hok : AllT ok) (hs : VR Pr (AN H) ρ s s') (hn : VL Pr (AN H) ρ news news') (hnl : news.length = m * i.size)
    (hn1 : news.all Am.one = true)
    (hl : (Builtin.lenOf x').run E.P w = .ok m w) (hf : (Builtin.firstCells i.size m x').run E.P w = .ok news'.toArray w) (hf2 : (Builtin.firstCells i.size m x').run E.P w.drew = .ok news'.toArray w.drew) :
    Did E Pr ρ H w (Builtin.append_ #[t, u] ty #[s', x']) v H' := by
  have hnl' : news'.length = m * i.size := by rw [← hn.length]; exact hnl
  have hn1' := hn.one hn1
  unfold append1 at h
  split at h
  · cases h
    obtain ⟨h0, hok⟩ := AllT.cons.1 hok
    obtain ⟨hb, hok⟩ := AllT.cons.1 hok
    have hmx := (AllT.cons.1 hok).1
    have h0 : 0 < m := by simpa using h0
    have hb : m * i.bytes ≤ 140737488355328 := by simpa using hb
    have hmx : m ≤ 9223372036854775807 := by simpa using hmx
    cases hs
    have := out_sound (ty := ty) hH ht hu hd he hz (base := none) (n := 0) (c := 0) .nil hn (by simp) hnl hl hf2 (by simp [Builtin.firstCells]) (by omega) (by omega) (by simpa using hb)
    simpa using this
  · rename_i b o n c
    split at h
    · rename_i cs e' g hg
      split at h
      · rename_i hc
        obtain ⟨rfl, hgz⟩ := hc
        cases h
        obtain ⟨h0, hok⟩ := AllT.cons.1 hok
        obtain ⟨hle, hok⟩ := AllT.cons.1 hok
        obtain ⟨hb, hok⟩ := AllT.cons.1 hok
        have hmx := (AllT.cons.1 hok).1
        have h0 : g.isSome = true ∨ c = n := by simpa using h0
        have hle : o + n * i.size ≤ cs.length := by simpa using hle
        have hb : (n + m) * i.bytes ≤ 140737488355328 := by simpa using hb
        have hmx : n + m ≤ 9223372036854775807 := by simpa using hmx
        have hlenk : (H.set b none).length = H.length := by simp
        -- the new row
        have hout : ∀ (a : Option Addr) (c' : Nat), VR Pr (AN H) ρ (.slice (some ⟨b, o, none⟩) n c) (.slice a n c') → ¬ n + m ≤ c' →
            Did E Pr ρ H w (Builtin.append_ #[t, u] ty #[.slice a n c', x']) (.slice (some ⟨H.length, 0, none⟩) (n + m) 0) (slot (H.set b none) (.cells ((cs.drop o).take (n * i.size) ++ news) e' (some i.size))) := by
          intro a c' hv hnc
          have hk := hH.kill b
          rw [← AN_set (H := H) (b := b) (o := none)] at hk
          obtain ⟨olds', o0, o2, _, o4⟩ := cellsIn_sound (E := E) (size := i.size) (n := n) (x := .slice (some ⟨b, o, none⟩) n c) hH (by simp only [cellsIn, hg]; rfl) (by rw [AllT.cons]; exact ⟨by simpa using hle, AllT.nil⟩) hv (.inl rfl)
          have hd2 := out_sound (ty := ty) hk ht hu hd he hz (base := a) (n := n) (c := c') (olds := (cs.drop o).take (n * i.size)) (by rw [AN_set]; exact o2) (by rw [AN_set]; exact hn) o4 hnl hl hf2 (o0 w.drew rfl) hnc hmx hb
          rw [hlenk] at hd2
          obtain ⟨v', w', ρ', q1, q2, q3, q4, q5⟩ := hd2
          exact ⟨v', w', ρ', q1, q2, q3, (by rw [AN_set] at q4; exact q4), (by rw [hlenk] at q5; exact q5.1), q5.2⟩
        -- nothing behind what may be none
        have hnone : m = 0 → n = 0 → ∀ (a : Option Addr), (∀ (Hn : Heap) (x : Nm), Hn.length = H.length + 1 → VR Pr (AN Hn) (upd ρ H.length x) (.slice (some ⟨H.length, 0, none⟩) 0 0) (.slice a 0 0)) →
            Did E Pr ρ H w (Builtin.append_ #[t, u] ty #[.slice a n 0, x']) (.slice (some ⟨H.length, 0, none⟩) (n + m) 0) (slot (H.set b none) (.cells ((cs.drop o).take (n * i.size) ++ news) e' (some i.size))) := by
          rintro rfl rfl a hv
          have hnil : news' = [] := List.eq_nil_of_length_eq_zero (by rw [hnl']; simp)
          have hnil2 : news = [] := List.eq_nil_of_length_eq_zero (by rw [hnl]; simp)
          subst hnil; subst hnil2
          have hk := hH.kill b
          rw [← AN_set (H := H) (b := b) (o := none)] at hk
          have hp := hk.phantom e' i.size ⟨0, 0, 0, some i.size, true⟩ rfl rfl
          rw [hlenk] at hp
          have hrow : (cs.drop o).take (0 * i.size) ++ [] = [] := by simp
          rw [hrow]
          refine ⟨.slice a 0 0, w, upd ρ H.length ⟨0, 0, 0, some i.size, true⟩, ?_, hp, hv _ _ (by rw [slot_length, hlenk]), fun i hi => upd_old ρ _ _ hi, (by rw [slot_length, hlenk]; omega), Kp.refl _⟩
          have h1 := undT_run ht w
          have h2 := undT_run hu w
          have h3 := ty_run_size he w
          unfold okSrc at hd
          split at hd
          · cases a <;> simp [Builtin.append_, h1, h2, h3, hl, hf, storeCells]
          · cases a <;> simp [Builtin.append_, h1, h2, h3, hl, hf, storeCells]
          · cases hd
        rcases hH.cellsOr hg with ⟨hbA, hbo, hbp, hbq⟩ | ⟨hbq, hcs, hfl, hgs⟩
        case inr =>
          subst hcs
          have hn0 : n = 0 := by
            simp only [List.length_nil] at hle
            rcases Nat.eq_zero_or_pos n with h | h
            · exact h
            · have := Nat.mul_pos h _hsz; omega
          cases hs with
          | slx _ _ _ _ hbb hfx hnc => rw [hfl] at hfx; rw [hfx] at hgs; cases hgs
          | slf _ _ _ _ c' z hbb hp hfx q1 q2 q3 => rw [hbq] at hp; cases hp
          | sl0 _ _ _ a hbb =>
            by_cases hm : m = 0
            · exact hnone hm rfl _ fun Hn x hHn => .sl0 _ _ _ _ (by unfold AN; omega)
            · exact hout _ _ (.sl0 _ _ _ a hbb) (by omega)
          | nl0 _ _ _ hbb =>
            by_cases hm : m = 0
            · exact hnone hm rfl _ fun Hn x hHn => .nl0 _ _ _ (by unfold AN; omega)
            · exact hout _ _ (.nl0 _ _ _ hbb) (by omega)
        obtain ⟨c0, fz, g1, g2, g3, g4, g5, g6, g7⟩ := id hbo
        -- in place
        have hin : ∀ (a : Addr) (c' : Nat) (hst : ∃ w', (storeCells (a.add (n * i.size)) news').run E.P w = .ok () w' ∧ w'.heap = w.heap.setIfInBounds (ρ b).blk (.cells (setN c0.toList ((ρ b).base + o + n * i.size) news').toArray e' fz) ∧ Kp w w'),
            n + m ≤ c' → (ρ b).base + o + n * i.size + news.length ≤ c0.size →
            (∀ (Hn : Heap), Hn.length = H.length + 1 → VR Pr (AN Hn) (upd ρ H.length ⟨(ρ b).blk, (ρ b).base + o, c0.size, some i.size, false⟩) (.slice (some ⟨H.length, 0, none⟩) (n + m) 0) (.slice (some a) (n + m) c')) →
            Did E Pr ρ H w (Builtin.append_ #[t, u] ty #[.slice (some a) n c', x']) (.slice (some ⟨H.length, 0, none⟩) (n + m) 0) (slot (H.set b none) (.cells ((cs.drop o).take (n * i.size) ++ news) e' (some i.size))) := by
          intro a c' ⟨w', s1, s2, s3⟩ hnc hfit hv
          refine ⟨_, w', _, run_append_in (ty := ty) ht hu hd he hl hf hnc s1, ?_, hv _ (by rw [slot_length, hlenk]), fun i hi => upd_old ρ _ _ hi, (by rw [slot_length, hlenk]; omega), s3⟩
          rw [s2]
          exact grown_cells hH hg ⟨hbq, hbp, hbo⟩ hn hle g1 hfit i.size
        have hstore : (ρ b).base + o + n * i.size + news'.length ≤ c0.size → ∃ w', (storeCells ((addr (ρ b) o).add (n * i.size)) news').run E.P w = .ok () w' ∧ w'.heap = w.heap.setIfInBounds (ρ b).blk (.cells (setN c0.toList ((ρ b).base + o + n * i.size) news').toArray e' fz) ∧ Kp w w' := by
          intro hfit
          have := run_storeL E.P (ρ b).blk ((ρ b).base + o + n * i.size) e' fz news' 0 c0 w g1 (by omega) g4 hn1'
          rw [addr, addr_add]
          simpa using this
        have hsame : m = 0 → ∀ a : Addr, ∃ w', (storeCells (a.add (n * i.size)) news').run E.P w = .ok () w' ∧ w'.heap = w.heap.setIfInBounds (ρ b).blk (.cells (setN c0.toList ((ρ b).base + o + n * i.size) news').toArray e' fz) ∧ Kp w w' := by
          intro hm a
          have hnil : news' = [] := List.eq_nil_of_length_eq_zero (by rw [hnl', hm]; simp)
          subst hnil
          refine ⟨w, by simp [storeCells], ?_, Kp.refl _⟩
          apply Array.ext_getElem?
          intro k
          by_cases hbk : (ρ b).blk = k
          · subst hbk
            obtain ⟨hlt, hk⟩ := Array.getElem?_eq_some_iff.1 g1
            simp [Am.setN, hlt, hk]
          · rw [Array.getElem?_setIfInBounds_ne hbk]
        cases hs with
        | slx _ _ _ _ hbb hfx hnc =>
          rw [g5] at hfx
          subst hfx
          have hcn : c = n := by rcases h0 with h0 | h0; · simp at h0
                                 · exact h0
          subst hcn
          obtain ⟨z1, z2⟩ := g6 rfl
          by_cases hm : m = 0
          · refine hin _ c (hsame hm _) (by omega) (by rw [hnl, hm]; simp; omega) fun Hn hHn => ?_
            have := VR.slf (Pr := Pr) (A := AN Hn) (ρ := upd ρ H.length ⟨(ρ b).blk, (ρ b).base + o, c0.size, some i.size, false⟩) H.length 0 (c + m) 0 c i.size (by unfold AN; omega) (by simp [upd_same]) (by simp [upd_same]) (by omega) (by simp [upd_same]; omega) (by simp [maxLen]; omega)
            simpa [upd_same, addr] using this
          · exact hout _ _ (.slx _ _ _ _ hbb g5 hnc) (by omega)
        | slf _ _ _ _ c' z hbb hp hfx q1 q2 q3 =>
          have hgs : g = some z := by rw [← g5]; exact hfx
          have hzi : z = i.size := by
            rcases hgz with h1 | h1
            · rw [hgs] at h1; cases h1
            · rw [hgs] at h1; exact Option.some.inj h1
          subst hzi
          by_cases hcc : n + m ≤ c'
          · have hmul : (n + m) * i.size ≤ c' * i.size := Nat.mul_le_mul_right _ hcc
            rw [Nat.add_mul] at hmul
            refine hin _ c' (hstore (by omega)) hcc (by omega) fun Hn hHn => ?_
            have := VR.slf (Pr := Pr) (A := AN Hn) (ρ := upd ρ H.length ⟨(ρ b).blk, (ρ b).base + o, c0.size, some i.size, false⟩) H.length 0 (n + m) 0 c' i.size (by unfold AN; omega) (by simp [upd_same]) (by simp [upd_same]) hcc (by simp [upd_same]; omega) q3
            simpa [upd_same, addr] using this
          · exact hout _ _ (.slf _ _ _ _ c' i.size hbb hp hfx q1 q2 q3) hcc
        | sl0 _ _ _ a hbb =>
          by_cases hm : m = 0
          · exact hnone hm rfl _ fun Hn x hHn => .sl0 _ _ _ _ (by unfold AN; omega)
          · exact hout _ _ (.sl0 _ _ _ a hbb) (by omega)
        | nl0 _ _ _ hbb =>
          by_cases hm : m = 0
          · exact hnone hm rfl _ fun Hn x hHn => .nl0 _ _ _ (by unfold AN; omega)
          · exact hout _ _ (.nl0 _ _ _ hbb) (by omega)
      · cases h
    · rename_i cs e' z hg
      split at h
      · rename_i hc
        obtain ⟨rfl, rfl⟩ := hc
        cases h
        obtain ⟨hle, hok⟩ := AllT.cons.1 hok
        obtain ⟨h0, hok⟩ := AllT.cons.1 hok
        obtain ⟨hnf, hok⟩ := AllT.cons.1 hok
        obtain ⟨hb, hok⟩ := AllT.cons.1 hok
        have hmx := (AllT.cons.1 hok).1
        have hle : o + n * i.size = cs.length := by simpa using hle
        have h0 : 0 < m := by simpa using h0
        have hb : (n + m) * i.bytes ≤ 140737488355328 := by simpa using hb
        have hmx : n + m ≤ 9223372036854775807 := by simpa using hmx
        have hlenk : (H.set b (some (.fro cs e' i.size))).length = H.length := by simp
        obtain ⟨hbA, hbo, hbq, hbf⟩ := hH.logR (.inl hg)
        have hofl : ((cs.drop o).take (n * i.size) ++ news).all flat = true := by
          rw [List.all_append, hnf, Bool.and_true]
          rw [List.all_eq_true] at hbf ⊢
          exact fun v hv => hbf v (List.mem_of_mem_drop (List.mem_of_mem_take hv))
        have hout : ∀ (a : Option Addr) (c' : Nat), VR Pr (AN H) ρ (.slice (some ⟨b, o, none⟩) n c) (.slice a n c') → ¬ n + m ≤ c' →
            Did E Pr ρ H w (Builtin.append_ #[t, u] ty #[.slice a n c', x']) (.slice (some ⟨H.length, 0, none⟩) (n + m) 0) (slot (H.set b (some (.fro cs e' i.size))) (.log ((cs.drop o).take (n * i.size) ++ news) e' i.size)) := by
          intro a c' hv hnc
          have hk := hH.freeze hg
          rw [← AN_set (H := H) (b := b) (o := some (.fro cs e' i.size))] at hk
          obtain ⟨olds', o0, o2, _, o4⟩ := cellsIn_sound (E := E) (size := i.size) (n := n) (x := .slice (some ⟨b, o, none⟩) n c) hH (by simp only [cellsIn, hg]; rfl) (by rw [AllT.cons]; exact ⟨by simp; omega, AllT.nil⟩) hv (.inl rfl)
          have hd2 := outL_sound (ty := ty) hk ht hu hd he hz (base := a) (n := n) (c := c') (olds := (cs.drop o).take (n * i.size)) (by rw [AN_set]; exact o2) (by rw [AN_set]; exact hn) o4 hnl hl hf2 (o0 w.drew rfl) hnc hmx hb hofl
          rw [hlenk] at hd2
          obtain ⟨v', w', ρ', q1, q2, q3, q4, q5⟩ := hd2
          exact ⟨v', w', ρ', q1, q2, q3, (by rw [AN_set] at q4; exact q4), (by rw [hlenk] at q5; exact q5.1), q5.2⟩
        obtain ⟨c0, fz, g1, g2, g3, g4, g5, g6, g7⟩ := id hbo
        cases hs with
        | slx _ _ _ _ hbb hfx hnc => rw [g5] at hfx; cases hfx
        | slf _ _ _ _ c' z hbb hp hfx q1 q2 q3 =>
          have hzi : z = i.size := by rw [g5] at hfx; exact (Option.some.inj hfx).symm
          subst hzi
          by_cases hcc : n + m ≤ c'
          · have hmul : (n + m) * i.size ≤ c' * i.size := Nat.mul_le_mul_right _ hcc
            rw [Nat.add_mul] at hmul
            have hfit : (ρ b).base + o + n * i.size + news'.length ≤ c0.size := by omega
            have hst := run_storeL E.P (ρ b).blk ((ρ b).base + o + n * i.size) e' fz news' 0 c0 w g1 (by omega) g4 hn1'
            have hst : ∃ w', (storeCells ((addr (ρ b) o).add (n * i.size)) news').run E.P w = .ok () w' ∧ w'.heap = w.heap.setIfInBounds (ρ b).blk (.cells (setN c0.toList ((ρ b).base + o + n * i.size) news').toArray e' fz) ∧ Kp w w' := by
              rw [addr, addr_add]
              simpa using hst
            obtain ⟨w', s1, s2, s3⟩ := hst
            refine ⟨_, w', upd ρ H.length ⟨(ρ b).blk, (ρ b).base + o, c0.size, some i.size, false⟩, run_append_in (ty := ty) ht hu hd he hl hf hcc s1, ?_, ?_, fun i hi => upd_old ρ _ _ hi, (by rw [slot_length, hlenk]; omega), s3⟩
            · rw [s2]
              exact hH.moveL hg hn hnf hle g1 (by rw [hn.length]; exact hfit)
            · have := VR.slf (Pr := Pr) (A := AN (slot (H.set b (some (.fro cs e' i.size))) (.log ((cs.drop o).take (n * i.size) ++ news) e' i.size))) (ρ := upd ρ H.length ⟨(ρ b).blk, (ρ b).base + o, c0.size, some i.size, false⟩) H.length 0 (n + m) 0 c' i.size (by unfold AN; rw [slot_length, hlenk]; omega) (by simp [upd_same]) (by simp [upd_same]) hcc (by simp [upd_same]; omega) q3
              simpa [upd_same, addr] using this
          · exact hout _ _ (.slf _ _ _ _ c' i.size hbb hp hfx q1 q2 q3) hcc
        | sl0 _ _ _ a hbb => exact hout _ _ (.sl0 _ _ _ a hbb) (by omega)
        | nl0 _ _ _ hbb => exact hout _ _ (.nl0 _ _ _ hbb) (by omega)
      · cases h
    · cases h
  · cases h

theorem append_sound {H : Heap} {w : World} (hH : HR Pr (AN H) ρ H w.heap) {t u ty : TypeId} {s s' x x' v : Value} {H' : Heap} {ok : List Bool} (h : appendOp E H t u s x = some (.val v H', ok)) (hok : AllT ok) (hs : VR Pr (AN H) ρ s s') (hx : VR Pr (AN H) ρ x x') :
    Did E Pr ρ H w (Builtin.append_ #[t, u] ty #[s', x']) v H' := by
  unfold appendOp at h
  split at h
  · rename_i e i d m he hu hl
    obtain ⟨ht, hei⟩ := elemT_spec he
    split at h
    · rename_i hd
      split at h
      · rename_i news ok1 hc
        split at h
        · rename_i hz
          unfold more at h
          split at h
          · rename_i nx ok2 ha
            cases h
            obtain ⟨k1, k2⟩ := AllT.app.1 hok
            obtain ⟨k0, k1⟩ := AllT.cons.1 k1
            obtain ⟨news', f1, f2, f3, f4⟩ := cellsIn_sound (E := E) hH hc k1 hx (.inl hl)
            exact append1_sound hH ht hu hd hei hz.1 hz.2 ha k2 hs f2 f4 k0 (f3 hl) (f1 w rfl) (f1 w.drew rfl)
          · cases h
        · cases h
      · cases h
    · cases h
  · cases h

end
end Go.Am
