/-
  The abstract machine: a call in a part of memory is the same call in all of it.
-/
import Derived.Test.YtabloimmlmgcbaaAmGo
set_option linter.unusedVariables false
set_option linter.unusedSimpArgs false
namespace Go.Am
open Classical

/-- The part's names in the whole: the blocks emb, then new ones behind all. -/
def toBig (emb : List Nat) (n N : Nat) : Nat → Option Nat := fun i =>
  match emb[i]? with
  | some b => some b
  | none => match decide (i < N) with
    | true => some (n + (i - emb.length))
    | false => none

def setAll : Heap → List Nat → Heap → Heap
  | H, b :: r, o :: s => setAll (H.set b o) r s
  | H, _, _ => H

/-- No row that is only appended to. -/
def plainO : Option Ob → Bool
  | some (.log _ _ _) => false
  | some (.fro _ _ _) => false
  | _ => true
def plainHp : Heap → Bool
  | [] => true
  | o :: r => plainO o && plainHp r
theorem plainHp_get : ∀ {H : Heap} {i : Nat} {ob : Ob}, plainHp H = true → getO H i = some ob → plainB ob = true
  | [], i, ob, _, h => by simp [getO] at h
  | o :: r, 0, ob, h, hi => by
    simp only [plainHp, Bool.and_eq_true] at h
    have hi : o = some ob := by
      simp only [getO, List.getElem?_cons_zero] at hi
      cases o with
      | none => cases hi
      | some o => cases hi; rfl
    subst hi
    cases ob <;> first | rfl | (have h1 := h.1; cases h1)
  | o :: r, i + 1, ob, h, hi => by
    simp only [plainHp, Bool.and_eq_true] at h
    exact plainHp_get (H := r) (i := i) h.2 (by simpa [getO] using hi)
/-- What the whole is behind a call in a part. -/
def backBig (E : Env) (emb : List Nat) (H : Heap) (v : Value) (Hs : Heap) : Option (List Bool × Value × Heap) :=
  match renV (toBig emb H.length Hs.length) 6 v, renH E (toBig emb H.length Hs.length) Hs (List.range Hs.length) with
  | some u, some (ok, L) => some (ok, u, setAll H emb (L.take emb.length) ++ L.drop emb.length)
  | _, _ => none

/-- A contract of a part: of the blocks that 'pick' names. -/
def inPart (E : Env) (pick : List Value → Heap → Option (List Nat)) (k : List Value → Heap → Option (List Bool × Value × Heap)) (args : List Value) (H : Heap) : Option (List Bool × Value × Heap) :=
  match pick args H with
  | some emb =>
    match nodup emb && emb.all (· < H.length), mapO (renV (toNew emb) 6) args, renH E (toNew emb) H emb with
    | true, some as, some (ok1, Hs) => match k as Hs with
      | some (ok2, v, Hs') => match decide (emb.length ≤ Hs'.length) && (plainHp Hs && plainHp Hs'), backBig E emb H v Hs' with
        | true, some (ok3, u, H') => some (ok1 ++ (ok2 ++ ok3), u, H')
        | _, _ => none
      | none => none
    | _, _, _ => none
  | none => none

theorem setAll_length : ∀ {l : List Nat} {H s : Heap}, (setAll H l s).length = H.length
  | [], H, s => by cases s <;> rfl
  | b :: r, H, [] => rfl
  | b :: r, H, o :: s => by rw [setAll, setAll_length, List.length_set]

theorem getO_setAll_other {j : Nat} : ∀ {l : List Nat} {H s : Heap}, j ∉ l → getO (setAll H l s) j = getO H j
  | [], H, s, _ => by cases s <;> rfl
  | b :: r, H, [], _ => rfl
  | b :: r, H, o :: s, h => by
    rw [setAll, getO_setAll_other (fun hj => h (List.mem_cons_of_mem _ hj)), getO_set_other (fun e => h (by rw [e]; simp))]

theorem getO_cons {H : Heap} {o : Option Ob} {i : Nat} : getO (o :: H) (i + 1) = getO H i := rfl

theorem getO_setAll_in {j : Nat} : ∀ {l : List Nat} {H s : Heap} {i : Nat}, nodup l = true → l[i]? = some j → j < H.length → s.length = l.length → getO (setAll H l s) j = getO s i
  | [], H, s, i, _, h, _, _ => by simp at h
  | b :: r, H, [], i, _, _, _, hs => by simp at hs
  | b :: r, H, o :: s, i, hn, h, hj, hs => by
    simp only [nodup, Bool.and_eq_true, Bool.not_eq_true'] at hn
    rw [setAll]
    cases i with
    | zero =>
      simp only [List.getElem?_cons_zero, Option.some.injEq] at h
      subst h
      rw [getO_setAll_other (by simpa using hn.1)]
      unfold getO
      rw [List.getElem?_set_self hj]
      cases o <;> rfl
    | succ i =>
      rw [getO_setAll_in hn.2 (by simpa using h) (by simpa using hj) (by simpa using hs)]
      rfl

theorem getO_append_right {H L : Heap} {i : Nat} : getO (H ++ L) (H.length + i) = getO L i := by
  unfold getO
  rw [List.getElem?_append_right (by omega)]
  congr 2; omega
theorem getO_append_left {H L : Heap} {i : Nat} (h : i < H.length) : getO (H ++ L) i = getO H i := by
  unfold getO
  rw [List.getElem?_append_left h]
theorem getO_drop {L : Heap} {n i : Nat} : getO (L.drop n) i = getO L (n + i) := by
  unfold getO
  rw [List.getElem?_drop]
theorem getO_take {L : Heap} {n i : Nat} (h : i < n) : getO (L.take n) i = getO L i := by
  unfold getO
  rw [List.getElem?_take_of_lt h]

theorem part_sound {E : Env} {g : FuncId} {args as : List Value} {H Hs Hs' H' : Heap} {v u : Value} {emb : List Nat} {ok1 ok3 : List Bool} (hn : nodup emb = true) (hlt : ∀ b ∈ emb, b < H.length) (ha : mapO (renV (toNew emb) 6) args = some as)
    (hHs : renH E (toNew emb) H emb = some (ok1, Hs)) (k1 : AllT ok1) (hp1 : plainHp Hs = true) (hp2 : plainHp Hs' = true) (hc : CallOk E g as Hs v Hs') (hle : emb.length ≤ Hs'.length) (hb : backBig E emb H v Hs' = some (ok3, u, H')) (k3 : AllT ok3) : CallOk E g args H u H' := by
  intro Pr ρ args' c cs w hH hargs
  have hsl := (renH_get hHs k1).1
  have hin : ∀ i b, emb[i]? = some b → b ∈ emb := fun i b h => List.mem_of_getElem? h
  -- what is outside the part stays
  obtain ⟨own, hH⟩ := hH
  classical
  let out : Nat → Prop := fun b => (∃ j, own b = some j ∧ j ∉ emb) ∨ (own b = none ∧ ∃ j cs e z, getO H j = some (.fro cs e z) ∧ (ρ j).blk = b)
  have hol : ∀ b, out b → b < w.heap.size ∧ Pr.keep b = none := by
    rintro b (⟨j, h1, _⟩ | ⟨_, j, cs, e, z, h1, rfl⟩)
    · exact hH.ow b j h1
    · exact ⟨hH.fr_lt h1, (hH.fr j cs e z h1).2.1⟩
  let Pr1 : Prot := ⟨fun b => if out b then w.heap[b]? else Pr.keep b, Pr.rd, fun b o h => by
    have h1 := Pr.sub b o h
    by_cases hb : out b
    · rw [if_pos hb]; exact hH.pr b o h1
    · rw [if_neg hb]; exact h1⟩
  have hS : HR Pr1 (AN Hs) (back' ρ emb) Hs w.heap := by
    obtain ⟨own1, h⟩ := hH.ren1 hn hHs k1
    obtain ⟨h, hsub⟩ := h
    refine ⟨own1, fun b o hbo => ?_, h.nm, fun i ob hi hf => ?_, fun i cs e z hi => (by have := plainHp_get hp1 hi; cases this), fun b i hb => ?_⟩
    · by_cases hb : out b
      · have : (if out b then w.heap[b]? else Pr.keep b) = some o := hbo
        rw [if_pos hb] at this; exact this
      · have : (if out b then w.heap[b]? else Pr.keep b) = some o := hbo
        rw [if_neg hb] at this; exact hH.pr b o this
    · rcases h.ob i ob hi hf with h1 | ⟨h1, h2, h3⟩
      · exact .inl h1
      · exact .inr ⟨h1, h2.mono (Pr := Pr) (Pr' := Pr1) (fun _ _ h => h) (fun _ h => h) (fun _ _ => rfl) (fun _ h => h) (fun _ _ => rfl) h3, h3⟩
    · obtain ⟨h1, h2⟩ := h.ow b i hb
      refine ⟨h1, ?_⟩
      show (if out b then _ else _) = none
      rw [if_neg]
      · exact h2
      obtain ⟨i', hi', hin'⟩ := hsub b i hb
      rintro (⟨j, hj, hje⟩ | ⟨hj, _⟩)
      · rw [hj] at hi'
        cases hi'
        exact hje (hin _ _ hin')
      · rw [hj] at hi'; cases hi'
  have hA1 : VL Pr1 (AN Hs) (back' ρ emb) as args' := by
    have hm := toNew_ok (A' := AN Hs) (ρ := ρ) (l := emb) (fun j hj => by unfold AN; omega)
    exact (mapO_sound (renV_sound hm 6) ha hargs).mono (Pr := Pr) (Pr' := Pr1) (fun _ _ h => h) (fun _ h => h) (fun _ _ => rfl)
  obtain ⟨ρ1, v', w', s1, hH1, hv1, hag, hlen1, kp1⟩ := hc Pr1 (back' ρ emb) args' c cs w hS hA1
  unfold backBig at hb
  split at hb
  case h_2 => cases hb
  rename_i u0 ok0 L hu hL
  cases hb
  obtain ⟨hLl, hLg⟩ := renH_get hL k3
  have hLl : L.length = Hs'.length := by simpa using hLl
  let ρ2 : Nat → Nm := fun j => if j < H.length then ρ j else ρ1 (j - H.length + emb.length)
  have hH'l : (setAll H emb (L.take emb.length) ++ L.drop emb.length).length = H.length + (Hs'.length - emb.length) := by
    rw [List.length_append, setAll_length, List.length_drop, hLl]
  have hembl : ∀ i b, emb[i]? = some b → i < emb.length := fun i b h => (List.getElem?_eq_some_iff.1 h).1
  have hm2 : ∀ i j, toBig emb H.length Hs'.length i = some j → AN (setAll H emb (L.take emb.length) ++ L.drop emb.length) j ∧ ρ2 j = ρ1 i := by
    intro i j hij
    unfold toBig at hij
    split at hij
    · rename_i b hbi
      cases hij
      have hbl := hlt j (hin i j hbi)
      have hil := hembl i j hbi
      refine ⟨by unfold AN; omega, ?_⟩
      show (if j < H.length then _ else _) = _
      rw [if_pos hbl, hag i (by unfold AN; omega)]
      unfold back'
      rw [List.getD_eq_getElem?_getD, hbi]
      rfl
    · rename_i hbi
      split at hij
      · rename_i hd
        cases hij
        have hd : i < Hs'.length := by simpa using hd
        have hil : emb.length ≤ i := by
          rcases Nat.lt_or_ge i emb.length with h | h
          · rw [List.getElem?_eq_getElem h] at hbi; cases hbi
          · exact h
        refine ⟨by unfold AN; omega, ?_⟩
        show (if H.length + (i - emb.length) < H.length then _ else _) = _
        rw [if_neg (by omega)]
        congr 1; omega
      · cases hij
  -- every block is one of the whole, outside the part, or one of the part
  have hcase : ∀ j ob', getO (setAll H emb (L.take emb.length) ++ L.drop emb.length) j = some ob' → (j < H.length ∧ j ∉ emb ∧ getO H j = some ob' ∧ ρ2 j = ρ j) ∨
      ∃ i ob ok', toBig emb H.length Hs'.length i = some j ∧ getO Hs' i = some ob ∧ renOb E (toBig emb H.length Hs'.length) ob = some (ok', ob') ∧ AllT ok' := by
    intro j ob' hj
    have hsmall : ∀ i, i < Hs'.length → getO L i = some ob' → ∃ ob ok', getO Hs' i = some ob ∧ renOb E (toBig emb H.length Hs'.length) ob = some (ok', ob') ∧ AllT ok' := by
      intro i hi hLi
      rcases hLg i i (by simp [hi]) with ⟨_, q⟩ | ⟨ob, ob2, ok', q1, q2, q3⟩
      · rw [q] at hLi; cases hLi
      · rw [q2] at hLi
        cases hLi
        exact ⟨ob, ok', q1, q3⟩
    rcases Nat.lt_or_ge j H.length with hjl | hjl
    · rw [getO_append_left (by rw [setAll_length]; exact hjl)] at hj
      by_cases hje : j ∈ emb
      · obtain ⟨i, hi, hij⟩ := List.getElem_of_mem hje
        have hij : emb[i]? = some j := by rw [List.getElem?_eq_getElem hi, hij]
        rw [getO_setAll_in hn hij hjl (by rw [List.length_take, hLl]; omega), getO_take hi] at hj
        obtain ⟨ob, ok', q1, q2, q3⟩ := hsmall i (by omega) hj
        exact .inr ⟨i, ob, ok', by unfold toBig; rw [hij], q1, q2, q3⟩
      · rw [getO_setAll_other hje] at hj
        exact .inl ⟨hjl, hje, hj, by show (if j < H.length then _ else _) = _; rw [if_pos hjl]⟩
    · obtain ⟨k, rfl⟩ : ∃ k, j = H.length + k := ⟨j - H.length, by omega⟩
      have hl2 := setAll_length (l := emb) (H := H) (s := L.take emb.length)
      have hj2 : getO L (emb.length + k) = some ob' := by
        rw [← getO_drop, ← hj]
        have := getO_append_right (H := setAll H emb (L.take emb.length)) (L := L.drop emb.length) (i := k)
        rw [hl2] at this
        exact this.symm
      have hk := getO_lt hj2
      obtain ⟨ob, ok', q1, q2, q3⟩ := hsmall _ (by omega) hj2
      refine .inr ⟨emb.length + k, ob, ok', ?_, q1, q2, q3⟩
      unfold toBig
      rw [List.getElem?_eq_none (by omega)]
      have : decide (emb.length + k < Hs'.length) = true := by simp; omega
      simp only [this]
      congr 1; omega
  have hnot : ∀ b, Pr1.keep b = none → ¬ out b ∧ Pr.keep b = none := by
    intro b hb
    have hb : (if out b then w.heap[b]? else Pr.keep b) = none := hb
    by_cases ho : out b
    · rw [if_pos ho] at hb
      rw [Array.getElem?_eq_getElem (hol b ho).1] at hb
      cases hb
    · rw [if_neg ho] at hb
      exact ⟨ho, hb⟩
  have hinj : ∀ i i' j, toBig emb H.length Hs'.length i = some j → toBig emb H.length Hs'.length i' = some j → i = i' := by
    intro i i' j h1 h2
    unfold toBig at h1 h2
    split at h1
    · rename_i b hbi
      cases h1
      have hbl := hlt _ (hin i _ hbi)
      split at h2
      · rename_i b' hbi'
        cases h2
        exact nodup_inj hn i i' _ hbi hbi'
      · split at h2
        · cases h2; omega
        · cases h2
    · rename_i hbi
      have hi : emb.length ≤ i := by
        rcases Nat.lt_or_ge i emb.length with h | h
        · rw [List.getElem?_eq_getElem h] at hbi; cases hbi
        · exact h
      split at h1
      · cases h1
        split at h2
        · rename_i b' hbi'
          cases h2
          have := hlt _ (hin i' _ hbi')
          omega
        · rename_i hbi'
          have hi' : emb.length ≤ i' := by
            rcases Nat.lt_or_ge i' emb.length with h | h
            · rw [List.getElem?_eq_getElem h] at hbi'; cases hbi'
            · exact h
          split at h2
          · simp only [Option.some.injEq] at h2; omega
          · cases h2
      · cases h1
  obtain ⟨own1, hH1⟩ := hH1
  have hkeep : ∀ b, out b → b < w.heap.size → w'.heap[b]? = w.heap[b]? := fun b ho hb => by
    rw [Array.getElem?_eq_getElem hb]
    refine hH1.pr _ _ ?_
    show (if out _ then _ else _) = _
    rw [if_pos ho, Array.getElem?_eq_getElem hb]
  refine ⟨ρ2, v', w', s1, ⟨fun b => if out b then own b else (own1 b).bind (toBig emb H.length Hs'.length), fun b o hbo => ?_, fun j ob hj => getO_lt hj, fun j ob' hj hf => ?_, fun j cs e z hj => ?_, fun b j hb => ?_⟩, ?_, fun i hi => ?_, by rw [hH'l]; omega, kp1⟩
  · have h1 := hH.pr b o hbo
    refine hH1.pr b o ?_
    show (if out b then w.heap[b]? else Pr.keep b) = some o
    by_cases ho : out b
    · rw [if_pos ho]; exact h1
    · rw [if_neg ho]; exact hbo
  · rcases hcase j ob' hj with ⟨q1, q2, q3, q4⟩ | ⟨i, ob, ok', q1, q2, q3, q4⟩
    · rw [q4]
      rcases hH.ob j ob' q3 hf with g | ⟨g1, g2, g3⟩
      · exact .inl g
      · have hm : ∀ b, own b = some j → (if out b then own b else (own1 b).bind (toBig emb H.length Hs'.length)) = some j := fun b hb => by rw [if_pos (.inl ⟨j, hb, q2⟩ : out b)]; exact hb
        exact .inr ⟨g1, g2.mono (fun _ _ h => h) (fun i hi => by unfold AN at *; omega) (fun i hi => by have hi : i < H.length := hi; show (if i < H.length then _ else _) = _; rw [if_pos hi]) hm (fun b hb => hkeep b (.inl ⟨j, hb, q2⟩) (hH.ow _ _ hb).1) g3, hm _ g3⟩
    · obtain ⟨p1, p2⟩ := hm2 i j q1
      rw [p2]
      have hm : ∀ b, own1 b = some i → (if out b then own b else (own1 b).bind (toBig emb H.length Hs'.length)) = some j := fun b hb => by
        rw [if_neg (hnot b (hH1.ow b i hb).2).1, hb]; exact q1
      rcases hH1.ob i ob q2 (plainB_fro (plainHp_get hp2 q2)) with g | ⟨g1, g2, g3⟩
      · exact .inl (renOb_ph q3 g)
      · refine .inr ⟨g1, ?_, hm _ g3⟩
        rcases g2 with g2 | ⟨J, rfl, g2⟩
        · exact .inl ((renOb_sound hm2 q3 q4 g2).mono (Pr := Pr1) (Pr' := Pr) (fun _ _ h => h) (fun _ h => h) (fun _ _ => rfl) rfl)
        · rw [renOb_obj q3]
          exact .inr ⟨J, rfl, g2.mono (Pr := Pr1) (Pr' := Pr) (fun _ _ h => h) hm (fun _ _ => rfl)⟩
  · rcases hcase j _ hj with ⟨q1, q2, q3, q4⟩ | ⟨i, ob, ok', q1, q2, q3, q4⟩
    · have hlogs : ∀ k, own (ρ j).blk = some k → k ∉ emb := by
        intro k hk hke
        obtain ⟨cj, ej, zj, w1, _⟩ := (hH.fr j cs e z q3).2.2.2.2 k hk
        obtain ⟨i, hi, hik⟩ := List.getElem_of_mem hke
        have hik : emb[i]? = some k := by rw [List.getElem?_eq_getElem hi, hik]
        rcases (renH_get hHs k1).2 i k hik with ⟨w3, _⟩ | ⟨ob, ob2, ok2, w3, w4, w5, _⟩
        · rw [w1] at w3; cases w3
        · rw [w1] at w3
          cases w3
          cases w5
          have := plainHp_get hp1 w4
          cases this
      have hob : out (ρ j).blk := by
        cases ho : own (ρ j).blk with
        | none => exact .inr ⟨ho, j, cs, e, z, q3, rfl⟩
        | some k => exact .inl ⟨k, ho, hlogs k ho⟩
      refine hH.fr_keep (fun i hi => by unfold AN at *; omega) (fun i hi => by have hi : i < H.length := hi; show (if i < H.length then _ else _) = _; rw [if_pos hi]) q3 (hkeep _ hob (hol _ hob).1) (fun k hk => ?_)
      have hk : (if out (ρ j).blk then own (ρ j).blk else (own1 (ρ j).blk).bind (toBig emb H.length Hs'.length)) = some k := hk
      rw [if_pos hob] at hk
      refine ⟨hk, fun cj ej zj w1 => ?_⟩
      have hkl := getO_lt w1
      rw [getO_append_left (by rw [setAll_length]; exact hkl), getO_setAll_other (hlogs k hk)]
      exact w1
    · have e1 := renOb_fro q3
      subst e1
      have := plainHp_get hp2 q2
      cases this
  · have hb : (if out b then own b else (own1 b).bind (toBig emb H.length Hs'.length)) = some j := hb
    by_cases ho : out b
    · rw [if_pos ho] at hb
      obtain ⟨h1, h2⟩ := hH.ow b j hb
      have := hkeep b ho h1
      rw [Array.getElem?_eq_getElem h1] at this
      exact ⟨(Array.getElem?_eq_some_iff.1 this).1, h2⟩
    · rw [if_neg ho] at hb
      cases hi : own1 b with
      | none => rw [hi] at hb; cases hb
      | some i =>
        obtain ⟨h1, h2⟩ := hH1.ow b i hi
        exact ⟨h1, (hnot b h2).2⟩
  · exact (renV_sound hm2 6 _ _ _ hu hv1).mono (Pr := Pr1) (Pr' := Pr) (fun _ _ h => h) (fun _ h => h) (fun _ _ => rfl)
  · have hi : i < H.length := hi
    show (if i < H.length then _ else _) = _
    rw [if_pos hi]

theorem inPart_ok {E : Env} {g : FuncId} {pick : List Value → Heap → Option (List Nat)} {k : List Value → Heap → Option (List Bool × Value × Heap)} (hk : ∀ args H ok v H', k args H = some (ok, v, H') → AllT ok → CallOk E g args H v H')
    {args : List Value} {H H' : Heap} {ok : List Bool} {v : Value} (h : inPart E pick k args H = some (ok, v, H')) (hok : AllT ok) : CallOk E g args H v H' := by
  unfold inPart at h
  split at h
  case h_2 => cases h
  rename_i emb hp
  split at h
  case h_2 => cases h
  rename_i as ok1 Hs hnd ha hHs
  split at h
  case h_2 => cases h
  rename_i ok2 v1 Hs' hkk
  split at h
  case h_2 => cases h
  rename_i ok3 u H2 hle hb
  cases h
  obtain ⟨k1, k2⟩ := AllT.app.1 hok
  obtain ⟨k2, k3⟩ := AllT.app.1 k2
  simp only [Bool.and_eq_true] at hnd
  exact part_sound hnd.1 (fun b hb => by simpa using List.all_eq_true.1 hnd.2 b hb) ha hHs k1 (by simp only [Bool.and_eq_true] at hle; exact hle.2.1) (by simp only [Bool.and_eq_true] at hle; exact hle.2.2) (hk _ _ _ _ _ hkk k2) (by simp only [Bool.and_eq_true] at hle; simpa using hle.1) hb k3
/-- A contract that asks, of a part. -/
def inPartD (E : Env) (pick : List Value → Heap → Option (List Nat)) (k : List Value → Heap → KRes) (args : List Value) (H : Heap) : Option KRes :=
  match pick args H with
  | some emb =>
    match nodup emb && emb.all (· < H.length), mapO (renV (toNew emb) 6) args, renH E (toNew emb) H emb with
    | true, some as, some (ok1, Hs) => some fun orc => match k as Hs orc with
      | some (lg, ok2, orc', v, Hs') => match decide (emb.length ≤ Hs'.length) && (plainHp Hs && plainHp Hs'), backBig E emb H v Hs' with
        | true, some (ok3, u, H') => some (lg, ok1 ++ (ok2 ++ ok3), orc', u, H')
        | _, _ => none
      | none => none
    | _, _, _ => none
  | none => none
theorem inPartD_ok {E : Env} {g : FuncId} {pick : List Value → Heap → Option (List Nat)} {k : List Value → Heap → KRes} (hk : ∀ args H orc lg ok orc' v H', k args H orc = some (lg, ok, orc', v, H') → AllT ok → CallOk E g args H v H')
    {args : List Value} {H H' : Heap} {f : KRes} {orc orc' : Option (List Bool)} {lg ok : List Bool} {v : Value} (h : inPartD E pick k args H = some f) (hf : f orc = some (lg, ok, orc', v, H')) (hok : AllT ok) : CallOk E g args H v H' := by
  unfold inPartD at h
  split at h
  case h_2 => cases h
  rename_i emb hp
  split at h
  case h_2 => cases h
  rename_i as ok1 Hs hnd ha hHs
  cases h
  dsimp only at hf
  split at hf
  case h_2 => cases hf
  rename_i lg2 ok2 orc2 v1 Hs' hkk
  split at hf
  case h_2 => cases hf
  rename_i ok3 u H2 hle hb
  cases hf
  obtain ⟨k1, k2⟩ := AllT.app.1 hok
  obtain ⟨k2, k3⟩ := AllT.app.1 k2
  simp only [Bool.and_eq_true] at hnd
  exact part_sound hnd.1 (fun b hb => by simpa using List.all_eq_true.1 hnd.2 b hb) ha hHs k1 (by simp only [Bool.and_eq_true] at hle; exact hle.2.1) (by simp only [Bool.and_eq_true] at hle; exact hle.2.2) (hk _ _ _ _ _ _ _ _ hkk k2) (by simp only [Bool.and_eq_true] at hle; simpa using hle.1) hb k3
end Go.Am
