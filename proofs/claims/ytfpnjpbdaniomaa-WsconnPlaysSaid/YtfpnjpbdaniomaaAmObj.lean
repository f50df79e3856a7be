/-
  The abstract machine: packed blocks: a small memory of its own behind one name. What a function does to that memory, it does to the packed one.
-/
import Derived.Test.YtfpnjpbdaniomaaAmSlim
set_option linter.unusedVariables false
set_option linter.unusedSimpArgs false
namespace Go.Am

theorem HR.empty {Pr : Prot} {ρ : Nat → Nm} {hp : Array Obj} (h : ∀ b o, Pr.keep b = some o → hp[b]? = some o) : HR Pr (AN []) ρ [] hp := by
 refine ⟨fun _ => none, h, fun i ob h => ?_, fun i ob h => ?_, fun b i h => ?_⟩
 ·simp [getO] at h
 ·simp [getO] at h
 ·cases h
def plainV : Nat → Value → Bool
 | 0, _ => false
 | d + 1, v => match v with
  | .agg cs => cs.toList.all (plainV d)
  | .tuple cs => cs.toList.all (plainV d)
  | v => flat v
def argO (v : Value) : Bool :=
 match v with
 | .pointer (some ⟨0, 0, none⟩) => true
 | .iface _ (.agg _) => true
 | v => plainV 3 v
def noObj : Heap → Bool
 | [] => true
 | some (.obj _) :: _ => false
 | _ :: r => noObj r
def rootO : Heap → Bool
 | some (.cells _ _ none) :: _ => true
 | _ => false

section
variable {Pr : Prot} {A A' : Nat → Prop} {ρ ρ' : Nat → Nm}
theorem VR.plain : ∀ {d : Nat} {v v' : Value}, plainV d v = true → VR Pr A ρ v v' → VR Pr A' ρ' v v'
 | 0, v, v', h, _ => by cases h
 | d + 1, v, v', h, hv => by
  unfold plainV at h
  split at h
  ·obtain ⟨cs', rfl, hl⟩ := hv.aggInv
   cases hv with
   | agg _ _ h1 h2 =>
    refine .agg _ _ h1 fun k hk => VR.plain (d := d) ?_ (h2 k hk)
    rw [List.all_eq_true] at h
    refine h _ ?_
    rw [Array.getD_eq_getD_getElem?, Array.getElem?_eq_getElem hk]
    simp
  ·obtain ⟨cs', rfl, hl⟩ := hv.tupInv
   cases hv with
   | tup _ _ h1 h2 =>
    refine .tup _ _ h1 fun k hk => VR.plain (d := d) ?_ (h2 k hk)
    rw [List.all_eq_true] at h
    refine h _ ?_
    rw [Array.getD_eq_getD_getElem?, Array.getElem?_eq_getElem hk]
    simp
  ·have := VR.flatEq h hv
   subst this
   exact VR.flat h
theorem VR.argO {σ : Nat → Nm} {v v' : Value} (h : argO v = true) (hA : A' 0) (hs : addr (σ 0) 0 = addr (ρ 0) 0) (hv : VR Pr A ρ v v') : VR Pr A' σ v v' := by
 unfold Am.argO at h
 split at h
 ·cases hv
  rw [← hs]
  exact .ptr 0 0 hA
 ·cases hv with
  | rov _ _ b o c' f hn h1 h2 => exact .rov _ _ b o c' f hn h1 h2
  | rov0 _ a c' h => exact .rov0 _ a c' h
 ·exact VR.plain h hv
theorem VL.argO {σ : Nat → Nm} {l l' : List Value} (hA : A' 0) (hs : addr (σ 0) 0 = addr (ρ 0) 0) (hv : VL Pr A ρ l l') (h : l.all Am.argO = true) : VL Pr A' σ l l' := by
 induction hv with
 | nil => exact .nil
 | cons h1 _ ih =>
  simp only [List.all_cons, Bool.and_eq_true] at h
  exact .cons (h1.argO h.1 hA hs) (ih h.2)
theorem getO_noObj : ∀ {H : Heap} {i : Nat} {ob : Ob}, noObj H = true → getO H i = some ob → ∀ J, ob ≠ .obj J
 | [], i, ob, _, hi, J => by simp [getO] at hi
 | o :: r, 0, ob, h, hi, J => by
  cases o with
  | none => simp [getO] at hi
  | some o =>
   simp only [getO, List.getElem?_cons_zero, Option.some.injEq] at hi
   subst hi
   rintro rfl
   cases h
 | o :: r, i + 1, ob, h, hi, J => by
  have hr : noObj r = true := by
   cases o with
   | none => exact h
   | some o => cases o <;> first | exact h | cases h
  exact getO_noObj (H := r) (i := i) hr (by simpa [getO] using hi) J
theorem rootO_get {H : Heap} (h : rootO H = true) : ∃ cs e, getO H 0 = some (.cells cs e none) := by
 unfold rootO at h
 split at h
 ·exact ⟨_, _, rfl⟩
 ·cases h
theorem HR.pack {J : Heap} {hp : Array Obj} (h : HR Pr (AN J) ρ J hp) (hr : rootO J = true) (hn : noObj J = true) (x : Nm) (hx : x.blk = (ρ 0).blk) (hb : x.base = 0) (hxp : x.ph = false) (h0 : ρ' 0 = x) : HR Pr (AN [some (.obj J)]) ρ' [some (.obj J)] hp := by
 obtain ⟨own, h⟩ := h
 obtain ⟨cs, e, h1⟩ := rootO_get hr
 have hroot : (ρ 0).ph = false := by
  rcases h.ob 0 _ h1 with ⟨_, _, _, g, _⟩ | ⟨g, _⟩
  ·cases g
  ·exact g
 obtain ⟨ho, _⟩ := h.blk_lt h1 hroot
 have hcase : ∀ i ob, getO [some (.obj J)] i = some ob → i = 0 ∧ ob = .obj J := by
  intro i ob hi
  cases i with
  | zero =>
   simp only [getO, List.getElem?_cons_zero, Option.some.injEq] at hi
   exact ⟨rfl, hi.symm⟩
  | succ i => simp [getO] at hi
 refine ⟨fun b => (own b).map fun _ => 0, h.pr, fun i ob hi => getO_lt hi, fun i ob hi => ?_, fun b i hbi => ?_⟩
 ·obtain ⟨rfl, rfl⟩ := hcase i ob hi
  rw [h0]
  refine .inr ⟨hxp, .inr ⟨J, rfl, ρ, ⟨cs, e, h1⟩, hx.symm, hb, fun k ob hk => ?_, h.sp⟩, ?_⟩
  ·rcases h.ob k ob hk with g | ⟨g1, g2, g3⟩
   ·exact .inl g
   ·refine .inr ⟨g1, ?_, ?_⟩
    ·rcases g2 with g2 | ⟨J', hj, _⟩
     ·exact g2
     ·exact absurd hj (getO_noObj hn hk J')
    ·show (own (ρ k).blk).map (fun _ => 0) = some 0
     rw [g3]; rfl
  ·show (own x.blk).map (fun _ => 0) = some 0
   rw [hx, ho]; rfl
 ·have hbi : (own b).map (fun _ => 0) = some i := hbi
  cases hob : own b with
  | none => rw [hob] at hbi; cases hbi
  | some j => exact h.ow b j hob
theorem HR.unpack {J : Heap} {hp : Array Obj} (h : HR Pr (AN [some (.obj J)]) ρ [some (.obj J)] hp) : ∃ σ, HR Pr (AN J) σ J hp ∧ addr (σ 0) 0 = addr (ρ 0) 0 ∧ (ρ 0).ph = false ∧ (ρ 0).base = 0 ∧ 0 < J.length := by
 obtain ⟨own, h⟩ := h
 have hg : getO [some (.obj J)] 0 = some (.obj J) := rfl
 rcases h.ob 0 _ hg with ⟨_, _, _, g, _⟩ | ⟨hph, g, hown⟩
 ·cases g
 rcases g with g | ⟨J', hj, σ, ⟨cs, e, k1⟩, k2, k3, k4, k5⟩
 ·exact absurd g id
 cases hj
 have hlen := getO_lt k1
 classical
 let own1 : Nat → Option Nat := fun b => if h : ∃ k, (∃ ob, getO J k = some ob) ∧ (σ k).ph = false ∧ (σ k).blk = b then some h.choose else none
 have h1 : ∀ k ob, getO J k = some ob → (σ k).ph = false → own1 (σ k).blk = some k := by
  intro k ob hk hp
  have hex : ∃ j, (∃ ob, getO J j = some ob) ∧ (σ j).ph = false ∧ (σ j).blk = (σ k).blk := ⟨k, ⟨ob, hk⟩, hp, rfl⟩
  have he : own1 (σ k).blk = some hex.choose := dif_pos hex
  rw [he]
  obtain ⟨⟨ob2, q1⟩, q2, q3⟩ := hex.choose_spec
  congr 1
  exact Classical.byContradiction fun hne => k5 _ _ _ _ q1 hk hne q2 hp q3
 refine ⟨σ, ⟨own1, h.pr, fun i ob hi => getO_lt hi, fun k ob hk => ?_, fun b k hb => ?_⟩, ?_, hph, k3, hlen⟩
 ·rcases k4 k ob hk with g | ⟨g1, g2, g3⟩
  ·exact .inl g
  ·exact .inr ⟨g1, .inl g2, h1 k ob hk g1⟩
 ·have hb : (if h : ∃ k, (∃ ob, getO J k = some ob) ∧ (σ k).ph = false ∧ (σ k).blk = b then some h.choose else none) = some k := hb
  by_cases hex : ∃ k, (∃ ob, getO J k = some ob) ∧ (σ k).ph = false ∧ (σ k).blk = b
  ·obtain ⟨j, ⟨ob, q1⟩, q2, q3⟩ := hex
   rcases k4 j ob q1 with ⟨g, _⟩ | ⟨_, _, g3⟩
   ·rw [q2] at g; cases g
   ·rw [← q3]
    exact h.ow _ 0 g3
  ·rw [dif_neg hex] at hb; cases hb
 ·rcases k4 0 _ k1 with ⟨_, _, _, g, _⟩ | ⟨_, g, _⟩
  ·cases g
  ·obtain ⟨c, fz, q1, q2, q3, q4, q5, q6, q7⟩ := g
   unfold addr
   rw [k2, (q6 rfl).1, k3]
end

theorem callOk_obj {E : Env} {g : FuncId} {J J2 J3 : Heap} {args : List Value} {v : Value} {l : List Nat} {ok : List Bool} (h : CallOk E g args J v J2) (ha : args.all argO = true) (hv : plainV 3 v = true)
  (hn : nodup l = true) (hr : renH E (toNew l) J2 l = some (ok, J3)) (hok : AllT ok) (h0 : l.getD 0 0 = 0) (hroot : rootO J3 = true) (hno : noObj J3 = true) : CallOk E g args [some (.obj J)] v [some (.obj J3)] := by
 intro Pr ρ args' c cs w hH hargs
 obtain ⟨σ, hJ, hs, hph, hb, hlen⟩ := hH.unpack
 have hargs1 := VL.argO (A' := AN J) (σ := σ) hlen hs hargs ha
 obtain ⟨ρ1, v', w', s1, hH1, hv1, hag, hl1, kp1⟩ := h Pr σ args' c cs w hJ hargs1
 have hH3 := hH1.ren hn hr hok
 have hblk : (ρ 0).blk = (back' ρ1 l 0).blk := by
  unfold back'
  rw [h0, hag 0 hlen]
  unfold addr at hs
  exact (Addr.mk.inj hs).1.symm
 exact ⟨ρ, v', w', s1, hH3.pack hroot hno (ρ 0) hblk hb hph rfl, VR.plain hv hv1, fun _ _ => rfl, Nat.le_refl _, kp1⟩

theorem callOk_newObj {E : Env} {g : FuncId} {J : Heap} {args : List Value} {v : Value} (h : CallOk E g args [] v J) (hv : renV (toNew [0]) 6 v = some v) (hroot : rootO J = true) (hno : noObj J = true) : CallOk E g args [] v [some (.obj J)] := by
 intro Pr ρ args' c cs w hH hargs
 obtain ⟨ρ1, v', w', s1, hH1, hv1, hag, hl1, kp1⟩ := h Pr ρ args' c cs w hH hargs
 obtain ⟨cs1, e1, h1⟩ := rootO_get hroot
 obtain ⟨_, hc, _, hph⟩ := hH1.realC h1 (.inl rfl)
 obtain ⟨c1, fz, q1, q2, q3, q4, q5, q6, q7⟩ := hc
 have hm : ∀ i j, toNew [0] i = some j → AN [some (Ob.obj J)] j ∧ ρ1 j = ρ1 i := by
  intro i j hij
  unfold toNew place at hij
  split at hij
  ·rename_i hi
   cases hij
   subst hi
   exact ⟨Nat.zero_lt_one, rfl⟩
  ·cases hij
 refine ⟨ρ1, v', w', s1, hH1.pack hroot hno (ρ1 0) rfl (q6 rfl).1 hph rfl, renV_sound hm 6 _ _ _ hv hv1, fun i hi => ?_, by simp, kp1⟩
 exact hag i hi
end Go.Am

namespace Go.Am
def fillH : Heap → Heap → Heap
 | [], _ => []
 | H, [] => H
 | some o :: r, _ :: x => some o :: fillH r x
 | none :: r, y :: x => y :: fillH r x
def apart : Heap → Heap → Bool
 | _, [] => true
 | [], _ :: _ => false
 | some _ :: r, none :: x => apart r x
 | some _ :: _, some _ :: _ => false
 | none :: r, _ :: x => apart r x
theorem fillH_length : ∀ (H X : Heap), (fillH H X).length = H.length
 | [], X => rfl
 | _ :: _, [] => rfl
 | some o :: r, _ :: x => by simp [fillH, fillH_length r x]
 | none :: r, y :: x => by simp [fillH, fillH_length r x]
theorem getO_succ (o : Option Ob) (H : Heap) (i : Nat) : getO (o :: H) (i + 1) = getO H i := by simp [getO]
theorem getO_fill : ∀ {H X : Heap} {i : Nat} {ob : Ob}, getO (fillH H X) i = some ob → getO H i = some ob ∨ (getO X i = some ob ∧ getO H i = none)
 | [], X, i, ob, h => by simp [fillH, getO] at h
 | o :: r, [], i, ob, h => .inl h
 | some o :: r, _ :: x, 0, ob, h => .inl h
 | some o :: r, _ :: x, i + 1, ob, h => by
  rw [getO_succ, getO_succ]
  exact getO_fill (H := r) (X := x) (i := i) h
 | none :: r, y :: x, 0, ob, h => .inr ⟨h, rfl⟩
 | none :: r, y :: x, i + 1, ob, h => by
  rw [getO_succ, getO_succ]
  exact getO_fill (H := r) (X := x) (i := i) h
theorem fill_get : ∀ {H X : Heap} {i : Nat} {ob : Ob}, getO H i = some ob → getO (fillH H X) i = some ob
 | [], X, i, ob, h => by simp [getO] at h
 | o :: r, [], i, ob, h => h
 | some o :: r, _ :: x, 0, ob, h => h
 | some o :: r, _ :: x, i + 1, ob, h => fill_get (H := r) (X := x) (i := i) (by rw [getO_succ] at h; exact h)
 | none :: r, y :: x, 0, ob, h => by simp [getO] at h
 | none :: r, y :: x, i + 1, ob, h => fill_get (H := r) (X := x) (i := i) (by rw [getO_succ] at h; exact h)
theorem fill_get2 : ∀ {H X : Heap} {i : Nat} {ob : Ob}, apart H X = true → getO X i = some ob → getO (fillH H X) i = some ob ∧ getO H i = none ∧ i < H.length
 | H, [], i, ob, _, h => by simp [getO] at h
 | [], _ :: _, i, ob, h, _ => by cases h
 | some o :: r, none :: x, 0, ob, _, h => by simp [getO] at h
 | some o :: r, none :: x, i + 1, ob, ha, h => by
  rw [getO_succ] at h
  obtain ⟨h1, h2, h3⟩ := fill_get2 (H := r) (X := x) ha h
  exact ⟨h1, by rw [getO_succ]; exact h2, by simp; omega⟩
 | some o :: r, some _ :: x, i, ob, ha, h => by cases ha
 | none :: r, y :: x, 0, ob, ha, h => ⟨h, rfl, by simp⟩
 | none :: r, y :: x, i + 1, ob, ha, h => by
  rw [getO_succ] at h
  obtain ⟨h1, h2, h3⟩ := fill_get2 (H := r) (X := x) ha h
  exact ⟨h1, by rw [getO_succ]; exact h2, by simp; omega⟩
theorem callOk_fill {E : Env} {g : FuncId} {args : List Value} {H H' X : Heap} {v : Value} (h : CallOk E g args H v H') (ha : apart H X = true) (ha' : apart H' X = true) : CallOk E g args (fillH H X) v (fillH H' X) := by
 intro Pr ρ args' c cs w hH hargs
 have hAN : ∀ i, AN H i → AN (fillH H X) i := fun i hi => by unfold AN at *; rw [fillH_length]; exact hi
 have hAN2 : ∀ i, AN (fillH H X) i → AN H i := fun i hi => by unfold AN at *; rw [fillH_length] at hi; exact hi
 obtain ⟨own, hH⟩ := hH
 classical
 let out : Nat → Prop := fun b => ∃ j ob, own b = some j ∧ getO X j = some ob
 let Pr1 : Prot := ⟨fun b => if out b then w.heap[b]? else Pr.keep b, Pr.rd, fun b o h => by
  have h1 := Pr.sub b o h
  by_cases hb : out b
  ·rw [if_pos hb]; exact hH.pr b o h1
  ·rw [if_neg hb]; exact h1⟩
 have hout : ∀ i ob, getO H i = some ob → ∀ b, own b = some i → ¬ out b := by
  rintro i ob hi b hb ⟨j, oj, hj, hx⟩
  rw [hb] at hj
  cases hj
  have := (fill_get2 ha hx).2.1
  rw [hi] at this; cases this
 have h1 : HR Pr1 (AN H) ρ H w.heap := by
  refine ⟨fun b => if out b then none else own b, fun b o hbo => ?_, fun i ob hi => getO_lt hi, fun i ob hi => ?_, fun b i hb => ?_⟩
  ·have hbo : (if out b then w.heap[b]? else Pr.keep b) = some o := hbo
   by_cases hb : out b
   ·rw [if_pos hb] at hbo; exact hbo
   ·rw [if_neg hb] at hbo; exact hH.pr b o hbo
  ·rcases hH.ob i ob (fill_get hi) with g | ⟨g1, g2, g3⟩
   ·exact .inl g
   ·refine .inr ⟨g1, g2.mono (Pr := Pr) (Pr' := Pr1) (fun _ _ h => h) hAN2 (fun _ _ => rfl) (fun b hb => ?_) (fun _ _ => rfl) g3, ?_⟩
    ·show (if out b then none else own b) = some i
     rw [if_neg (hout i ob hi b hb)]; exact hb
    ·show (if out _ then none else own _) = some i
     rw [if_neg (hout i ob hi _ g3)]; exact g3
  ·have hb : (if out b then none else own b) = some i := hb
   by_cases ho : out b
   ·rw [if_pos ho] at hb; cases hb
   ·rw [if_neg ho] at hb
    refine ⟨(hH.ow b i hb).1, ?_⟩
    show (if out b then _ else Pr.keep b) = none
    rw [if_neg ho]; exact (hH.ow b i hb).2
 obtain ⟨ρ1, v', w', s1, hH1, hv1, hag, hl1, kp1⟩ := h Pr1 ρ args' c cs w h1 (hargs.mono (Pr := Pr) (Pr' := Pr1) (fun _ _ h => h) hAN2 (fun _ _ => rfl))
 obtain ⟨own1, hH1⟩ := hH1
 have hkeep : ∀ b, out b → b < w.heap.size → w'.heap[b]? = w.heap[b]? := fun b ho hb => by
  rw [Array.getElem?_eq_getElem hb]
  refine hH1.pr _ _ ?_
  show (if out _ then _ else _) = _
  rw [if_pos ho, Array.getElem?_eq_getElem hb]
 have hnot : ∀ b i, own1 b = some i → ¬ out b ∧ Pr.keep b = none := by
  intro b i hb
  have hk : (if out b then w.heap[b]? else Pr.keep b) = none := (hH1.ow b i hb).2
  by_cases ho : out b
  ·rw [if_pos ho] at hk
   obtain ⟨j, oj, hj, _⟩ := ho
   rw [Array.getElem?_eq_getElem (hH.ow b j hj).1] at hk
   cases hk
  ·rw [if_neg ho] at hk
   exact ⟨ho, hk⟩
 have hlen : (fillH H' X).length = H'.length := fillH_length _ _
 have hANf : ∀ i, AN H' i → AN (fillH H' X) i := fun i hi => by unfold AN at *; omega
 have hlenH : (fillH H X).length = H.length := fillH_length _ _
 refine ⟨ρ1, v', w', s1, ⟨fun b => if out b then own b else own1 b, fun b o hbo => ?_, fun i ob hi => getO_lt hi, fun i ob hi => ?_, fun b i hb => ?_⟩, hv1.mono (Pr := Pr1) (Pr' := Pr) (fun _ _ h => h) hANf (fun _ _ => rfl), fun i hi => hag i (hAN2 i hi), by omega, kp1⟩
 ·refine hH1.pr b o ?_
  show (if out b then w.heap[b]? else Pr.keep b) = some o
  by_cases ho : out b
  ·rw [if_pos ho]; exact hH.pr b o hbo
  ·rw [if_neg ho]; exact hbo
 ·rcases getO_fill hi with g | ⟨g, gn⟩
  ·have hm : ∀ b, own1 b = some i → (if out b then own b else own1 b) = some i := fun b hb => by rw [if_neg (hnot b i hb).1]; exact hb
   rcases hH1.ob i ob g with q | ⟨q1, q2, q3⟩
   ·exact .inl q
   ·exact .inr ⟨q1, q2.mono (Pr := Pr1) (Pr' := Pr) (fun _ _ h => h) hANf (fun _ _ => rfl) hm (fun _ _ => rfl) q3, hm _ q3⟩
  ·obtain ⟨p1, p2, p3⟩ := fill_get2 ha g
   have hri : ρ1 i = ρ i := hag i p3
   rw [hri]
   have hm : ∀ b, own b = some i → (if out b then own b else own1 b) = some i := fun b hb => by rw [if_pos (⟨i, ob, hb, g⟩ : out b)]; exact hb
   rcases hH.ob i ob p1 with q | ⟨q1, q2, q3⟩
   ·exact .inl q
   ·refine .inr ⟨q1, q2.mono (fun _ _ h => h) (fun j hj => ?_) (fun j hj => hag j (hAN2 j hj)) hm (fun b hb => hkeep b ⟨i, ob, hb, g⟩ (hH.ow _ _ hb).1) q3, hm _ q3⟩
    unfold AN at *
    omega
 ·have hb : (if out b then own b else own1 b) = some i := hb
  by_cases ho : out b
  ·rw [if_pos ho] at hb
   obtain ⟨h1, h2⟩ := hH.ow b i hb
   have := hkeep b ho h1
   rw [Array.getElem?_eq_getElem h1] at this
   exact ⟨(Array.getElem?_eq_some_iff.1 this).1, h2⟩
  ·rw [if_neg ho] at hb
   exact ⟨(hH1.ow b i hb).1, (hnot b i hb).2⟩
end Go.Am

namespace Go.Am
theorem getO_app_none {H : Heap} {k i : Nat} {ob : Ob} (h : getO (H ++ List.replicate k none) i = some ob) : getO H i = some ob := by
 unfold getO at h ⊢
 rcases Nat.lt_or_ge i H.length with hi | hi
 ·rw [List.getElem?_append_left hi] at h; exact h
 ·rw [List.getElem?_append_right hi] at h
  have : (List.replicate k (none : Option Ob))[i - H.length]? = none ∨ (List.replicate k (none : Option Ob))[i - H.length]? = some none := by
   rcases Nat.lt_or_ge (i - H.length) k with h1 | h1
   ·right; simp [h1]
   ·left; simp; omega
  rcases this with e | e <;> rw [e] at h <;> cases h
theorem callOk_pad {E : Env} {g : FuncId} {args : List Value} {H H' : Heap} {v : Value} (h : CallOk E g args H v H') (k : Nat) : CallOk E g args H v (H' ++ List.replicate k none) := by
 intro Pr ρ args' c cs w hH hargs
 obtain ⟨ρ1, v', w', s1, hH1, hv1, hag, hl1, kp1⟩ := h Pr ρ args' c cs w hH hargs
 have hA : ∀ i, AN H' i → AN (H' ++ List.replicate k none) i := fun i hi => by unfold AN at *; simp; omega
 obtain ⟨own, hH1⟩ := hH1.mono_names hA (fun _ _ => rfl)
 refine ⟨ρ1, v', w', s1, ⟨own, hH1.pr, fun i ob hi => getO_lt hi, fun i ob hi => hH1.ob i ob (getO_app_none hi), hH1.ow⟩, hv1.mono (fun _ _ h => h) hA (fun _ _ => rfl), hag, by simp; omega, kp1⟩
theorem callOk_way {E : Env} {g : FuncId} {args : List Value} {H H' : Heap} {v : Value} (h : AEnds E g H.length (startC E g args H) v H') (hs : (canStart E g args && Nat.ble H.length H'.length) = true := by kernel_rfl) : CallOk E g args H v H' := by
 simp only [Bool.and_eq_true] at hs
 exact callOk_of_ends h hs.1 (Nat.le_of_ble_eq_true hs.2)
theorem callOk_objW {E : Env} {g : FuncId} {H H' J J3 : Heap} {args : List Value} {v : Value} (l : List Nat) (h : CallOk E g args H v H') (X : Heap) (hJ : fillH H X = J) (ha : args.all argO = true) (hv : plainV 3 v = true)
  (hr : ∃ ok, AllT ok ∧ renH E (toNew l) (fillH H' X) l = some (ok, J3)) (hx : (apart H X && (apart H' X && (nodup l && (Nat.beq (l.getD 0 0) 0 && (rootO J3 && noObj J3))))) = true) : CallOk E g args [some (.obj J)] v [some (.obj J3)] := by
 simp only [Bool.and_eq_true] at hx
 obtain ⟨x1, x2, x3, x4, x5, x6⟩ := hx
 obtain ⟨ok, hok, hr⟩ := hr
 subst hJ
 exact callOk_obj (callOk_fill h x1 x2) ha hv x3 hr hok (Nat.eq_of_beq_eq_true x4) x5 x6
noncomputable def seal1 {α : Type} (a : α) : α := Classical.choose (⟨a, rfl⟩ : ∃ b, b = a)
theorem seal1_eq {α : Type} (a : α) : seal1 a = a := Classical.choose_spec (⟨a, rfl⟩ : ∃ b, b = a)
end Go.Am
