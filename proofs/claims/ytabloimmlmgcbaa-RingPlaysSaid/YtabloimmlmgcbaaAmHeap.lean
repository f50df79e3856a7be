/-
  The abstract machine: blocks, heaps, frames, configurations against the model's; how they move.
-/
import Derived.Test.YtabloimmlmgcbaaAmRel
namespace Go.Am

section
variable (Pr : Prot) (A : Nat → Prop) (ρ : Nat → Nm)

structure TmR (tm : Tm) (nt : Nat) (t : Array Value) : Prop where
  size : t.size = nt
  get : ∀ i v, getT tm i = some v → ∃ v', t[i]? = some v' ∧ VR Pr A ρ v v'

def CellsR (cs : List Value) (e : TypeId) (g : Option Nat) (x : Nm) (hp : Array Obj) : Prop :=
  ∃ (c : Array Value) (fz : Nat × Nat), hp[x.blk]? = some (.cells c e fz) ∧ x.tot = c.size ∧ x.base + cs.length ≤ c.size ∧ (∀ k, k < c.size → ¬ (fz.1 ≤ k ∧ k < fz.2)) ∧
    x.flex = g ∧ (g = none → x.base = 0 ∧ cs.length = c.size) ∧ VL Pr A ρ cs ((c.toList.drop x.base).take cs.length)

def OR0 (x : Nm) (hp : Array Obj) : Ob → Prop
  | .cells cs e g => CellsR Pr A ρ cs e g x hp
  | .loop st pd fn tm nt ps as bd ds => ∃ t, hp[x.blk]? = some (.loop { state := st, pending := pd, fn := fn, tmps := t, params := ps, assign := as, body := bd, defers := (ρ ds).blk }) ∧ TmR Pr A ρ tm nt t ∧ A ds
  | .defs live => hp[x.blk]? = some (.deferred (if live then some [] else none))
  | .obj _ => False
  | .log cs e z => CellsR Pr A ρ cs e (some z) x hp ∧ cs.all flat = true
  | .fro _ _ _ => False

def isFro : Ob → Bool
  | .fro _ _ _ => true
  | _ => false

/-- An empty row that there is none of. -/
def PhOb (x : Nm) (ob : Ob) : Prop := x.ph = true ∧ ∃ e z, ob = .cells [] e (some z) ∧ x.flex = some z

/-- A packed block: a small memory of its own, of which the first block is known. -/
def ObjR (mine : Nat → Prop) (x : Nm) (hp : Array Obj) (J : Heap) : Prop :=
  ∃ σ : Nat → Nm, (∃ cs e, getO J 0 = some (.cells cs e none)) ∧ (σ 0).blk = x.blk ∧ x.base = 0 ∧
    (∀ k ob, getO J k = some ob → PhOb (σ k) ob ∨ ((σ k).ph = false ∧ OR0 Pr (fun i => i < J.length) σ (σ k) hp ob ∧ mine (σ k).blk)) ∧
    (∀ k l ok ol, getO J k = some ok → getO J l = some ol → k ≠ l → (σ k).ph = false → (σ l).ph = false → (σ k).blk ≠ (σ l).blk)

/-- What a block stands for; `mine`: the blocks that it may have. -/
def OR (mine : Nat → Prop) (x : Nm) (hp : Array Obj) (ob : Ob) : Prop := OR0 Pr A ρ x hp ob ∨ ∃ J, ob = .obj J ∧ ObjR Pr mine x hp J

/-- What stays of a row: nobody's, or of one that is only appended to behind it. -/
def FroR (own : Nat → Option Nat) (H : Heap) (hp : Array Obj) (i : Nat) (cs : List Value) (e : TypeId) (z : Nat) : Prop :=
  (ρ i).ph = false ∧ Pr.keep (ρ i).blk = none ∧ CellsR Pr A ρ cs e (some z) (ρ i) hp ∧ cs.all flat = true ∧ ∀ j, own (ρ i).blk = some j → ∃ cj ej zj, getO H j = some (.log cj ej zj) ∧ (ρ i).base + cs.length ≤ (ρ j).base + cj.length

structure HRo (own : Nat → Option Nat) (H : Heap) (hp : Array Obj) : Prop where
  pr : ∀ b o, Pr.keep b = some o → hp[b]? = some o
  nm : ∀ i ob, getO H i = some ob → A i
  ob : ∀ i ob, getO H i = some ob → isFro ob = false → PhOb (ρ i) ob ∨ ((ρ i).ph = false ∧ OR Pr A ρ (fun b => own b = some i) (ρ i) hp ob ∧ own (ρ i).blk = some i)
  fr : ∀ i cs e z, getO H i = some (.fro cs e z) → FroR Pr A ρ own H hp i cs e z
  ow : ∀ b i, own b = some i → b < hp.size ∧ Pr.keep b = none

/-- own: whose a block is. -/
def HR (H : Heap) (hp : Array Obj) : Prop := ∃ own, HRo Pr A ρ own H hp

inductive TodoR : List Item → List Item → Prop
  | nil : TodoR [] []
  | code (c : Code) {k k' : List Item} (t : TodoR k k') : TodoR (.code c :: k) (.code c :: k')
  | inBlock (id : Nat) {k k' : List Item} (t : TodoR k k') : TodoR (.inBlock id :: k) (.inBlock id :: k')
  | inLoop (c : Code) {k k' : List Item} (t : TodoR k k') : TodoR (.inLoop c :: k) (.inLoop c :: k')
  | inScope (c : Code) {k k' : List Item} (t : TodoR k k') : TodoR (.inScope c :: k) (.inScope c :: k')
  | inRegion (ops : Array Oper) (l : List Nat) {k k' : List Item} (t : TodoR k k') : TodoR (.inRegion ops l :: k) (.inRegion ops l :: k')
  | inRange (l : Nat) (h : A l) {k k' : List Item} (t : TodoR k k') : TodoR (.inRangeFunc l :: k) (.inRangeFunc (ρ l).blk :: k')
  | endRange (l : Nat) (h : A l) {k k' : List Item} (t : TodoR k k') : TodoR (.endRangeFunc l :: k) (.endRangeFunc (ρ l).blk :: k')
  | begin {k k' : List Item} (t : TodoR k k') : TodoR (.beginRound :: k) (.beginRound :: k')

structure FR (fr : AFr) (f : Frame) : Prop where
  fn : f.fn = fr.fn
  tm : TmR Pr A ρ fr.tm fr.nt f.tmps
  todo : TodoR A ρ fr.todo f.todo
  defers : f.defers = fr.defers.map fun d => { target := .collected (ρ d).blk, args := #[] }
  dA : ∀ d ∈ fr.defers, A d
  mode : f.mode = .run
  kind : f.kind = .normal
  rnd : f.roundOf = fr.rnd.map fun l => (ρ l).blk
  rA : ∀ l, fr.rnd = some l → A l

inductive FsR : List AFr → List Frame → Prop
  | nil : FsR [] []
  | cons {a : AFr} {f : Frame} {l : List AFr} {l' : List Frame} (h : FR Pr A ρ a f) (t : FsR l l') : FsR (a :: l) (f :: l')

end

/-- The world outside memory is as it was. -/
def Kp (w w' : World) : Prop := w'.os = w.os ∧ w'.output = w.output
theorem Kp.refl (w : World) : Kp w w := ⟨rfl, rfl⟩
theorem Kp.trans {w w1 w2 : World} (h : Kp w w1) (h2 : Kp w1 w2) : Kp w w2 := ⟨h2.1.trans h.1, h2.2.trans h.2⟩

/-- The names that there are. -/
def AN (H : Heap) : Nat → Prop := fun i => i < H.length

/-- The configuration stands for the machine, other frames below. -/
def CR (Pr : Prot) (ρ : Nat → Nm) (C : Cfg) (cs0 : List Frame) (m : Machine) : Prop :=
  ∃ f fs w, m = lone f (fs ++ cs0) w ∧ FR Pr (AN C.H) ρ C.fr f ∧ FsR Pr (AN C.H) ρ C.cs fs ∧ HR Pr (AN C.H) ρ C.H w.heap

section
variable {Pr Pr' : Prot} {A A' : Nat → Prop} {ρ ρ' : Nat → Nm}

theorem TmR.mono (hP : ∀ b o, Pr.rd b = some o → Pr'.rd b = some o) (hA : ∀ i, A i → A' i) (hr : ∀ i, A i → ρ' i = ρ i) {tm : Tm} {nt : Nat} {t : Array Value} (h : TmR Pr A ρ tm nt t) : TmR Pr' A' ρ' tm nt t :=
  ⟨h.size, fun i v hv => let ⟨v', h1, h2⟩ := h.get i v hv; ⟨v', h1, h2.mono hP hA hr⟩⟩

theorem TodoR.mono (hA : ∀ i, A i → A' i) (hr : ∀ i, A i → ρ' i = ρ i) {k k' : List Item} (h : TodoR A ρ k k') : TodoR A' ρ' k k' := by
  induction h with
  | nil => exact .nil
  | code c _ ih => exact .code c ih
  | inBlock id _ ih => exact .inBlock id ih
  | inLoop c _ ih => exact .inLoop c ih
  | inScope c _ ih => exact .inScope c ih
  | inRegion ops l _ ih => exact .inRegion ops l ih
  | inRange l h _ ih => rw [← hr l h]; exact .inRange l (hA l h) ih
  | endRange l h _ ih => rw [← hr l h]; exact .endRange l (hA l h) ih
  | begin _ ih => exact .begin ih

theorem FR.mono (hP : ∀ b o, Pr.rd b = some o → Pr'.rd b = some o) (hA : ∀ i, A i → A' i) (hr : ∀ i, A i → ρ' i = ρ i) {fr : AFr} {f : Frame} (h : FR Pr A ρ fr f) : FR Pr' A' ρ' fr f :=
  { fn := h.fn, tm := h.tm.mono hP hA hr, todo := h.todo.mono hA hr,
    defers := by rw [h.defers]; exact List.map_congr_left fun d hd => by rw [hr d (h.dA d hd)]
    dA := fun d hd => hA d (h.dA d hd), mode := h.mode, kind := h.kind,
    rnd := by
      rw [h.rnd]
      cases hl : fr.rnd with
      | none => rfl
      | some l => simp [hr l (h.rA l hl)]
    rA := fun l hl => hA l (h.rA l hl) }

theorem FsR.mono (hP : ∀ b o, Pr.rd b = some o → Pr'.rd b = some o) (hA : ∀ i, A i → A' i) (hr : ∀ i, A i → ρ' i = ρ i) {l : List AFr} {l' : List Frame} (h : FsR Pr A ρ l l') : FsR Pr' A' ρ' l l' := by
  induction h with
  | nil => exact .nil
  | cons h _ ih => exact .cons (h.mono hP hA hr) ih

theorem CellsR.mono (hP : ∀ b o, Pr.rd b = some o → Pr'.rd b = some o) (hA : ∀ i, A i → A' i) (hr : ∀ i, A i → ρ' i = ρ i) {cs : List Value} {e : TypeId} {g : Option Nat} {x : Nm} {hp hp' : Array Obj}
    (hx : hp'[x.blk]? = hp[x.blk]?) (h : CellsR Pr A ρ cs e g x hp) : CellsR Pr' A' ρ' cs e g x hp' := by
  obtain ⟨c, fz, h1, h2, h3, h4, h5, h6, h7⟩ := h
  exact ⟨c, fz, by rw [hx]; exact h1, h2, h3, h4, h5, h6, h7.mono hP hA hr⟩

theorem OR0.mono (hP : ∀ b o, Pr.rd b = some o → Pr'.rd b = some o) (hA : ∀ i, A i → A' i) (hr : ∀ i, A i → ρ' i = ρ i) {ob : Ob} {x : Nm} {hp hp' : Array Obj} (hx : hp'[x.blk]? = hp[x.blk]?)
    (h : OR0 Pr A ρ x hp ob) : OR0 Pr' A' ρ' x hp' ob := by
  cases ob with
  | cells cs e g => exact CellsR.mono hP hA hr hx h
  | loop st pd fn tm nt ps as bd ds =>
    obtain ⟨t, h1, h2, h3⟩ := h
    exact ⟨t, by rw [hx, h1, hr ds h3], h2.mono hP hA hr, hA ds h3⟩
  | defs live => exact (hx.trans h : _)
  | obj J => exact h
  | log cs e z => exact ⟨CellsR.mono hP hA hr hx h.1, h.2⟩
  | fro cs e z => exact h

theorem ObjR.mono (hP : ∀ b o, Pr.rd b = some o → Pr'.rd b = some o) {mine mine' : Nat → Prop} (hm : ∀ b, mine b → mine' b) {x : Nm} {hp hp' : Array Obj} {J : Heap} (hx : ∀ b, mine b → hp'[b]? = hp[b]?)
    (h : ObjR Pr mine x hp J) : ObjR Pr' mine' x hp' J := by
  obtain ⟨σ, h1, h2, h3, h4, h5⟩ := h
  refine ⟨σ, h1, h2, h3, fun k ob hk => ?_, h5⟩
  rcases h4 k ob hk with g | ⟨g1, g2, g3⟩
  · exact .inl g
  · exact .inr ⟨g1, g2.mono hP (fun _ h => h) (fun _ _ => rfl) (hx _ g3), hm _ g3⟩

theorem OR.mono (hP : ∀ b o, Pr.rd b = some o → Pr'.rd b = some o) (hA : ∀ i, A i → A' i) (hr : ∀ i, A i → ρ' i = ρ i) {mine mine' : Nat → Prop} (hm : ∀ b, mine b → mine' b) {ob : Ob} {x : Nm} {hp hp' : Array Obj} (hx : ∀ b, mine b → hp'[b]? = hp[b]?)
    (hb : mine x.blk) (h : OR Pr A ρ mine x hp ob) : OR Pr' A' ρ' mine' x hp' ob := by
  rcases h with h | ⟨J, rfl, h⟩
  · exact .inl (h.mono hP hA hr (hx _ hb))
  · exact .inr ⟨J, rfl, h.mono hP hm hx⟩

theorem OR0.lt {ob : Ob} {x : Nm} {hp : Array Obj} (h : OR0 Pr A ρ x hp ob) : x.blk < hp.size := by
  have hs : ∀ {o : Obj}, hp[x.blk]? = some o → x.blk < hp.size := fun h => (Array.getElem?_eq_some_iff.1 h).1
  cases ob with
  | cells cs e g => obtain ⟨c, fz, h1, _⟩ := h; exact hs h1
  | loop st pd fn tm nt ps as bd ds => obtain ⟨t, h1, _⟩ := h; exact hs h1
  | defs live => exact hs h
  | obj J => exact absurd h id
  | log cs e z => obtain ⟨⟨c, fz, h1, _⟩, _⟩ := h; exact hs h1
  | fro cs e z => exact absurd h id

theorem HR.pr {H : Heap} {hp : Array Obj} (h : HR Pr A ρ H hp) : ∀ b o, Pr.keep b = some o → hp[b]? = some o := let ⟨_, h⟩ := h; h.pr
theorem HR.nm {H : Heap} {hp : Array Obj} (h : HR Pr A ρ H hp) : ∀ i ob, getO H i = some ob → A i := let ⟨_, h⟩ := h; h.nm
theorem HRo.keep {own : Nat → Option Nat} {H : Heap} {hp : Array Obj} (h : HRo Pr A ρ own H hp) {i : Nat} (hb : own (ρ i).blk = some i) : Pr.keep (ρ i).blk = none := (h.ow _ _ hb).2
/-- Blocks that are there. -/
theorem HR.ob {H : Heap} {hp : Array Obj} (h : HR Pr A ρ H hp) : ∀ i ob, getO H i = some ob → isFro ob = false → PhOb (ρ i) ob ∨ ((ρ i).ph = false ∧ (OR0 Pr A ρ (ρ i) hp ob ∨ ∃ J, ob = .obj J) ∧ Pr.keep (ρ i).blk = none) := by
  obtain ⟨own, h⟩ := h
  intro i ob hi hf
  rcases h.ob i ob hi hf with g | ⟨g1, g2, g3⟩
  · exact .inl g
  · refine .inr ⟨g1, ?_, h.keep g3⟩
    rcases g2 with g | ⟨J, e, _⟩
    · exact .inl g
    · exact .inr ⟨J, e⟩
theorem HRo.sp {own : Nat → Option Nat} {H : Heap} {hp : Array Obj} (h : HRo Pr A ρ own H hp) : ∀ i j oi oj, getO H i = some oi → getO H j = some oj → isFro oi = false → isFro oj = false → i ≠ j → (ρ i).ph = false → (ρ j).ph = false → (ρ i).blk ≠ (ρ j).blk := by
  intro i j oi oj hi hj hfi hfj hij p1 p2 he
  rcases h.ob i oi hi hfi with ⟨g, _⟩ | ⟨_, _, g3⟩
  · rw [p1] at g; cases g
  rcases h.ob j oj hj hfj with ⟨q, _⟩ | ⟨_, _, q3⟩
  · rw [p2] at q; cases q
  rw [he, q3] at g3
  exact hij (Option.some.inj g3).symm
theorem HR.sp {H : Heap} {hp : Array Obj} (h : HR Pr A ρ H hp) : ∀ i j oi oj, getO H i = some oi → getO H j = some oj → isFro oi = false → isFro oj = false → i ≠ j → (ρ i).ph = false → (ρ j).ph = false → (ρ i).blk ≠ (ρ j).blk := let ⟨_, h⟩ := h; h.sp
theorem HRo.blk_lt {own : Nat → Option Nat} {H : Heap} {hp : Array Obj} (h : HRo Pr A ρ own H hp) {i : Nat} {ob : Ob} (hi : getO H i = some ob) (hf : isFro ob = false) (hp0 : (ρ i).ph = false) : own (ρ i).blk = some i ∧ (ρ i).blk < hp.size := by
  rcases h.ob i ob hi hf with ⟨g, _⟩ | ⟨_, _, g3⟩
  · rw [hp0] at g; cases g
  · exact ⟨g3, (h.ow _ _ g3).1⟩

theorem getO_set_same {H : Heap} {i : Nat} {o : Option Ob} {ob : Ob} (h : getO H i = some ob) : getO (H.set i o) i = o := by
  unfold getO at h ⊢
  have hi : i < H.length := by
    rcases Nat.lt_or_ge i H.length with h' | h'
    · exact h'
    · simp [List.getElem?_eq_none h'] at h
  rw [List.getElem?_set_self hi]
  cases o <;> rfl

theorem getO_set_other {H : Heap} {i j : Nat} {o : Option Ob} (h : i ≠ j) : getO (H.set i o) j = getO H j := by
  unfold getO
  rw [List.getElem?_set_ne h]

theorem getO_slot_old {H : Heap} {o : Ob} {j : Nat} (h : j < H.length) : getO (slot H o) j = getO H j := by
  unfold getO slot
  rw [List.getElem?_append_left h]

theorem getO_slot_new {H : Heap} {o : Ob} : getO (slot H o) H.length = some o := by
  unfold getO slot
  simp

theorem getO_lt {H : Heap} {i : Nat} {ob : Ob} (h : getO H i = some ob) : i < H.length := by
  unfold getO at h
  rcases Nat.lt_or_ge i H.length with h' | h'
  · exact h'
  · simp [List.getElem?_eq_none h'] at h

theorem slot_length (H : Heap) (o : Ob) : (slot H o).length = H.length + 1 := by simp [slot]

theorem PhOb.mono {x : Nm} {ob : Ob} {y : Nm} (h : PhOb x ob) (he : y = x) : PhOb y ob := by subst he; exact h

/-- A block that there is. -/
theorem HR.real {H : Heap} {hp : Array Obj} (h : HR Pr A ρ H hp) {i : Nat} {ob : Ob} (hi : getO H i = some ob) (hn : ∀ e z, ob ≠ .cells [] e (some z)) (hj : ∀ J, ob ≠ .obj J) (hf : isFro ob = false) : A i ∧ OR0 Pr A ρ (ρ i) hp ob ∧ Pr.keep (ρ i).blk = none ∧ (ρ i).ph = false := by
  rcases h.ob i ob hi hf with ⟨_, e, z, h2, _⟩ | ⟨h1, h2, h3⟩
  · exact absurd h2 (hn e z)
  · rcases h2 with h2 | ⟨J, h2⟩
    · exact ⟨h.nm i ob hi, h2, h3, h1⟩
    · exact absurd h2 (hj J)
theorem HR.realC {H : Heap} {hp : Array Obj} (h : HR Pr A ρ H hp) {i : Nat} {cs : List Value} {e : TypeId} {g : Option Nat} (hi : getO H i = some (.cells cs e g)) (hn : g = none ∨ 0 < cs.length) :
    A i ∧ CellsR Pr A ρ cs e g (ρ i) hp ∧ Pr.keep (ρ i).blk = none ∧ (ρ i).ph = false := by
  refine h.real hi (fun e' z he => ?_) (fun J h => by cases h) rfl
  cases he
  rcases hn with hn | hn
  · cases hn
  · simp at hn
theorem HR.realL {H : Heap} {hp : Array Obj} (h : HR Pr A ρ H hp) {i : Nat} {ob : Ob} (hi : getO H i = some ob) (hn : ∀ cs e g, ob ≠ .cells cs e g) (hj : ∀ J, ob ≠ .obj J := by intro J h; cases h) (hf : isFro ob = false := by rfl) : A i ∧ OR0 Pr A ρ (ρ i) hp ob ∧ Pr.keep (ρ i).blk = none ∧ (ρ i).ph = false :=
  h.real hi (fun _ _ => hn _ _ _) hj hf

/-- Either there is a block, or it is an empty row that there is none of. -/
theorem HR.cellsOr {H : Heap} {hp : Array Obj} (h : HR Pr A ρ H hp) {i : Nat} {cs : List Value} {e : TypeId} {g : Option Nat} (hi : getO H i = some (.cells cs e g)) :
    (A i ∧ CellsR Pr A ρ cs e g (ρ i) hp ∧ Pr.keep (ρ i).blk = none ∧ (ρ i).ph = false) ∨ ((ρ i).ph = true ∧ cs = [] ∧ (ρ i).flex = g ∧ g.isSome = true) := by
  rcases h.ob i _ hi rfl with ⟨h1, e', z, h2, h3⟩ | ⟨h1, h2, h3⟩
  · cases h2
    exact .inr ⟨h1, rfl, h3, rfl⟩
  · rcases h2 with h2 | ⟨J, h2⟩
    · exact .inl ⟨h.nm i _ hi, h2, h3, h1⟩
    · cases h2

/-- A row that is only appended to, or what stays of one. -/
theorem HR.logR {H : Heap} {hp : Array Obj} (h : HR Pr A ρ H hp) {i : Nat} {cs : List Value} {e : TypeId} {z : Nat} (hi : getO H i = some (.log cs e z) ∨ getO H i = some (.fro cs e z)) :
    A i ∧ CellsR Pr A ρ cs e (some z) (ρ i) hp ∧ (ρ i).ph = false ∧ cs.all flat = true := by
  rcases hi with hi | hi
  · rcases h.ob i _ hi rfl with ⟨_, e', z', h2, _⟩ | ⟨h1, h2, h3⟩
    · cases h2
    · rcases h2 with h2 | ⟨J, h2⟩
      · exact ⟨h.nm i _ hi, h2.1, h1, h2.2⟩
      · cases h2
  · obtain ⟨own, h⟩ := h
    obtain ⟨h1, _, h2, h3, _⟩ := h.fr i _ _ _ hi
    exact ⟨h.nm i _ hi, h2, h1, h3⟩

/-- What stays of a row stays. -/
theorem HRo.fr_keepP (hP : ∀ b o, Pr.rd b = some o → Pr'.rd b = some o) {own own' : Nat → Option Nat} {H H' : Heap} {hp hp' : Array Obj} (h : HRo Pr A ρ own H hp) (hA : ∀ i, A i → A' i) (hr : ∀ i, A i → ρ' i = ρ i) {i : Nat} {cs : List Value} {e : TypeId} {z : Nat} (hi : getO H i = some (.fro cs e z))
    (hx : hp'[(ρ i).blk]? = hp[(ρ i).blk]?) (hk : Pr.keep (ρ i).blk = none → Pr'.keep (ρ i).blk = none) (ho : ∀ j, own' (ρ i).blk = some j → own (ρ i).blk = some j ∧ ∀ cj ej zj, getO H j = some (.log cj ej zj) → getO H' j = some (.log cj ej zj)) : FroR Pr' A' ρ' own' H' hp' i cs e z := by
  obtain ⟨f1, f0, f2, f3, f4⟩ := h.fr i cs e z hi
  have e1 := hr i (h.nm i _ hi)
  unfold FroR
  rw [e1]
  refine ⟨f1, hk f0, f2.mono hP hA hr hx, f3, fun j hj => ?_⟩
  obtain ⟨q0, q⟩ := ho j hj
  obtain ⟨cj, ej, zj, q1, q2⟩ := f4 j q0
  exact ⟨cj, ej, zj, q _ _ _ q1, by rw [hr j (h.nm j _ q1)]; exact q2⟩
theorem HRo.fr_keep {own own' : Nat → Option Nat} {H H' : Heap} {hp hp' : Array Obj} (h : HRo Pr A ρ own H hp) (hA : ∀ i, A i → A' i) (hr : ∀ i, A i → ρ' i = ρ i) {i : Nat} {cs : List Value} {e : TypeId} {z : Nat} (hi : getO H i = some (.fro cs e z))
    (hx : hp'[(ρ i).blk]? = hp[(ρ i).blk]?) (ho : ∀ j, own' (ρ i).blk = some j → own (ρ i).blk = some j ∧ ∀ cj ej zj, getO H j = some (.log cj ej zj) → getO H' j = some (.log cj ej zj)) : FroR Pr A' ρ' own' H' hp' i cs e z :=
  h.fr_keepP (fun _ _ h => h) hA hr hi hx id ho
theorem HRo.fr_lt {own : Nat → Option Nat} {H : Heap} {hp : Array Obj} (h : HRo Pr A ρ own H hp) {i : Nat} {cs : List Value} {e : TypeId} {z : Nat} (hi : getO H i = some (.fro cs e z)) : (ρ i).blk < hp.size := by
  obtain ⟨_, _, ⟨c, fz, g1, _⟩, _⟩ := h.fr i cs e z hi
  exact (Array.getElem?_eq_some_iff.1 g1).1
def plainB : Ob → Bool
  | .log _ _ _ => false
  | .fro _ _ _ => false
  | _ => true
theorem plainB_fro {ob : Ob} (h : plainB ob = true) : isFro ob = false := by cases ob <;> first | rfl | cases h
theorem HRo.fro_ne {own : Nat → Option Nat} {H : Heap} {hp : Array Obj} (h : HRo Pr A ρ own H hp) {b : Nat} {ob : Ob} (hb : getO H b = some ob) (hpl : plainB ob = true) {i : Nat} {cs : List Value} {e : TypeId} {z : Nat} (hi : getO H i = some (.fro cs e z)) : own (ρ i).blk ≠ some b := by
  intro e1
  obtain ⟨_, _, _, _, f4⟩ := h.fr i cs e z hi
  obtain ⟨cj, ej, zj, q1, _⟩ := f4 b e1
  rw [hb] at q1
  rw [Option.some.inj q1] at hpl
  cases hpl

theorem HR.mono_names (hA : ∀ i, A i → A' i) (hr : ∀ i, A i → ρ' i = ρ i) {H : Heap} {hp : Array Obj} (h : HR Pr A ρ H hp) : HR Pr A' ρ' H hp := by
  obtain ⟨own, h⟩ := h
  refine ⟨own, h.pr, fun i ob hi => hA i (h.nm i ob hi), fun i ob hi hf => ?_, fun i cs e z hi => ?_, h.ow⟩
  · rw [hr i (h.nm i ob hi)]
    rcases h.ob i ob hi hf with h2 | ⟨h2, h3, h4⟩
    · exact .inl h2
    · exact .inr ⟨h2, h3.mono (fun _ _ h => h) hA hr (fun _ h => h) (fun _ _ => rfl) h4, h4⟩
  · exact h.fr_keep hA hr hi rfl (fun j hj => ⟨hj, fun _ _ _ q => q⟩)

/-- A block forgotten. -/
theorem HR.kill {H : Heap} {hp : Array Obj} (h : HR Pr A ρ H hp) (b : Nat) : HR Pr A ρ (H.set b none) hp := by
  have hg : ∀ i ob, getO (H.set b none) i = some ob → getO H i = some ob ∧ b ≠ i := by
    intro i ob hi
    by_cases hb : b = i
    · subst hb
      unfold getO at hi
      rcases Nat.lt_or_ge b H.length with h' | h'
      · rw [List.getElem?_set_self h'] at hi; simp at hi
      · rw [List.set_eq_of_length_le h', List.getElem?_eq_none h'] at hi; simp at hi
    · rw [getO_set_other hb] at hi; exact ⟨hi, hb⟩
  obtain ⟨own, h⟩ := h
  have ho : ∀ c j, (if own c = some b then none else own c) = some j → own c = some j ∧ j ≠ b := by
    intro c j hc
    by_cases hb : own c = some b
    · rw [if_pos hb] at hc; cases hc
    · rw [if_neg hb] at hc
      exact ⟨hc, fun e => hb (by rw [hc, e])⟩
  have ho2 : ∀ c j, j ≠ b → own c = some j → (if own c = some b then none else own c) = some j := by
    intro c j hj hc
    rw [if_neg (fun e => by rw [hc] at e; exact hj (Option.some.inj e))]; exact hc
  refine ⟨fun c => if own c = some b then none else own c, h.pr, fun i ob hi => h.nm i ob (hg i ob hi).1, fun i ob hi hf => ?_, fun i cs e z hi => ?_, fun c i hc => h.ow c i (ho c i hc).1⟩
  · obtain ⟨g, hne⟩ := hg i ob hi
    rcases h.ob i ob g hf with q | ⟨q1, q2, q3⟩
    · exact .inl q
    · exact .inr ⟨q1, q2.mono (fun _ _ h => h) (fun _ h => h) (fun _ _ => rfl) (fun c hc => ho2 c i (Ne.symm hne) hc) (fun _ _ => rfl) q3, ho2 _ i (Ne.symm hne) q3⟩
  · obtain ⟨g, hne⟩ := hg i _ hi
    refine h.fr_keep (fun _ h => h) (fun _ _ => rfl) g rfl (fun j hj => ?_)
    obtain ⟨h1, h2⟩ := ho _ j hj
    exact ⟨h1, fun cj ej zj q => by rw [getO_set_other (Ne.symm h2)]; exact q⟩

/-- A block turned in place. -/
theorem HR.turn {H : Heap} {hp : Array Obj} (h : HR Pr A ρ H hp) {b : Nat} {ob ob' : Ob} (hb : getO H b = some ob) (hph : (ρ b).ph = false) (hpr : Pr.keep (ρ b).blk = none) (o : Obj)
    (ho : OR0 Pr A ρ (ρ b) (hp.setIfInBounds (ρ b).blk o) ob') (hnl : plainB ob = true := by rfl) : HR Pr A ρ (H.set b (some ob')) (hp.setIfInBounds (ρ b).blk o) := by
  have hcase : ∀ i oi, getO (H.set b (some ob')) i = some oi → (i = b ∧ oi = ob') ∨ (b ≠ i ∧ getO H i = some oi) := by
    intro i oi hi
    by_cases hbi : b = i
    · subst hbi
      rw [getO_set_same hb] at hi
      cases hi
      exact .inl ⟨rfl, rfl⟩
    · rw [getO_set_other hbi] at hi
      exact .inr ⟨hbi, hi⟩
  obtain ⟨own, h⟩ := h
  obtain ⟨hob, hbl⟩ := h.blk_lt hb (plainB_fro hnl) hph
  refine ⟨own, fun c x hc => ?_, fun i oi hi => ?_, fun i oi hi hf => ?_, fun i cs e z hi => ?_, fun c i hc => ?_⟩
  · have hne : (ρ b).blk ≠ c := fun e => by rw [e, hc] at hpr; cases hpr
    rw [Array.getElem?_setIfInBounds_ne hne]
    exact h.pr c x hc
  · rcases hcase i oi hi with ⟨rfl, rfl⟩ | ⟨_, hg⟩
    · exact h.nm _ _ hb
    · exact h.nm _ _ hg
  · rcases hcase i oi hi with ⟨rfl, rfl⟩ | ⟨hbi, hg⟩
    · exact .inr ⟨hph, .inl ho, hob⟩
    · rcases h.ob i oi hg hf with g | ⟨g1, g2, g3⟩
      · exact .inl g
      · refine .inr ⟨g1, g2.mono (fun _ _ h => h) (fun _ h => h) (fun _ _ => rfl) (fun _ h => h) (fun c hc => ?_) g3, g3⟩
        exact Array.getElem?_setIfInBounds_ne (fun e => by rw [e, hc] at hob; exact hbi (Option.some.inj hob).symm)
  · rcases hcase i _ hi with ⟨rfl, rfl⟩ | ⟨hbi, hg⟩
    · exact absurd ho id
    · have hn := h.fro_ne hb hnl hg
      refine h.fr_keep (fun _ h => h) (fun _ _ => rfl) hg (Array.getElem?_setIfInBounds_ne (fun e1 => hn (by rw [← e1]; exact hob))) (fun j hj => ⟨hj, fun cj ej zj q => ?_⟩)
      rw [getO_set_other (fun e1 => hn (by rw [hj, e1]))]
      exact q
  · simpa using h.ow c i hc

def upd (ρ : Nat → Nm) (n : Nat) (x : Nm) : Nat → Nm := fun i => if i = n then x else ρ i
theorem upd_same (ρ : Nat → Nm) (n : Nat) (x : Nm) : upd ρ n x n = x := by simp [upd]
theorem upd_old (ρ : Nat → Nm) (n : Nat) (x : Nm) {i : Nat} (h : i < n) : upd ρ n x i = ρ i := by
  have : i ≠ n := by omega
  simp [upd, this]

/-- A new block. -/
theorem HR.alloc {H : Heap} {hp : Array Obj} (h : HR Pr (AN H) ρ H hp) (o : Obj) (x : Nm) (ob : Ob) (hx : x.blk = hp.size) (hxp : x.ph = false)
    (ho : OR0 Pr (AN (slot H ob)) (upd ρ H.length x) x (hp.push o) ob) : HR Pr (AN (slot H ob)) (upd ρ H.length x) (slot H ob) (hp.push o) := by
  have hA : ∀ i, AN H i → AN (slot H ob) i := fun i hi => by unfold AN at *; rw [slot_length]; omega
  have hr : ∀ i, AN H i → upd ρ H.length x i = ρ i := fun i hi => upd_old ρ _ x hi
  have hlt : ∀ {b : Nat} {o' : Obj}, hp[b]? = some o' → b < hp.size := fun h => (Array.getElem?_eq_some_iff.1 h).1
  have hpp : ∀ b, b < hp.size → (hp.push o)[b]? = hp[b]? := fun b hb => by rw [Array.getElem?_push]; rw [if_neg (by omega)]
  have hnone : Pr.keep hp.size = none := by
    cases hs : Pr.keep hp.size with
    | none => rfl
    | some o' => exact absurd (hlt (h.pr _ _ hs)) (by omega)
  have hcase : ∀ i oi, getO (slot H ob) i = some oi → (i < H.length ∧ getO H i = some oi) ∨ (i = H.length ∧ oi = ob) := by
    intro i oi hi
    have hl := getO_lt hi
    rw [slot_length] at hl
    by_cases hc : i < H.length
    · rw [getO_slot_old hc] at hi; exact .inl ⟨hc, hi⟩
    · have : i = H.length := by omega
      subst this
      rw [getO_slot_new] at hi
      exact .inr ⟨rfl, (Option.some.inj hi).symm⟩
  obtain ⟨own, h⟩ := h
  have hown : own hp.size = none := by
    cases hs : own hp.size with
    | none => rfl
    | some j => exact absurd (h.ow _ _ hs).1 (by omega)
  refine ⟨fun b => if b = hp.size then some H.length else own b, fun b o' hb => ?_, fun i oi hi => getO_lt hi, fun i oi hi hf => ?_, fun i cs e z hi => ?_, fun b i hb => ?_⟩
  · have := h.pr b o' hb
    rw [hpp b (hlt this)]; exact this
  · rcases hcase i oi hi with ⟨hc, hg⟩ | ⟨rfl, rfl⟩
    · rw [upd_old ρ _ x hc]
      rcases h.ob i oi hg hf with g | ⟨g1, g2, g3⟩
      · exact .inl g
      · have hne : ∀ b, own b = some i → b ≠ hp.size := fun b hb e => by rw [e, hown] at hb; cases hb
        refine .inr ⟨g1, g2.mono (fun _ _ h => h) hA hr (fun b hb => ?_) (fun b hb => hpp b (h.ow _ _ hb).1) g3, ?_⟩
        · show (if b = hp.size then _ else own b) = _
          rw [if_neg (hne b hb)]; exact hb
        · show (if (ρ i).blk = hp.size then _ else own _) = _
          rw [if_neg (hne _ g3)]; exact g3
    · rw [upd_same]
      refine .inr ⟨hxp, .inl ho, ?_⟩
      show (if x.blk = hp.size then some H.length else own x.blk) = some H.length
      rw [if_pos hx]
  · rcases hcase i _ hi with ⟨hc, hg⟩ | ⟨rfl, rfl⟩
    · have hlt2 := h.fr_lt hg
      refine h.fr_keep hA hr hg (hpp _ hlt2) (fun j hj => ?_)
      have hj : (if (ρ i).blk = hp.size then some H.length else own (ρ i).blk) = some j := hj
      rw [if_neg (by omega)] at hj
      exact ⟨hj, fun cj ej zj q => by rw [getO_slot_old (getO_lt q)]; exact q⟩
    · exact absurd ho id
  · have hb : (if b = hp.size then some H.length else own b) = some i := hb
    rw [Array.size_push]
    by_cases hbs : b = hp.size
    · subst hbs
      exact ⟨by omega, hnone⟩
    · rw [if_neg hbs] at hb
      have := h.ow b i hb
      exact ⟨by omega, this.2⟩

/-- An empty row that there is none of, under a new name. -/
theorem HR.phantom {H : Heap} {hp : Array Obj} (h : HR Pr (AN H) ρ H hp) (e : TypeId) (z : Nat) (x : Nm) (hx : x.ph = true) (hz : x.flex = some z) : HR Pr (AN (slot H (.cells [] e (some z)))) (upd ρ H.length x) (slot H (.cells [] e (some z))) hp := by
  have hA : ∀ i, AN H i → AN (slot H (.cells [] e (some z))) i := fun i hi => by unfold AN at *; rw [slot_length]; omega
  have hr : ∀ i, AN H i → upd ρ H.length x i = ρ i := fun i hi => upd_old ρ _ x hi
  have hcase : ∀ i oi, getO (slot H (.cells [] e (some z))) i = some oi → (getO H i = some oi) ∨ (i = H.length ∧ oi = .cells [] e (some z)) := by
    intro i oi hi
    have hl := getO_lt hi
    rw [slot_length] at hl
    by_cases hc : i < H.length
    · rw [getO_slot_old hc] at hi; exact .inl hi
    · have : i = H.length := by omega
      subst this
      rw [getO_slot_new] at hi
      exact .inr ⟨rfl, (Option.some.inj hi).symm⟩
  obtain ⟨own, h'⟩ := h.mono_names hA hr
  refine ⟨own, h'.pr, fun i oi hi => getO_lt hi, fun i oi hi hf => ?_, fun i cs e z hi => ?_, h'.ow⟩
  · rcases hcase i oi hi with hg | ⟨rfl, rfl⟩
    · exact h'.ob i oi hg hf
    · rw [upd_same]; exact .inl ⟨hx, e, z, rfl, hz⟩
  · rcases hcase i _ hi with hg | ⟨_, he⟩
    · exact h'.fr_keep (fun _ h => h) (fun _ _ => rfl) hg rfl (fun j hj => ⟨hj, fun cj ej zj q => by rw [getO_slot_old (getO_lt q)]; exact q⟩)
    · cases he

theorem AN_slot {H : Heap} {ob : Ob} : ∀ i, AN H i → AN (slot H ob) i := fun i hi => by unfold AN at *; rw [slot_length]; omega
theorem AN_set {H : Heap} {b : Nat} {o : Option Ob} : AN (H.set b o) = AN H := by unfold AN; simp

end
end Go.Am
