/-
  The abstract machine: ways stated shortly: a run's result and what must be looked at, each by one look.
-/
import Derived.Test.YtabloimmlmgcbaaAmDt
import Derived.KernelRfl
set_option linter.unusedVariables false
set_option linter.unusedSimpArgs false
namespace Go.Am
def pfx (B : Nat) (l : List Nat) : Bool := (List.range B).all fun i => Nat.beq (l.getD i 0) i
theorem pfx_ok {B : Nat} {l : List Nat} (h : pfx B l = true) : ∀ i, i < B → l.getD i 0 = i := fun i hi => Nat.eq_of_beq_eq_true (List.all_eq_true.1 h i (List.mem_range.2 hi))
def fnIs (g : Nat) : Option Nat → Bool
  | some f => Nat.beq f g
  | none => false
theorem fnIs_ok {g : Nat} : ∀ {o : Option Nat}, fnIs g o = true → o = some g
  | some f, h => by rw [Nat.eq_of_beq_eq_true h]
  | none, h => by cases h
def bsL : Nat → Nat → List Bool
  | 0, _ => []
  | k + 1, n => Nat.beq (Nat.mod n 2) 1 :: bsL k (Nat.div n 2)
/-- k decisions, written as a number (the first one its last digit). -/
def bs (k n : Nat) : Option (List Bool) := some (bsL k n)
theorem and4 {a b c d r : Bool} (ha : a = true) (hb : b = true) (hc : c = true) (hd : d = true) (hr : r = true) : (and a (and b (and c (and d r)))) = true := by
  subst ha hb hc hd; exact hr
theorem and8 {a b c d e f g h r : Bool} (ha : a = true) (hb : b = true) (hc : c = true) (hd : d = true) (he : e = true) (hf : f = true) (hg : g = true) (hh : h = true) (hr : r = true) : (and a (and b (and c (and d (and e (and f (and g (and h r)))))))) = true := by
  subst ha hb hc hd he hf hg hh; exact hr
theorem ends_q {E : Env} {K : Ctr} (hK : KOk E K) (N n : Nat) (ds : Option (List Bool)) (keep live keepE : List Nat) {g : FuncId} {H' : Heap} {C : Cfg} {ok : Bool} {v : Value} {B : Nat} (hok : ok = true) (h : goFinB E K N n ds keep live keepE C = some (ok, v, H') := by kernel_rfl)
    (hc : (fnIs g (fnAt (goGc E K N n ds keep live C)) && (Nat.ble B C.H.length && (pfx B keep && pfx B keepE))) = true := by kernel_rfl) : AEnds E g B C v H' := by
  simp only [Bool.and_eq_true] at hc
  exact ends_ofB hK h hok (fnIs_ok hc.1) (Nat.le_of_ble_eq_true hc.2.1) (pfx_ok hc.2.2.1) (pfx_ok hc.2.2.2)
theorem reach_q {E : Env} {K : Ctr} (hK : KOk E K) (N n : Nat) (ds : Option (List Bool)) (ls : List (List Nat)) (lp : List (Nat × List Nat)) (keep live : List Nat) (fx : List Fix) (keep2 live2 : List Nat) {C C' : Cfg} {ok : Bool} {B : Nat} (hok : ok = true) (h : goNilB E K N n ds ls lp keep live fx keep2 live2 C = some (ok, C') := by kernel_rfl)
    (hc : (Nat.ble B C.H.length && (pfx B keep && (pfx B keep2 && Nat.ble B keep.length))) = true := by kernel_rfl) : Gets E B C C' := by
  simp only [Bool.and_eq_true] at hc
  exact reach_gb hK h hok (Nat.le_of_ble_eq_true hc.1) (pfx_ok hc.2.1) (pfx_ok hc.2.2.1) (Nat.le_of_ble_eq_true hc.2.2.2)

/-! ### shapes: what is looked at of a value, of a row, of the memory; the rest is read out -/
inductive VFl where
  | int (k : IntKind)
  | bool
  | str
def chkF1 : VFl → Value → Bool
  | .int k, v => isInt k v
  | .bool, v => isBool v
  | .str, v => isStr v
def rebF1 : VFl → Value → Value
  | .int k, v => .int k (toInt v)
  | .bool, v => .bool (toBool v)
  | .str, v => .string (toStr v)
theorem chkF1_ok {s : VFl} {v : Value} (h : chkF1 s v = true) : v = rebF1 s v := by
  cases s with
  | int k =>
    change isInt k v = true at h
    unfold isInt at h
    split at h
    · rw [of_decide_eq_true h]; rfl
    · cases h
  | bool =>
    change isBool v = true at h
    unfold isBool at h
    split at h
    · rfl
    · cases h
  | str =>
    change isStr v = true at h
    unfold isStr at h
    split at h
    · rfl
    · cases h
def chkF : List VFl → List Value → Bool
  | [], [] => true
  | s :: r, v :: a => chkF1 s v && chkF r a
  | _, _ => false
def rebF : List VFl → (Nat → Value) → Nat → List Value
  | [], _, _ => []
  | s :: r, g, i => rebF1 s (g i) :: rebF r g (i + 1)
theorem chkF_ok : ∀ {l : List VFl} {a : List Value} {g : Nat → Value} {i : Nat}, chkF l a = true → (∀ j, j < a.length → g (i + j) = a.getD j undef) → a = rebF l g i
  | [], [], g, i, _, _ => rfl
  | [], _ :: _, g, i, h, _ => by cases h
  | _ :: _, [], g, i, h, _ => by cases h
  | s :: r, v :: a, g, i, h, hg => by
    simp only [chkF, Bool.and_eq_true] at h
    have e0 : g i = v := by have := hg 0 (by simp); simpa using this
    rw [rebF, e0, ← chkF1_ok h.1, ← chkF_ok (g := g) (i := i + 1) h.2 (fun j hj => by
      have := hg (j + 1) (by simpa using hj)
      rw [show i + 1 + j = i + (j + 1) by omega, this]
      rfl)]
def isAggF (l : List VFl) : Value → Bool
  | .agg cs => chkF l cs.toList
  | _ => false
def isIntC (k : IntKind) (n : Int) : Value → Bool
  | .int k' n' => decide (k' = k) && decide (n' = n)
  | _ => false
inductive VSh where
  | agg (l : List VFl)
  | intC (k : IntKind) (n : Int)
  | int (k : IntKind)
  | bool
  | boolC (b : Bool)
  | str
  | nilP
  | ptr (b o : Nat)
  | nilS
  | sl (b : Nat) (o c : Option Nat)
  | row
def capOf : Value → Nat
  | .slice _ _ c => c
  | _ => 0
def isBoolC (b : Bool) : Value → Bool
  | .bool b' => b' == b
  | _ => false
def isNilP : Value → Bool
  | .pointer none => true
  | _ => false
def isPtr (b o : Nat) : Value → Bool
  | .pointer (some ⟨b', o', none⟩) => Nat.beq b' b && Nat.beq o' o
  | _ => false
def isNilS : Value → Bool
  | .slice none n c => Nat.beq n 0 && Nat.beq c 0
  | _ => false
def isOpt (o : Option Nat) (x : Nat) : Bool :=
  match o with
  | some y => Nat.beq x y
  | none => true
def isSl (b : Nat) (o c : Option Nat) : Value → Bool
  | .slice (some ⟨b', o', none⟩) _ c' => Nat.beq b' b && (isOpt o o' && isOpt c c')
  | _ => false
def chkV : VSh → Value → Bool
  | .agg l, v => isAggF l v
  | .intC k n, v => isIntC k n v
  | .int k, v => isInt k v
  | .bool, v => isBool v
  | .boolC b, v => isBoolC b v
  | .str, v => isStr v
  | .nilP, v => isNilP v
  | .ptr b o, v => isPtr b o v
  | .nilS, v => isNilS v
  | .sl b o c, v => isSl b o c v
  | .row, v => isRow v
def rebV : VSh → Value → Value
  | .agg l, v => .agg (rebF l (fun i => (aggOf v).getD i undef) 0).toArray
  | .intC k n, _ => .int k n
  | .int k, v => .int k (toInt v)
  | .bool, v => .bool (toBool v)
  | .boolC b, _ => .bool b
  | .str, v => .string (toStr v)
  | .nilP, _ => .pointer none
  | .ptr b o, _ => .pointer (some ⟨b, o, none⟩)
  | .nilS, _ => .slice none 0 0
  | .sl b o c, v => .slice (some ⟨b, o.getD (sliceOff v), none⟩) (sliceLen v) (c.getD (capOf v))
  | .row, v => .iface (sliceLen v) (.agg (aggOf v).toArray)
theorem isOpt_ok {o : Option Nat} {x : Nat} (h : isOpt o x = true) : o.getD x = x := by
  cases o with
  | none => rfl
  | some y => exact (Nat.eq_of_beq_eq_true h).symm
theorem chkV_ok {s : VSh} {v : Value} (h : chkV s v = true) : v = rebV s v := by
  cases s with
  | agg l =>
    change isAggF l v = true at h
    unfold isAggF at h
    split at h
    · rename_i cs
      show _ = Value.agg (rebF l (fun i => cs.toList.getD i undef) 0).toArray
      rw [← chkF_ok (g := fun i => cs.toList.getD i undef) (i := 0) h (fun j _ => by rw [Nat.zero_add]), Array.toArray_toList]
    · cases h
  | intC k n =>
    change isIntC k n v = true at h
    unfold isIntC at h
    split at h
    · simp only [Bool.and_eq_true, decide_eq_true_eq] at h
      rw [h.1, h.2]; rfl
    · cases h
  | int k =>
    change isInt k v = true at h
    unfold isInt at h
    split at h
    · rw [of_decide_eq_true h]; rfl
    · cases h
  | bool =>
    change isBool v = true at h
    unfold isBool at h
    split at h
    · rfl
    · cases h
  | boolC b =>
    change isBoolC b v = true at h
    unfold isBoolC at h
    split at h
    · rw [eq_of_beq h]; rfl
    · cases h
  | str =>
    change isStr v = true at h
    unfold isStr at h
    split at h
    · rfl
    · cases h
  | nilP =>
    change isNilP v = true at h
    unfold isNilP at h
    split at h
    · rfl
    · cases h
  | ptr b o =>
    change isPtr b o v = true at h
    unfold isPtr at h
    split at h
    · simp only [Bool.and_eq_true] at h
      rw [Nat.eq_of_beq_eq_true h.1, Nat.eq_of_beq_eq_true h.2]; rfl
    · cases h
  | nilS =>
    change isNilS v = true at h
    unfold isNilS at h
    split at h
    · simp only [Bool.and_eq_true] at h
      rw [Nat.eq_of_beq_eq_true h.1, Nat.eq_of_beq_eq_true h.2]; rfl
    · cases h
  | sl b o c =>
    change isSl b o c v = true at h
    unfold isSl at h
    split at h
    · rename_i b' o' n c'
      simp only [Bool.and_eq_true] at h
      have e1 := isOpt_ok h.2.1
      have e2 := isOpt_ok h.2.2
      show _ = Value.slice (some ⟨b, o.getD o', none⟩) n (c.getD c')
      rw [Nat.eq_of_beq_eq_true h.1, e1, e2]
    · cases h
  | row =>
    change isRow v = true at h
    unfold isRow at h
    split at h
    · rename_i n cs
      show _ = Value.iface n (.agg cs.toList.toArray)
      rw [Array.toArray_toList]
    · cases h
def chkL : List VSh → List Value → Bool
  | [], [] => true
  | s :: r, v :: a => chkV s v && chkL r a
  | _, _ => false
def rebL : List VSh → (Nat → Value) → Nat → List Value
  | [], _, _ => []
  | s :: r, g, i => rebV s (g i) :: rebL r g (i + 1)
theorem chkL_ok : ∀ {l : List VSh} {a : List Value} {g : Nat → Value} {i : Nat}, chkL l a = true → (∀ j, j < a.length → g (i + j) = a.getD j undef) → a = rebL l g i
  | [], [], g, i, _, _ => rfl
  | [], _ :: _, g, i, h, _ => by cases h
  | _ :: _, [], g, i, h, _ => by cases h
  | s :: r, v :: a, g, i, h, hg => by
    simp only [chkL, Bool.and_eq_true] at h
    have e0 : g i = v := by have := hg 0 (by simp); simpa using this
    rw [rebL, e0, ← chkV_ok h.1, ← chkL_ok (g := g) (i := i + 1) h.2 (fun j hj => by
      have := hg (j + 1) (by simpa using hj)
      rw [show i + 1 + j = i + (j + 1) by omega, this]
      rfl)]
inductive BSh where
  | cells (l : List VSh) (e : TypeId) (g : Option Nat)
  | any (e : TypeId) (g : Option Nat)
  | obj
def sameG : Option Nat → Option Nat → Bool
  | none, none => true
  | some a, some b => Nat.beq a b
  | _, _ => false
theorem sameG_ok : ∀ {a b : Option Nat}, sameG a b = true → a = b
  | none, none, _ => rfl
  | some a, some b, h => by rw [Nat.eq_of_beq_eq_true h]
  | none, some _, h => by cases h
  | some _, none, h => by cases h
def chkO : BSh → Option Ob → Bool
  | .cells l e g, some (.cells cs e' g') => chkL l cs && (Nat.beq e' e && sameG g' g)
  | .any e g, some (.cells _ e' g') => Nat.beq e' e && sameG g' g
  | .obj, some (.obj _) => true
  | _, _ => false
def rebO : BSh → List Value → Heap → Option Ob
  | .cells l e g, cs, _ => some (.cells (rebL l (fun i => cs.getD i undef) 0) e g)
  | .any e g, cs, _ => some (.cells cs e g)
  | .obj, _, J => some (.obj J)
def cellsOfO : Option Ob → List Value
  | some (.cells cs _ _) => cs
  | _ => []
def objOfO : Option Ob → Heap
  | some (.obj J) => J
  | _ => []
theorem chkO_ok {b : BSh} {o : Option Ob} (h : chkO b o = true) : o = rebO b (cellsOfO o) (objOfO o) := by
  unfold chkO at h
  split at h
  · rename_i l e g cs e' g'
    simp only [Bool.and_eq_true] at h
    rw [Nat.eq_of_beq_eq_true h.2.1, sameG_ok h.2.2]
    show _ = some (Ob.cells (rebL l (fun i => cs.getD i undef) 0) e g)
    rw [← chkL_ok (g := fun i => cs.getD i undef) (i := 0) h.1 (fun j _ => by rw [Nat.zero_add])]
  · rename_i e g cs e' g'
    simp only [Bool.and_eq_true] at h
    rw [Nat.eq_of_beq_eq_true h.1, sameG_ok h.2]
    rfl
  · rfl
  · cases h
def chkH : List BSh → Heap → Bool
  | [], [] => true
  | b :: r, o :: h => chkO b o && chkH r h
  | _, _ => false
def rebH : List BSh → (Nat → List Value) → (Nat → Heap) → Nat → Heap
  | [], _, _, _ => []
  | b :: r, g, gj, i => rebO b (g i) (gj i) :: rebH r g gj (i + 1)
theorem chkH_ok : ∀ {l : List BSh} {h : Heap} {g : Nat → List Value} {gj : Nat → Heap} {i : Nat}, chkH l h = true → (∀ j, j < h.length → g (i + j) = cellsOf h j) → (∀ j, j < h.length → gj (i + j) = objOf h j) → h = rebH l g gj i
  | [], [], g, gj, i, _, _, _ => rfl
  | [], _ :: _, g, gj, i, h, _, _ => by cases h
  | _ :: _, [], g, gj, i, h, _, _ => by cases h
  | b :: r, o :: h, g, gj, i, hc, hg, hj => by
    simp only [chkH, Bool.and_eq_true] at hc
    have e0 : g i = cellsOfO o := by
      have := hg 0 (by simp)
      rw [Nat.add_zero] at this
      rw [this]
      cases o with
      | none => rfl
      | some o => cases o <;> rfl
    have e1 : gj i = objOfO o := by
      have := hj 0 (by simp)
      rw [Nat.add_zero] at this
      rw [this]
      cases o with
      | none => rfl
      | some o => cases o <;> rfl
    rw [rebH, e0, e1, ← chkO_ok hc.1, ← chkH_ok (g := g) (gj := gj) (i := i + 1) hc.2 (fun j hj => by
      have := hg (j + 1) (by simpa using hj)
      rw [show i + 1 + j = i + (j + 1) by omega, this]
      rfl) (fun j hjj => by
      have := hj (j + 1) (by simpa using hjj)
      rw [show i + 1 + j = i + (j + 1) by omega, this]
      rfl)]
/-- A contract: the shapes of arguments and memory are looked at, what stands in them is read out (ex). -/
noncomputable def kS {α : Type} (ex : List Value → Heap → α) (sA : List VSh) (sH : List BSh) (pre : α → Prop) (r : α → Value) (rH : α → Heap) : Ct := fun args H =>
  some ([chkL sA args, chkH sH H, pdec (pre (ex args H))], r (ex args H), rH (ex args H))
theorem kS_ok {E : Env} {g : FuncId} {α : Type} {ex : List Value → Heap → α} {sA : List VSh} {sH : List BSh} {pre : α → Prop} {r : α → Value} {rH : α → Heap} {A : α → List Value} {M : α → Heap} (h : ∀ x, pre x → CallOk E g (A x) (M x) (r x) (rH x))
    (eA : ∀ a h, rebL sA (fun i => a.getD i undef) 0 = A (ex a h)) (eH : ∀ a h, rebH sH (fun j => cellsOf h j) (fun j => objOf h j) 0 = M (ex a h)) : KFor E g (kS ex sA sH pre r rH) := by
  intro args H ok v H' hk hok
  unfold kS at hk
  cases hk
  simp only [AllT.cons] at hok
  obtain ⟨h1, h2, h3, _⟩ := hok
  have e1 : args = A (ex args H) := by rw [← eA]; exact chkL_ok h1 (fun j _ => by rw [Nat.zero_add])
  have e2 : H = M (ex args H) := by rw [← eH args]; exact chkH_ok h2 (fun j _ => by rw [Nat.zero_add]) (fun j _ => by rw [Nat.zero_add])
  have := h _ (pdec_iff.1 h3)
  rw [← e1, ← e2] at this
  exact this
end Go.Am
