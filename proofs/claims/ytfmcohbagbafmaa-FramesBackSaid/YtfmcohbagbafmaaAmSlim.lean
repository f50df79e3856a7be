/-
  The abstract machine: ways stated shortly: a run's result and what must be looked at, each by one look.
-/
import Derived.Test.YtfmcohbagbafmaaAmDt
import Derived.KernelRfl
set_option linter.unusedVariables false
set_option linter.unusedSimpArgs false
namespace Go.Am
def pfx (B : Nat) (l : List Nat) : Bool := (List.range B).all fun i => Nat.beq (l.getD i 0) i
theorem pfx_ok {B : Nat} {l : List Nat} (h : pfx B l = true) : ∀ i, i < B → l.getD i 0 = i := fun i hi => Nat.eq_of_beq_eq_true (List.all_eq_true.1 h i (List.mem_range.2 hi))
def fnIs (g : Nat) : Option Nat → Bool
 | some f => Nat.beq f g
 | none => false
theorem fnIs_ok {g : Nat} : ∀ {o : Option Nat}, fnIs g o = true → o = some g
 | some f, h => by rw [Nat.eq_of_beq_eq_true h]
 | none, h => by cases h
def bsL : Nat → Nat → List Bool
 | 0, _ => []
 | k + 1, n => Nat.beq (Nat.mod n 2) 1 :: bsL k (Nat.div n 2)
def bs (k n : Nat) : Option (List Bool) := some (bsL k n)
theorem and4 {a b c d r : Bool} (ha : a = true) (hb : b = true) (hc : c = true) (hd : d = true) (hr : r = true) : (and a (and b (and c (and d r)))) = true := by
 subst ha hb hc hd; exact hr
theorem and8 {a b c d e f g h r : Bool} (ha : a = true) (hb : b = true) (hc : c = true) (hd : d = true) (he : e = true) (hf : f = true) (hg : g = true) (hh : h = true) (hr : r = true) : (and a (and b (and c (and d (and e (and f (and g (and h r)))))))) = true := by
 subst ha hb hc hd he hf hg hh; exact hr
theorem ends_q {E : Env} {K : Ctr} (hK : KOk E K) (N n : Nat) (ds : Option (List Bool)) (keep live keepE : List Nat) {g : FuncId} {H' : Heap} {C : Cfg} {ok : Bool} {v : Value} {B : Nat} (hok : ok = true) (h : goFinB E K N n ds keep live keepE C = some (ok, v, H') := by kernel_rfl)
  (hc : (fnIs g (fnAt (goGc E K N n ds keep live C)) && (Nat.ble B C.H.length && (pfx B keep && pfx B keepE))) = true := by kernel_rfl) : AEnds E g B C v H' := by
 simp only [Bool.and_eq_true] at hc
 exact ends_ofB hK h hok (fnIs_ok hc.1) (Nat.le_of_ble_eq_true hc.2.1) (pfx_ok hc.2.2.1) (pfx_ok hc.2.2.2)
theorem reach_q {E : Env} {K : Ctr} (hK : KOk E K) (N n : Nat) (ds : Option (List Bool)) (ls : List (List Nat)) (lp : List (Nat × List Nat)) (keep live : List Nat) (fx : List Fix) (keep2 live2 : List Nat) {C C' : Cfg} {ok : Bool} {B : Nat} (hok : ok = true) (h : goNilB E K N n ds ls lp keep live fx keep2 live2 C = some (ok, C') := by kernel_rfl)
  (hc : (Nat.ble B C.H.length && (pfx B keep && (pfx B keep2 && Nat.ble B keep.length))) = true := by kernel_rfl) : Gets E B C C' := by
 simp only [Bool.and_eq_true] at hc
 exact reach_gb hK h hok (Nat.le_of_ble_eq_true hc.1) (pfx_ok hc.2.1) (pfx_ok hc.2.2.1) (Nat.le_of_ble_eq_true hc.2.2.2)

/-! ### shapes: what is looked at of a value, of a row, of the memory; the rest is read out -/
inductive VSh where
 | int (k : IntKind)
 | bool
 | boolC (b : Bool)
 | str
 | nilP
 | ptr (b o : Nat)
 | nilS
 | sl (b : Nat) (o c : Option Nat)
 | row
inductive BSh where
 | cells (l : List VSh) (e : TypeId) (g : Option Nat)
 | any (e : TypeId) (g : Option Nat)
end Go.Am
