/-
  The abstract machine: runs that are carried out value by value: the same runs.
-/
import Derived.Test.YtabloimmlmgcbaaAmLift
namespace Go.Am
set_option linter.unusedVariables false

def fNat {β : Type} (m : Nat) (k : Nat → β) : β :=
  match m with
  | 0 => k 0
  | m + 1 => k (m + 1)
def fInt {β : Type} (n : Int) (k : Int → β) : β :=
  match n with
  | .ofNat m => fNat m fun m => k (.ofNat m)
  | .negSucc m => fNat m fun m => k (.negSucc m)
def fBytes {β : Type} (l : List UInt8) (k : List UInt8 → β) : β :=
  match l with
  | [] => k []
  | x :: r => fBytes r fun r => k (x :: r)
def fList {α β : Type} (l : List α) (k : List α → β) : β :=
  match l with
  | [] => k []
  | x :: r => fList r fun r => k (x :: r)
def fV {β : Type} (v : Value) (k : Value → β) : β :=
  match v with
  | .bool true => k (.bool true)
  | .bool false => k (.bool false)
  | .int q n => fInt n fun n => k (.int q n)
  | .string ⟨⟨l⟩⟩ => fBytes l fun l => k (.string ⟨⟨l⟩⟩)
  | .slice a n c => fNat n fun n => fNat c fun c => k (.slice a n c)
  | .pointer (some ⟨b, o, v⟩) => fNat b fun b => fNat o fun o => k (.pointer (some ⟨b, o, v⟩))
  | v => k v
def fVs {β : Type} (l : List Value) (k : List Value → β) : β :=
  match l with
  | [] => k []
  | x :: r => fV x fun x => fVs r fun r => k (x :: r)
def fOb {β : Type} (o : Ob) (k : Ob → β) : β :=
  match o with
  | .cells cs e g => fVs cs fun cs => k (.cells cs e g)
  | o => k o
def fHeap {β : Type} (l : Heap) (k : Heap → β) : β :=
  match l with
  | [] => k []
  | none :: r => fHeap r fun r => k (none :: r)
  | some x :: r => fOb x fun x => fHeap r fun r => k (some x :: r)
def fC {β : Type} (C : Cfg) (k : Cfg → β) : β :=
  match C.fr.todo with
  | .inRegion _ (_ :: _) :: _ => k C
  | _ => fHeap C.H fun H => k { fr := C.fr, cs := C.cs, H := H }

theorem fNat_eq {β : Type} (m : Nat) (k : Nat → β) : fNat m k = k m := by cases m <;> rfl
theorem fInt_eq {β : Type} (n : Int) (k : Int → β) : fInt n k = k n := by cases n <;> (unfold fInt; exact fNat_eq _ _)
theorem fBytes_eq {β : Type} : ∀ (l : List UInt8) (k : List UInt8 → β), fBytes l k = k l
  | [], k => rfl
  | x :: r, k => fBytes_eq r _
theorem fV_eq {β : Type} (v : Value) (k : Value → β) : fV v k = k v := by
  unfold fV
  split
  · rfl
  · rfl
  · exact fInt_eq _ _
  · exact fBytes_eq _ _
  · rw [fNat_eq, fNat_eq]
  · rw [fNat_eq, fNat_eq]
  · rfl
theorem fVs_eq {β : Type} : ∀ (l : List Value) (k : List Value → β), fVs l k = k l
  | [], k => rfl
  | x :: r, k => by rw [fVs, fV_eq, fVs_eq]
theorem fOb_eq {β : Type} (o : Ob) (k : Ob → β) : fOb o k = k o := by
  cases o with
  | cells cs e g => exact fVs_eq _ _
  | _ => rfl
theorem fHeap_eq {β : Type} : ∀ (l : Heap) (k : Heap → β), fHeap l k = k l
  | [], k => rfl
  | none :: r, k => by rw [fHeap, fHeap_eq]
  | some x :: r, k => by rw [fHeap, fOb_eq, fHeap_eq]
theorem fC_eq {β : Type} (C : Cfg) (k : Cfg → β) : fC C k = k C := by
  unfold fC
  split
  · rfl
  · rw [fHeap_eq]

/-- xrun, value by value. -/
def xrunF (E : Env) (K : Ctr) : Nat → Run
  | 0 => fun orc ok C => some (ok, orc, C)
  | n + 1 => fun orc ok C =>
    match done C with
    | true => some (ok, orc, C)
    | false => match xstep E K (callBy E K (xrunF E K n)) orc C with
      | some (ok', orc', C') => fC C' fun C' => xrunF E K n orc' (ok' ++ ok) C'
      | none => none

theorem xrunF_eq (E : Env) (K : Ctr) : ∀ n, xrunF E K n = xrun E K n
  | 0 => rfl
  | n + 1 => by
    funext orc ok C
    simp only [xrunF, xrun, xrunF_eq E K n, fC_eq]
    rfl

theorem xrunF_sound {E : Env} {K : Ctr} (hK : KOk E K) (n : Nat) : RunOk E (xrunF E K n) := by
  rw [xrunF_eq]
  exact xrun_sound hK n
end Go.Am
