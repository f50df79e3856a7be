/-
  The abstract machine: how its values, blocks, frames and configurations stand for the model's.
-/
import Derived.Test.YtabloimmlmgcbaaAmDef
import Derived.Below
import Derived.Laws.AppendOwn
namespace Go.Am

structure Nm where
  blk : Nat
  base : Nat
  tot : Nat
  flex : Option Nat
  ph : Bool

def addr (x : Nm) (o : Nat) : Addr := ⟨x.blk, x.base + o, none⟩

/-- What stays as it is; of that, what the call's values may read. -/
structure Prot where
  keep : Nat → Option Obj
  rd : Nat → Option Obj
  sub : ∀ b o, rd b = some o → keep b = some o

/-- A cell that may be read. -/
def rd (Pr : Prot) (b o : Nat) : Option Value :=
  match Pr.rd b with
  | some (.cells c _ _) => c[o]?
  | _ => none

/-- What names nothing of the call's own. -/
inductive V0 (Pr : Prot) : Value → Value → Prop
  | bool (b : Bool) : V0 Pr (.bool b) (.bool b)
  | int (k : IntKind) (n : Int) : V0 Pr (.int k n) (.int k n)
  | str (s : ByteArray) : V0 Pr (.string s) (.string s)
  | pnil : V0 Pr (.pointer none) (.pointer none)
  | snil : V0 Pr (.slice none 0 0) (.slice none 0 0)
  | fnil : V0 Pr .nilFunc .nilFunc
  | inil : V0 Pr .nilIface .nilIface
  | rov (n : Nat) (cs : Array Value) (b o c' : Nat) (f : Nat → Value) (hn : n ≤ c') (h : ∀ k, k < cs.size → rd Pr b (o + k) = some (f k)) (hv : ∀ k, k < cs.size → V0 Pr (cs.getD k undef) (f k)) :
      V0 Pr (.iface n (.agg cs)) (.slice (some ⟨b, o, none⟩) n c')
  | rov0 (cs : Array Value) (a : Option Addr) (c' : Nat) (h : cs.size = 0) : V0 Pr (.iface 0 (.agg cs)) (.slice a 0 c')
  | rop (p : Nat) (cs : Array Value) (b o : Nat) (f : Nat → Value) (h : ∀ k, k < cs.size → rd Pr b (o + k) = some (f k)) (hv : ∀ k, k < cs.size → V0 Pr (cs.getD k undef) (f k)) :
      V0 Pr (.iface p (.tuple cs)) (.pointer (some ⟨b, o + p, none⟩))

inductive VR (Pr : Prot) (A : Nat → Prop) (ρ : Nat → Nm) : Value → Value → Prop
  | bool (b : Bool) : VR Pr A ρ (.bool b) (.bool b)
  | int (k : IntKind) (n : Int) : VR Pr A ρ (.int k n) (.int k n)
  | str (s : ByteArray) : VR Pr A ρ (.string s) (.string s)
  | pnil : VR Pr A ρ (.pointer none) (.pointer none)
  | snil : VR Pr A ρ (.slice none 0 0) (.slice none 0 0)
  | fnil : VR Pr A ρ .nilFunc .nilFunc
  | inil : VR Pr A ρ .nilIface .nilIface
  | ptr (i o : Nat) (h : A i) : VR Pr A ρ (.pointer (some ⟨i, o, none⟩)) (.pointer (some (addr (ρ i) o)))
  | slx (i o n c : Nat) (h : A i) (hf : (ρ i).flex = none) (hn : n ≤ c) : VR Pr A ρ (.slice (some ⟨i, o, none⟩) n c) (.slice (some (addr (ρ i) o)) n c)
  | slf (i o n c c' z : Nat) (h : A i) (hp : (ρ i).ph = false) (hf : (ρ i).flex = some z) (h1 : n ≤ c') (h2 : (ρ i).base + o + c' * z ≤ (ρ i).tot) (h3 : c' ≤ maxLen) :
      VR Pr A ρ (.slice (some ⟨i, o, none⟩) n c) (.slice (some (addr (ρ i) o)) n c')
  | sl0 (i o c : Nat) (a : Addr) (h : A i) : VR Pr A ρ (.slice (some ⟨i, o, none⟩) 0 c) (.slice (some a) 0 0)
  | nl0 (i o c : Nat) (h : A i) : VR Pr A ρ (.slice (some ⟨i, o, none⟩) 0 c) (.slice none 0 0)
  | rov (n : Nat) (cs : Array Value) (b o c' : Nat) (f : Nat → Value) (hn : n ≤ c') (h : ∀ k, k < cs.size → rd Pr b (o + k) = some (f k)) (hv : ∀ k, k < cs.size → V0 Pr (cs.getD k undef) (f k)) :
      VR Pr A ρ (.iface n (.agg cs)) (.slice (some ⟨b, o, none⟩) n c')
  | rov0 (cs : Array Value) (a : Option Addr) (c' : Nat) (h : cs.size = 0) : VR Pr A ρ (.iface 0 (.agg cs)) (.slice a 0 c')
  | rop (p : Nat) (cs : Array Value) (b o : Nat) (f : Nat → Value) (h : ∀ k, k < cs.size → rd Pr b (o + k) = some (f k)) (hv : ∀ k, k < cs.size → V0 Pr (cs.getD k undef) (f k)) :
      VR Pr A ρ (.iface p (.tuple cs)) (.pointer (some ⟨b, o + p, none⟩))
  | func (g : FuncId) (fs cs fs' cs' : Array Value) (h1 : fs.size = fs'.size) (h2 : cs.size = cs'.size)
      (hf : ∀ k, k < fs.size → VR Pr A ρ (fs.getD k undef) (fs'.getD k undef)) (hc : ∀ k, k < cs.size → VR Pr A ρ (cs.getD k undef) (cs'.getD k undef)) :
      VR Pr A ρ (.func (.func g) fs cs) (.func (.func g) fs' cs')
  | yld (l : Nat) (fs cs fs' cs' : Array Value) (h : A l) (h1 : fs.size = fs'.size) (hf : ∀ k, k < fs.size → VR Pr A ρ (fs.getD k undef) (fs'.getD k undef)) :
      VR Pr A ρ (.func (.yield l) fs cs) (.func (.yield (ρ l).blk) fs' cs')
  | agg (cs cs' : Array Value) (h : cs.size = cs'.size) (hv : ∀ k, k < cs.size → VR Pr A ρ (cs.getD k undef) (cs'.getD k undef)) : VR Pr A ρ (.agg cs) (.agg cs')
  | tup (cs cs' : Array Value) (h : cs.size = cs'.size) (hv : ∀ k, k < cs.size → VR Pr A ρ (cs.getD k undef) (cs'.getD k undef)) : VR Pr A ρ (.tuple cs) (.tuple cs')

section
variable {Pr Pr' : Prot} {A A' : Nat → Prop} {ρ ρ' : Nat → Nm}

theorem rd_mono (hP : ∀ b o, Pr.rd b = some o → Pr'.rd b = some o) {b o : Nat} {x : Value} (hx : rd Pr b o = some x) : rd Pr' b o = some x := by
  unfold rd at hx ⊢
  cases hb : Pr.rd b with
  | none => simp [hb] at hx
  | some ob => rw [hP b ob hb]; rw [hb] at hx; exact hx

theorem V0.mono (hP : ∀ b o, Pr.rd b = some o → Pr'.rd b = some o) {v v' : Value} (h : V0 Pr v v') : V0 Pr' v v' := by
  induction h with
  | bool b => exact .bool b
  | int k n => exact .int k n
  | str s => exact .str s
  | pnil => exact .pnil
  | snil => exact .snil
  | fnil => exact .fnil
  | inil => exact .inil
  | rov n cs b o c' f hn h hv ih => exact .rov n cs b o c' f hn (fun k hk => rd_mono hP (h k hk)) ih
  | rov0 cs a c' h => exact .rov0 cs a c' h
  | rop p cs b o f h hv ih => exact .rop p cs b o f (fun k hk => rd_mono hP (h k hk)) ih

theorem V0.vr {v v' : Value} (h : V0 Pr v v') : VR Pr A ρ v v' := by
  cases h with
  | bool b => exact .bool b
  | int k n => exact .int k n
  | str s => exact .str s
  | pnil => exact .pnil
  | snil => exact .snil
  | fnil => exact .fnil
  | inil => exact .inil
  | rov n cs b o c' f hn h hv => exact .rov n cs b o c' f hn h hv
  | rov0 cs a c' h => exact .rov0 cs a c' h
  | rop p cs b o f h hv => exact .rop p cs b o f h hv

theorem VR.mono (hP : ∀ b o, Pr.rd b = some o → Pr'.rd b = some o) (hA : ∀ i, A i → A' i) (hr : ∀ i, A i → ρ' i = ρ i) {v v' : Value} (h : VR Pr A ρ v v') : VR Pr' A' ρ' v v' := by
  induction h with
  | bool b => exact .bool b
  | int k n => exact .int k n
  | str s => exact .str s
  | pnil => exact .pnil
  | snil => exact .snil
  | fnil => exact .fnil
  | inil => exact .inil
  | ptr i o h => rw [← hr i h]; exact .ptr i o (hA i h)
  | slx i o n c h hf hn => rw [← hr i h]; exact .slx i o n c (hA i h) (by rw [hr i h]; exact hf) hn
  | nl0 i o c h => exact .nl0 i o c (hA i h)
  | slf i o n c c' z h hp hf h1 h2 h3 => rw [← hr i h]; exact .slf i o n c c' z (hA i h) (by rw [hr i h]; exact hp) (by rw [hr i h]; exact hf) h1 (by rw [hr i h]; exact h2) h3
  | sl0 i o c a h => exact .sl0 i o c a (hA i h)
  | rov n cs b o c' f hn h hv => exact .rov n cs b o c' f hn (fun k hk => rd_mono hP (h k hk)) (fun k hk => (hv k hk).mono hP)
  | rov0 cs a c' h => exact .rov0 cs a c' h
  | rop p cs b o f h hv => exact .rop p cs b o f (fun k hk => rd_mono hP (h k hk)) (fun k hk => (hv k hk).mono hP)
  | func g fs cs fs' cs' h1 h2 hf hc ih1 ih2 => exact .func g fs cs fs' cs' h1 h2 ih1 ih2
  | yld l fs cs fs' cs' h h1 hf ih => rw [← hr l h]; exact .yld l fs cs fs' cs' (hA l h) h1 ih
  | agg cs cs' h hv ih => exact .agg cs cs' h ih
  | tup cs cs' h hv ih => exact .tup cs cs' h ih

/-- Lists of values, one by one. -/
inductive VL (Pr : Prot) (A : Nat → Prop) (ρ : Nat → Nm) : List Value → List Value → Prop
  | nil : VL Pr A ρ [] []
  | cons {v v' : Value} {l l' : List Value} (h : VR Pr A ρ v v') (t : VL Pr A ρ l l') : VL Pr A ρ (v :: l) (v' :: l')

theorem VL.mono (hP : ∀ b o, Pr.rd b = some o → Pr'.rd b = some o) (hA : ∀ i, A i → A' i) (hr : ∀ i, A i → ρ' i = ρ i) {l l' : List Value} (h : VL Pr A ρ l l') : VL Pr' A' ρ' l l' := by
  induction h with
  | nil => exact .nil
  | cons h _ ih => exact .cons (h.mono hP hA hr) ih

theorem VL.length {l l' : List Value} (h : VL Pr A ρ l l') : l.length = l'.length := by
  induction h with
  | nil => rfl
  | cons _ _ ih => simp [ih]

theorem VL.append {a a' b b' : List Value} (h : VL Pr A ρ a a') (h2 : VL Pr A ρ b b') : VL Pr A ρ (a ++ b) (a' ++ b') := by
  induction h with
  | nil => exact h2
  | cons h _ ih => exact .cons h ih

theorem VL.get {l l' : List Value} (h : VL Pr A ρ l l') : ∀ k, k < l.length → VR Pr A ρ (l.getD k undef) (l'.getD k undef) := by
  induction h with
  | nil => intro k hk; simp at hk
  | cons h _ ih =>
    intro k hk
    cases k with
    | zero => simpa using h
    | succ k => simpa using ih k (by simpa using hk)

theorem VL.of_get : ∀ {l l' : List Value}, l.length = l'.length → (∀ k, k < l.length → VR Pr A ρ (l.getD k undef) (l'.getD k undef)) → VL Pr A ρ l l'
  | [], [], _, _ => .nil
  | a :: l, [], h, _ => by simp at h
  | [], a :: l, h, _ => by simp at h
  | a :: l, b :: l', h, hv => .cons (by simpa using hv 0 (by simp)) (VL.of_get (by simpa using h) fun k hk => by simpa using hv (k + 1) (by simpa using hk))

theorem VL.take {l l' : List Value} (h : VL Pr A ρ l l') : ∀ n, VL Pr A ρ (l.take n) (l'.take n) := by
  induction h with
  | nil => intro n; simp; exact .nil
  | cons h _ ih =>
    intro n
    cases n with
    | zero => exact .nil
    | succ n => simpa using VL.cons h (ih n)

theorem VL.drop {l l' : List Value} (h : VL Pr A ρ l l') : ∀ n, VL Pr A ρ (l.drop n) (l'.drop n) := by
  induction h with
  | nil => intro n; simp; exact .nil
  | cons h t ih =>
    intro n
    cases n with
    | zero => exact .cons h t
    | succ n => simpa using ih n

theorem VL.set {l l' : List Value} (h : VL Pr A ρ l l') {v v' : Value} (hv : VR Pr A ρ v v') : ∀ k, VL Pr A ρ (l.set k v) (l'.set k v') := by
  induction h with
  | nil => intro k; simp; exact .nil
  | cons h t ih =>
    intro k
    cases k with
    | zero => exact .cons hv t
    | succ k => exact .cons h (ih k)

theorem VL.toArray {cs cs' : Array Value} (h : cs.size = cs'.size) (hv : ∀ k, k < cs.size → VR Pr A ρ (cs.getD k undef) (cs'.getD k undef)) : VL Pr A ρ cs.toList cs'.toList :=
  VL.of_get (by simpa using h) fun k hk => by
    have := hv k (by simpa using hk)
    simpa [Array.getD_eq_getD_getElem?, List.getD_eq_getElem?_getD] using this

theorem VR.aggL {l l' : List Value} (h : VL Pr A ρ l l') : VR Pr A ρ (.agg l.toArray) (.agg l'.toArray) :=
  .agg _ _ (by simpa using h.length) fun k hk => by
    have := h.get k (by simpa using hk)
    simpa [Array.getD_eq_getD_getElem?, List.getD_eq_getElem?_getD] using this
theorem VR.tupL {l l' : List Value} (h : VL Pr A ρ l l') : VR Pr A ρ (.tuple l.toArray) (.tuple l'.toArray) :=
  .tup _ _ (by simpa using h.length) fun k hk => by
    have := h.get k (by simpa using hk)
    simpa [Array.getD_eq_getD_getElem?, List.getD_eq_getElem?_getD] using this

theorem VR.aggInv {cs : Array Value} {v : Value} (h : VR Pr A ρ (.agg cs) v) : ∃ cs', v = .agg cs' ∧ VL Pr A ρ cs.toList cs'.toList := by
  cases h with
  | agg _ cs' h hv => exact ⟨cs', rfl, VL.toArray h hv⟩
theorem VR.tupInv {cs : Array Value} {v : Value} (h : VR Pr A ρ (.tuple cs) v) : ∃ cs', v = .tuple cs' ∧ VL Pr A ρ cs.toList cs'.toList := by
  cases h with
  | tup _ cs' h hv => exact ⟨cs', rfl, VL.toArray h hv⟩

theorem VR.flat {v : Value} (h : Am.flat v = true) : VR Pr A ρ v v := by
  unfold Am.flat at h
  split at h <;> first | exact .bool _ | exact .int _ _ | exact .str _ | exact .pnil | exact .snil | exact .fnil | exact .inil | cases h

theorem VL.flat : ∀ {l : List Value}, l.all Am.flat = true → VL Pr A ρ l l
  | [], _ => .nil
  | v :: l, h => by
    simp only [List.all_cons, Bool.and_eq_true] at h
    exact .cons (VR.flat h.1) (VL.flat h.2)

theorem VR.const {v : Value} (h : constOk v = true) : VR Pr A ρ v v := by
  unfold constOk at h
  split at h
  · simpa using VR.aggL (VL.flat (Pr := Pr) (A := A) (ρ := ρ) h)
  · simpa using VR.tupL (VL.flat (Pr := Pr) (A := A) (ρ := ρ) h)
  · exact VR.flat h

theorem VR.undef : VR Pr A ρ undef undef := by
  unfold Go.undef
  exact .tup _ _ rfl fun k hk => by simp at hk

end
end Go.Am
