/-
  The abstract machine: definitions. A configuration holds frames whose temporaries are abstract values (the model's values, their addresses naming abstract blocks) and a list of abstract blocks. No statement of the program here.
-/
import Derived.Calls
import Derived.AtR
namespace Go.Am

/-- Temporaries: a tree over their numbers (an odd one goes left). -/
inductive Tm where
  | al (l : List (Nat × Value))
  | node (v : Option Value) (l r : Tm)

inductive Ob where
  | cells (c : List Value) (e : TypeId) (grow : Option Nat)
  | loop (st : LoopState) (pend : Option Code) (fn : FuncId) (tm : Tm) (nt : Nat) (params : Array Tmp) (assign body : Code) (defers : Nat)
  | defs (live : Bool)
  | obj (J : List (Option Ob))
  | log (c : List Value) (e : TypeId) (z : Nat)
  | fro (c : List Value) (e : TypeId) (z : Nat)

abbrev Heap := List (Option Ob)

/-- A table: a tree over numbers (an odd one goes left). -/
inductive Tr (α : Type) where
  | leaf
  | node (v : Option α) (l r : Tr α)
def Tr.get {α : Type} : Tr α → Nat → Option α
  | .leaf, _ => none
  | .node v l r, i => bif Nat.beq i 0 then v else bif Nat.beq (Nat.mod i 2) 1 then l.get (Nat.div i 2) else r.get (Nat.sub (Nat.div i 2) 1)
def Tr.All {α : Type} (P : Nat → α → Prop) : Tr α → Prop
  | .leaf => True
  | .node v l r => (∀ a, v = some a → P 0 a) ∧ l.All (fun i => P (2 * i + 1)) ∧ r.All (fun i => P (2 * i + 2))
theorem Tr.get_all {α : Type} : ∀ {t : Tr α} {P : Nat → α → Prop}, t.All P → ∀ n a, t.get n = some a → P n a
  | .leaf, P, _, n, a, h => by cases h
  | .node v l r, P, hA, n, a, h => by
    obtain ⟨h1, h2, h3⟩ := hA
    simp only [Tr.get] at h
    cases h0 : Nat.beq n 0 with
    | true =>
      rw [h0] at h
      have : n = 0 := Nat.eq_of_beq_eq_true h0
      subst this
      exact h1 a h
    | false =>
      have hn : n ≠ 0 := Nat.ne_of_beq_eq_false h0
      rw [h0] at h
      simp only [cond_false] at h
      cases h4 : Nat.beq (Nat.mod n 2) 1 with
      | true =>
        rw [h4] at h
        have h5 : n % 2 = 1 := Nat.eq_of_beq_eq_true h4
        have := Tr.get_all h2 _ a h
        have e : 2 * (n / 2) + 1 = n := by omega
        have e2 : 2 * Nat.div n 2 + 1 = n := e
        rw [e2] at this
        exact this
      | false =>
        rw [h4] at h
        have h5 : n % 2 ≠ 1 := Nat.ne_of_beq_eq_false h4
        have := Tr.get_all h3 _ a h
        have e : 2 * (n / 2 - 1) + 2 = n := by omega
        have e2 : 2 * Nat.sub (Nat.div n 2) 1 + 2 = n := e
        rw [e2] at this
        exact this
theorem Tr.all1 {α : Type} {P : Nat → α → Prop} {n : Nat} {x : α} (h : P n x) : ∀ a, some x = some a → P n a := by
  intro a ha
  cases ha
  exact h
theorem Tr.all0 {α : Type} {P : Nat → α → Prop} {n : Nat} : ∀ a, (none : Option α) = some a → P n a := by
  intro a ha
  cases ha

inductive Leaf where
  | int (k : IntKind)
  | bool
  | str
  | other
  | row

structure TI where
  und : TypeDesc
  size : Nat
  bytes : Nat
  zero : Value
  leaves : List Leaf

/-- What a function without a body does: hands back its argument; makes a row of bytes that nobody knows. -/
inductive Ext where
  | same
  | room (e : TypeId)

def ExtIs (P : Program) (F : Func) : Ext → Prop
  | .same => Extern.find F = some Extern.AbiNoEscape.same
  | .room e => Extern.find F = some (Extern.BytealgMakeNoZero.makeNoZero F.params F.resultTypes) ∧ ∃ t, F.resultTypes[0]? = some t ∧ P.underlying t = some (.slice e)

structure Env where
  P : Program
  fn : FuncId → Option Func
  ty : TypeId → Option TI
  fnOk : ∀ f F, fn f = some F → P.funcs[f]? = some F
  fnName : ∀ f F, fn f = some F → (F.name == "runtime.NumGoroutine") = false
  tyOk : ∀ t i, ty t = some i → P.underlying t = some i.und ∧ ∃ inf, P.info? t = some inf ∧ inf.size = i.size ∧ inf.bytes = i.bytes ∧ inf.zero = some i.zero
  mixed : P.follows .mixedOrders = true
  ext : FuncId → Option Ext
  extOk : ∀ f x, ext f = some x → ∃ F, P.funcs[f]? = some F ∧ (F.name == "runtime.NumGoroutine") = false ∧ F.body = none ∧ Extern.findNext F = none ∧ ExtIs P F x
  eqT : TypeId → Bool
  eqOk : ∀ t, eqT t = true → P.stoodInHeld t = false ∧ P.eqGuardType P.depth t = false
  symP : Bool := false
  pureF : FuncId → Bool := fun _ => false

structure AFr where
  fn : FuncId
  nt : Nat
  tm : Tm
  todo : List Item
  defers : List Nat
  rnd : Option Nat
  dk : List Tmp

structure Cfg where
  fr : AFr
  cs : List AFr
  H : Heap

/-! ### values -/

def toInt : Value → Int
  | .int _ n => n
  | _ => 0
def isInt (k : IntKind) : Value → Bool
  | .int k' _ => decide (k' = k)
  | _ => false
def toBool : Value → Bool
  | .bool b => b
  | _ => false
def isBool : Value → Bool
  | .bool _ => true
  | _ => false
def toStr : Value → ByteArray
  | .string s => s
  | _ => ⟨#[]⟩
def isStr : Value → Bool
  | .string _ => true
  | _ => false

def aggOf : Value → List Value
  | .iface _ (.agg cs) => cs.toList
  | .agg cs => cs.toList
  | .tuple cs => cs.toList
  | _ => []
def sliceLen : Value → Nat
  | .slice _ n _ => n
  | .iface n _ => n
  | _ => 0
/-- A slice that is only read. -/
def isRow : Value → Bool
  | .iface _ (.agg _) => true
  | _ => false

/-- A leaf's value in constructor form, and what must hold for that. -/
def proj : Leaf → Value → Value
  | .int k, v => .int k (toInt v)
  | .bool, v => .bool (toBool v)
  | .str, v => .string (toStr v)
  | .other, v => v
  | .row, v => .iface (sliceLen v) (.agg (aggOf v).toArray)
def projOk : Leaf → Value → List Bool
  | .int k, v => [isInt k v]
  | .bool, v => [isBool v]
  | .str, v => [isStr v]
  | .other, _ => []
  | .row, v => [isRow v]

/-- The value of one cell. -/
def one : Value → Bool
  | .agg _ | .tuple _ => false
  | _ => true

/-- A plain constant. -/
def flat : Value → Bool
  | .bool _ | .int _ _ | .string _ | .pointer none | .slice none 0 0 | .nilFunc | .nilIface => true
  | _ => false
def constOk : Value → Bool
  | .agg cs => cs.toList.all flat
  | .tuple cs => cs.toList.all flat
  | v => flat v

def toL (s : ByteArray) : List UInt8 := s.data.toList
def ofL (l : List UInt8) : ByteArray := ⟨l.toArray⟩
def sub (s : ByteArray) (l h : Nat) : ByteArray := ofL (((toL s).drop l).take (h - l))
def cat (x y : ByteArray) : ByteArray := ofL (toL x ++ toL y)
def chr (s : ByteArray) (i : Nat) : Int := (((toL s).getD i 0).toNat : Int)
def slen (s : ByteArray) : Nat := (toL s).length
def bytesOf (l : List Value) : ByteArray := ofL (l.map fun v => UInt8.ofNat (toInt v).toNat)
def ofBytes (s : ByteArray) : List Value := (toL s).map fun b => Value.int .u8 b.toNat

/-! ### temporaries -/

def getT : Tm → Nat → Option Value
  | .al l, i => l.lookup i
  | .node v l r, i => bif Nat.beq i 0 then v else bif Nat.beq (Nat.mod i 2) 1 then getT l (Nat.div i 2) else getT r (Nat.sub (Nat.div i 2) 1)

def setT : Tm → Nat → Value → Tm
  | .al l, i, v => .al ((i, v) :: l)
  | .node u l r, i, v => bif Nat.beq i 0 then .node (some v) l r else bif Nat.beq (Nat.mod i 2) 1 then .node u (setT l (Nat.div i 2) v) r else .node u l (setT r (Nat.sub (Nat.div i 2) 1) v)

def emptyT : Nat → Tm
  | 0 => .al []
  | d + 1 => .node none (emptyT d) (emptyT d)

def putArgs : Tm → Nat → List Value → Tm
  | t, _, [] => t
  | t, i, v :: r => putArgs (setT t i v) (i + 1) r

def evalT (t : Tm) : Operand → Option Value
  | .tmp i => getT t i
  | .const v => if constOk v then some v else none
  | .global _ => none
  | .func f => some (.func (.func f) #[] #[])

def evalL (t : Tm) : List Operand → Option (List Value)
  | [] => some []
  | x :: l => match evalT t x, evalL t l with
    | some v, some vs => some (v :: vs)
    | _, _ => none

/-! ### decisions -/

/-- What is decided of a Bool: the decision, what must hold, the rest of the oracle. Without an oracle the Bool itself decides. -/
def decide1 (orc : Option (List Bool)) (b : Bool) : Option (Bool × List Bool × Option (List Bool)) :=
  match orc with
  | none => some (b, [], none)
  | some (d :: r) => some (d, [b == d], some r)
  | some [] => none

/-! ### blocks -/

def getO (H : Heap) (i : Nat) : Option Ob :=
  match H[i]? with
  | some (some o) => some o
  | _ => none

def loadN (cs : List Value) (o : Nat) : List Leaf → Nat → List Value
  | [], _ => []
  | l :: r, k => proj l (cs.getD (o + k) undef) :: loadN cs o r (k + 1)
def loadNOk (cs : List Value) (o : Nat) : List Leaf → Nat → List Bool
  | [], _ => []
  | l :: r, k => projOk l (cs.getD (o + k) undef) ++ loadNOk cs o r (k + 1)

def isAggT : TypeDesc → Bool
  | .struct _ | .array _ _ => true
  | _ => false

/-- A variable of a type, read at an offset of a row of cells. -/
def loadV (i : TI) (cs : List Value) (o : Nat) : Option (Value × List Bool) :=
  if isAggT i.und then
    if i.leaves.length = i.size then some (.agg (loadN cs o i.leaves 0).toArray, decide (o + i.size ≤ cs.length) :: loadNOk cs o i.leaves 0) else none
  else match i.leaves with
    | [l] => some (proj l (cs.getD o undef), decide (o < cs.length) :: projOk l (cs.getD o undef))
    | _ => none

def setN (cs : List Value) (o : Nat) : List Value → List Value
  | [] => cs
  | v :: r => setN (cs.set o v) (o + 1) r

/-! ### operations -/

inductive Nx where
  | val (v : Value) (H : Heap)
  | enter (f : FuncId) (args : List Value)
  | yield (l : Nat) (args : List Value)

abbrev Res := Option (Nx × List Bool)

def ival (H : Heap) (v : Value) (ok : List Bool) : Res := some (.val v H, ok)

def iand (k : IntKind) (a b : Int) : Int := k.wrap (BitVec.ofInt k.bits a &&& BitVec.ofInt k.bits b).toNat
def ior (k : IntKind) (a b : Int) : Int := k.wrap (BitVec.ofInt k.bits a ||| BitVec.ofInt k.bits b).toNat
def ixor (k : IntKind) (a b : Int) : Int := k.wrap (BitVec.ofInt k.bits a ^^^ BitVec.ofInt k.bits b).toNat
def iandn (k : IntKind) (a b : Int) : Int := k.wrap (BitVec.ofInt k.bits a &&& ~~~(BitVec.ofInt k.bits b)).toNat
def ishl (k : IntKind) (a b : Int) : Int := k.wrap (a * 2 ^ (min b.toNat k.bits))
def ishr (k : IntKind) (a b : Int) : Int := a.fdiv (2 ^ (min b.toNat k.bits))
def inot (k : IntKind) (n : Int) : Int := k.wrap (BitVec.ofInt k.bits (if k.signed then -1 else k.max) ^^^ BitVec.ofInt k.bits n).toNat
def binI (op : BinOp) (k : IntKind) (a b : Int) : Option (Value × List Bool) :=
  match op with
  | .add => some (.int k (k.wrap (a + b)), [])
  | .sub => some (.int k (k.wrap (a - b)), [])
  | .mul => some (.int k (k.wrap (a * b)), [])
  | .quo => some (.int k (k.wrap (a.tdiv b)), [b != 0])
  | .rem => some (.int k (a.tmod b), [b != 0])
  | .and => some (.int k (iand k a b), [])
  | .or => some (.int k (ior k a b), [])
  | .xor => some (.int k (ixor k a b), [])
  | .andNot => some (.int k (iandn k a b), [])
  | .eql => some (.bool (a == b), [])
  | .neq => some (.bool (a != b), [])
  | .lss => some (.bool (decide (a < b)), [])
  | .leq => some (.bool (decide (a ≤ b)), [])
  | .gtr => some (.bool (decide (b < a)), [])
  | .geq => some (.bool (decide (b ≤ a)), [])
  | .shl | .shr => none

def binS (op : BinOp) (a b : ByteArray) : Option (Value × List Bool) :=
  match op with
  | .add => some (.string (cat a b), [decide (slen a + slen b ≤ 9223372036854775807)])
  | .eql => some (.bool (toL a == toL b), [])
  | .neq => some (.bool !(toL a == toL b), [])
  | _ => none

/-- '==' between a thing and nothing. -/
def eqNil : TypeDesc → Value → Value → Option Bool
  | .pointer _, .pointer none, .pointer b => some b.isNone
  | .pointer _, .pointer (some _), .pointer none => some false
  | .slice _, .slice none _ _, .slice b _ _ => some b.isNone
  | .slice _, .slice (some _) _ _, .slice none _ _ => some false
  | .func _ _ _, .nilFunc, .nilFunc => some true
  | .func _ _ _, .nilFunc, .func _ _ _ => some false
  | .func _ _ _, .func _ _ _, .nilFunc => some false
  | _, _, _ => none

/-- A slice that may be none or not tells nothing beside nothing, unless it holds something. -/
def nilOk : Value → List Bool
  | .slice (some _) n _ => [decide (0 < n)]
  | _ => []

def undT (E : Env) (t : TypeId) : Option TypeDesc :=
  match E.ty t with
  | some i => some i.und
  | none => none

/-- The fields of two structs, one by one. -/
def eqFields (E : Env) (r : TypeId → Value → Value → Option (Bool × List Bool)) (xs ys : List Value) : List Field → Option (Bool × List Bool)
  | [] => some (true, [])
  | f :: fs =>
    if f.name = "_" then eqFields E r xs ys fs else
    match E.ty f.type with
    | some i => match loadV i xs f.offset, loadV i ys f.offset with
      | some (a, ok1), some (b, ok2) => match r f.type a b, eqFields E r xs ys fs with
        | some (p, ok3), some (q, ok4) => some (p && q, ok1 ++ (ok2 ++ (ok3 ++ ok4)))
        | _, _ => none
      | _, _ => none
    | none => none

/-- The elements of two arrays from the k-th on. -/
def eqElems (r : Value → Value → Option (Bool × List Bool)) (i : TI) (xs ys : List Value) : Nat → Nat → Option (Bool × List Bool)
  | 0, _ => some (true, [])
  | n + 1, k =>
    match loadV i xs (k * i.size), loadV i ys (k * i.size) with
    | some (a, ok1), some (b, ok2) => match r a b, eqElems r i xs ys n (k + 1) with
      | some (p, ok3), some (q, ok4) => some (p && q, ok1 ++ (ok2 ++ (ok3 ++ ok4)))
      | _, _ => none
    | _, _ => none

/-- '==' of two values of a type: the answer, what must hold for that. -/
def eqIn (E : Env) : Nat → TypeId → Value → Value → Option (Bool × List Bool)
  | 0, _, _, _ => none
  | d + 1, t, x, y =>
    match undT E t, x, y with
    | some .bool, .bool a, .bool b => some (a == b, [])
    | some (.int _), .int k a, .int k' b => if k = k' then some (a == b, []) else none
    | some .string, .string a, .string b => some (toL a == toL b, [])
    | some (.struct fs), .agg xs, .agg ys => if E.eqT t then eqFields E (eqIn E d) xs.toList ys.toList fs.toList else none
    | some (.array n e), .agg xs, .agg ys => match E.ty e with
      | some i => eqElems (eqIn E d e) i xs.toList ys.toList n 0
      | none => none
    | some u, x, y => match eqNil u x y with
      | some b => some (b, nilOk x ++ nilOk y)
      | none => none
    | none, _, _ => none

def binE (op : BinOp) : Option (Bool × List Bool) → Option (Value × List Bool)
  | some (b, ok) => match op with
    | .eql => some (.bool b, ok)
    | .neq => some (.bool !b, ok)
    | _ => none
  | none => none

def binB (op : BinOp) (a b : Bool) : Option (Value × List Bool) :=
  match op with
  | .eql => some (.bool (a == b), [])
  | .neq => some (.bool !(a == b), [])
  | _ => none

def binN (op : BinOp) (r : Bool) : Option (Value × List Bool) :=
  match op with
  | .eql => some (.bool r, [])
  | .neq => some (.bool !r, [])
  | _ => none

def binSh (op : BinOp) (k : IntKind) (a b : Int) : Option (Value × List Bool) :=
  match op with
  | .shl => some (.int k (ishl k a b), [decide (0 ≤ b)])
  | .shr => some (.int k (ishr k a b), [decide (0 ≤ b)])
  | _ => none

def binop (E : Env) (op : BinOp) (t : TypeId) (x y : Value) : Option (Value × List Bool) :=
  match x, y with
  | .int k a, .int k' b =>
    match op with
    | .shl => binSh .shl k a b
    | .shr => binSh .shr k a b
    | op => if k = k' then binI op k a b else none
  | .string a, .string b => binS op a b
  | .bool a, .bool b =>
    match undT E t with
    | some .bool => binB op a b
    | _ => none
  | .agg xs, .agg ys => if E.eqT t then binE op (eqIn E 8 t (.agg xs) (.agg ys)) else none
  | .pointer (some ⟨a, o, none⟩), .pointer (some ⟨b, o', none⟩) =>
    match undT E t with
    | some (.pointer e) => match E.ty e with
      | some i => if a = b ∧ 0 < i.size then binN op (o == o') else none
      | none => none
    | _ => none
  | x, y =>
    match undT E t with
    | some d => match eqNil d x y with
      | some b => match binN op b with
        | some (v, ok) => some (v, nilOk x ++ (nilOk y ++ ok))
        | none => none
      | none => none
    | none => none

def unop (op : UnOp) (x : Value) : Option Value :=
  match op, x with
  | .neg, .int k n => some (.int k (k.wrap (0 - n)))
  | .not, .bool b => some (.bool !b)
  | .xor, .int k n => some (.int k (inot k n))
  | _, _ => none

def lenOf : Value → Option Nat
  | .string s => some (slen s)
  | .slice _ n _ => some n
  | .iface n (.agg _) => some n
  | _ => none

/-- The cells that a slice or a string holds, n elements of them. -/
def cellsIn (H : Heap) (size n : Nat) : Value → Option (List Value × List Bool)
  | .slice none _ _ => some ([], [decide (n = 0)])
  | .slice (some ⟨i, o, none⟩) _ _ =>
    match getO H i with
    | some (.cells cs _ _) => some ((cs.drop o).take (n * size), [decide (o + n * size ≤ cs.length)])
    | some (.log cs _ _) => some ((cs.drop o).take (n * size), [decide (o + n * size ≤ cs.length)])
    | some (.fro cs _ _) => some ((cs.drop o).take (n * size), [decide (o + n * size ≤ cs.length)])
    | _ => none
  | .iface _ (.agg cs) => some (cs.toList.take (n * size), [decide (n * size ≤ cs.toList.length)])
  | .string s => if size = 1 then some ((ofBytes s).take n, [decide (n ≤ slen s)]) else none
  | _ => none

def slot (H : Heap) (o : Ob) : Heap := H ++ [some o]
def newPtr (H : Heap) : Value := .pointer (some ⟨H.length, 0, none⟩)

def elemT (E : Env) (t : TypeId) : Option (TypeId × TI) :=
  match undT E t with
  | some (.slice e) => match E.ty e with
    | some i => some (e, i)
    | none => none
  | _ => none

/-- append, the news read already: m elements. -/
def append1 (H : Heap) (e : TypeId) (i : TI) (s : Value) (m : Nat) (news : List Value) : Res :=
  match s with
  | .slice none 0 0 =>
    some (.val (.slice (some ⟨H.length, 0, none⟩) m 0) (slot H (.cells news e (some i.size))),
      [decide (0 < m), decide (m * i.bytes ≤ 140737488355328), decide (m ≤ 9223372036854775807)])
  | .slice (some ⟨b, o, none⟩) n c =>
    match getO H b with
    | some (.cells cs e' g) =>
      if e' = e ∧ (g = none ∨ g = some i.size) then
        some (.val (.slice (some ⟨H.length, 0, none⟩) (n + m) 0) (slot (H.set b none) (.cells ((cs.drop o).take (n * i.size) ++ news) e (some i.size))),
          [decide (g.isSome = true ∨ c = n), decide (o + n * i.size ≤ cs.length), decide ((n + m) * i.bytes ≤ 140737488355328), decide (n + m ≤ 9223372036854775807)])
      else none
    | some (.log cs e' z) =>
      if e' = e ∧ z = i.size then
        some (.val (.slice (some ⟨H.length, 0, none⟩) (n + m) 0) (slot (H.set b (some (.fro cs e z))) (.log ((cs.drop o).take (n * i.size) ++ news) e i.size)),
          [decide (o + n * i.size = cs.length), decide (0 < m), news.all flat, decide ((n + m) * i.bytes ≤ 140737488355328), decide (n + m ≤ 9223372036854775807)])
      else none
    | _ => none
  | _ => none

def more (ok : List Bool) : Res → Res
  | some (n, ok') => some (n, ok ++ ok')
  | none => none

def okSrc : TypeDesc → Bool
  | .slice _ | .string => true
  | _ => false

def appendOp (E : Env) (H : Heap) (t u : TypeId) (s x : Value) : Res :=
  match elemT E t, undT E u, lenOf x with
  | some (e, i), some d, some m =>
    if okSrc d then
      match cellsIn H i.size m x with
      | some (news, ok1) => if 0 < i.size ∧ i.zero.cells.toList.length = i.size then more (news.all one :: ok1) (append1 H e i s m news) else none
      | none => none
    else none
  | _, _, _ => none

def copyCell (k : Nat) (n : Nat) (new old : Value) : Value :=
  match old with
  | .int q a => .int q (bif decide (k < n) then toInt new else a)
  | _ => new
def copyCellOk (k : Nat) (n : Nat) (new old : Value) : Bool :=
  match old with
  | .int q _ => bif decide (k < n) then isInt q new else true
  | _ => decide (k < n)

/-- The first L cells behind o overlaid by news, as far as n goes. -/
def overlay (cs : List Value) (o : Nat) (news : List Value) (n : Nat) : Nat → Nat → List Value
  | 0, _ => cs
  | L + 1, k => overlay (cs.set (o + k) (copyCell k n (news.getD k undef) (cs.getD (o + k) undef))) o news n L (k + 1)
def overlayOk (cs : List Value) (o : Nat) (news : List Value) (n : Nat) : Nat → Nat → List Bool
  | 0, _ => []
  | L + 1, k => copyCellOk k n (news.getD k undef) (cs.getD (o + k) undef) :: overlayOk cs o news n L (k + 1)

/-- copy, elements of one cell. -/
def copyOp (E : Env) (H : Heap) (t : TypeId) (d x : Value) : Res :=
  match elemT E t, d, lenOf x with
  | some (_, i), .slice (some ⟨b, o, none⟩) L _, some m =>
    match getO H b, cellsIn H 1 (min m L) x with
    | some (.cells cs e g), some (news, ok1) =>
      if i.size = 1 then
        some (.val (.int .i64 (min m L : Nat)) (H.set b (some (.cells (overlay cs o news (min m L) L 0) e g))),
          decide (o + L ≤ cs.length) :: news.all one :: (overlayOk cs o news (min m L) L 0 ++ ok1))
      else none
    | _, _ => none
  | _, _, _ => none

def rep (z : List Value) : Nat → List Value
  | 0 => []
  | n + 1 => z ++ rep z n

def clearOp (E : Env) (H : Heap) (t : TypeId) (x : Value) : Res :=
  match elemT E t, x with
  | some (_, i), .slice (some ⟨b, o, none⟩) n _ =>
    match getO H b with
    | some (.cells cs e g) =>
      some (.val noResult (H.set b (some (.cells (cs.take o ++ rep i.zero.cells.toList n ++ cs.drop (o + n * i.size)) e g))),
        [decide (o + n * i.size ≤ cs.length), decide (i.zero.cells.toList.length = i.size), i.zero.cells.toList.all one, constOk i.zero])
    | _ => none
  | some _, .slice none _ _ => some (.val noResult H, [])
  | _, _ => none

def makeOp (E : Env) (H : Heap) (t : TypeId) (l c : Value) : Res :=
  match elemT E t, l, c with
  | some (e, i), .int .i64 a, .int .i64 b =>
    some (.val (.slice (some ⟨H.length, 0, none⟩) a.toNat a.toNat) (slot H (.cells (rep i.zero.cells.toList a.toNat) e none)),
      [a == b, decide (0 ≤ a), decide (a * i.bytes ≤ 140737488355328), decide (a ≤ 9223372036854775807), decide (0 < i.size), decide (i.zero.cells.toList.length = i.size), constOk i.zero])
  | _, _, _ => none

def storeOp (E : Env) (H : Heap) (t : TypeId) (a v : Value) : Res :=
  match E.ty t, a with
  | some i, .pointer (some ⟨b, o, none⟩) =>
    match getO H b with
    | some (.cells cs e g) =>
      if v.cells.toList.all one ∧ v.cells.toList.length = i.size ∧ (g = none ∨ 0 < i.size) then
        some (.val undef (H.set b (some (.cells (setN cs o v.cells.toList) e g))), [decide (o + i.size ≤ cs.length)])
      else none
    | _ => none
  | _, _ => none

def loadOp (E : Env) (H : Heap) (t : TypeId) (a : Value) : Res :=
  match E.ty t, a with
  | some i, .pointer (some ⟨b, o, none⟩) =>
    match getO H b with
    | some (.cells cs _ g) =>
      if g = none ∨ 0 < i.size then
        match loadV i cs o with
        | some (v, ok) => some (.val v H, ok)
        | none => none
      else none
    | some (.log cs _ _) =>
      if 0 < i.size then
        match loadV i cs o with
        | some (v, ok) => some (.val v H, ok)
        | none => none
      else none
    | some (.fro cs _ _) =>
      if 0 < i.size then
        match loadV i cs o with
        | some (v, ok) => some (.val v H, ok)
        | none => none
      else none
    | _ => none
  | some i, .iface o (.tuple cs) =>
    match loadV i cs.toList o with
    | some (v, ok) => some (.val v H, ok)
    | none => none
  | _, _ => none

def fieldOf (E : Env) (s : TypeId) (f : Nat) : Option (Field × TI) :=
  match undT E s with
  | some (.struct fs) =>
    match fs[f]? with
    | some x => match E.ty x.type with
      | some i => some (x, i)
      | none => none
    | none => none
  | _ => none

def faddrOp (E : Env) (H : Heap) (s : TypeId) (a : Value) (f : Nat) : Res :=
  match fieldOf E s f, a with
  | some (x, i), .pointer (some ⟨b, o, none⟩) => if i.size = 0 then none else some (.val (.pointer (some ⟨b, o + x.offset, none⟩)) H, [])
  | some (x, i), .iface o (.tuple cs) => if i.size = 0 then none else some (.val (.iface (o + x.offset) (.tuple cs)) H, [])
  | _, _ => none

def fieldOp (E : Env) (H : Heap) (s : TypeId) (a : Value) (f : Nat) : Res :=
  match fieldOf E s f, a with
  | some (x, i), .agg cs =>
    match loadV i cs.toList x.offset with
    | some (v, ok) => some (.val v H, ok)
    | none => none
  | _, _ => none

def iaddrOp (E : Env) (H : Heap) (t : TypeId) (x ix : Value) : Res :=
  match undT E t, x, ix with
  | some (.array n e), .pointer (some ⟨b, o, none⟩), .int _ k =>
    match E.ty e with
    | some i => some (.val (.pointer (some ⟨b, o + k.toNat * i.size, none⟩)) H, [decide (0 ≤ k), decide (k < n)])
    | none => none
  | some (.array n e), .iface o (.tuple cs), .int _ k =>
    match E.ty e with
    | some i => some (.val (.iface (o + k.toNat * i.size) (.tuple cs)) H, [decide (0 ≤ k), decide (k < n)])
    | none => none
  | some (.slice e), .slice (some ⟨b, o, none⟩) n _, .int _ k =>
    match E.ty e with
    | some i => some (.val (.pointer (some ⟨b, o + k.toNat * i.size, none⟩)) H, [decide (0 ≤ k), decide (k < n)])
    | none => none
  | some (.slice e), .iface n (.agg cs), .int _ k =>
    match E.ty e with
    | some i => some (.val (.iface (k.toNat * i.size) (.tuple cs)) H, [decide (0 ≤ k), decide (k < n), decide (0 < cs.toList.length)])
    | none => none
  | _, _, _ => none

def indexOp (E : Env) (H : Heap) (t : TypeId) (x ix : Value) : Res :=
  match undT E t, x, ix with
  | some (.array n e), .agg cs, .int _ k =>
    match E.ty e with
    | some i =>
      match loadV i cs.toList (k.toNat * i.size) with
      | some (v, ok) => some (.val v H, decide (0 ≤ k) :: decide (k < n) :: ok)
      | none => none
    | none => none
  | some .string, .string s, .int _ k => some (.val (.int .u8 (chr s k.toNat)) H, [decide (0 ≤ k), decide (k < slen s)])
  | _, _, _ => none

/-- The bounds of a slice expression: none: the default. -/
def lowOf : Option Value → Option (Nat × List Bool)
  | none => some (0, [])
  | some (.int _ k) => some (k.toNat, [decide (0 ≤ k)])
  | _ => none
def highOf (n : Nat) : Option Value → Option (Nat × List Bool)
  | none => some (n, [])
  | some (.int _ k) => some (k.toNat, [decide (0 ≤ k), decide (k ≤ n)])
  | _ => none

def sliceOp (E : Env) (H : Heap) (t : TypeId) (x : Value) (lo hi : Option Value) : Res :=
  match undT E t, x with
  | some .string, .string s =>
    match lowOf lo, highOf (slen s) hi with
    | some (l, ok1), some (h, ok2) => some (.val (.string (sub s l h)) H, decide (l ≤ h) :: (ok1 ++ ok2))
    | _, _ => none
  | some (.slice e), .slice (some ⟨b, o, none⟩) n c =>
    match E.ty e, lowOf lo, highOf n hi, getO H b with
    | some i, some (l, ok1), some (h, ok2), some (.cells _ _ g) =>
      if g = none ∨ g = some i.size then some (.val (.slice (some ⟨b, o + l * i.size, none⟩) (h - l) (c - l)) H, decide (l ≤ h) :: (ok1 ++ ok2)) else none
    | some i, some (l, ok1), some (h, ok2), some (.log _ _ z) =>
      if z = i.size then some (.val (.slice (some ⟨b, o + l * i.size, none⟩) (h - l) (c - l)) H, decide (l ≤ h) :: (ok1 ++ ok2)) else none
    | some i, some (l, ok1), some (h, ok2), some (.fro _ _ z) =>
      if z = i.size then some (.val (.slice (some ⟨b, o + l * i.size, none⟩) (h - l) (c - l)) H, decide (l ≤ h) :: (ok1 ++ ok2)) else none
    | _, _, _, _ => none
  | some (.slice e), .iface n (.agg cs) =>
    match E.ty e, lowOf lo, highOf n hi with
    | some i, some (l, ok1), some (h, ok2) =>
      some (.val (.iface (h - l) (.agg ((cs.toList.drop (l * i.size)).take ((h - l) * i.size)).toArray)) H, decide (l ≤ h) :: (ok1 ++ ok2))
    | _, _, _ => none
  | some (.array n e), .pointer (some ⟨b, o, none⟩) =>
    match E.ty e, lowOf lo, highOf n hi, getO H b with
    | some i, some (l, ok1), some (h, ok2), some (.cells _ _ none) =>
      some (.val (.slice (some ⟨b, o + l * i.size, none⟩) (h - l) (n - l)) H, decide (l ≤ h) :: (ok1 ++ ok2))
    | _, _, _, _ => none
  | _, _ => none

def convOp (E : Env) (H : Heap) (src dst : TypeId) (x : Value) : Res :=
  match undT E src, undT E dst, x with
  | some _, some (.int k), .int _ n => some (.val (.int k (k.wrap n)) H, [])
  | some _, some .string, .int _ n => some (.val (.string (Utf8.encode n)) H, [])
  | some _, some .string, .string s => some (.val (.string s) H, [])
  | some .string, some (.slice e), .string s =>
    match undT E e with
    | some (.int .u8) => some (.val (.slice (some ⟨H.length, 0, none⟩) (slen s) 0) (slot H (.cells (ofBytes s) e (some 1))), [decide (slen s ≤ 9223372036854775807)])
    | _ => none
  | some (.slice e), some .string, x =>
    match undT E e, lenOf x with
    | some (.int .u8), some n =>
      match x with
      | .slice _ _ _ =>
        match cellsIn H 1 n x with
        | some (cs, ok) => some (.val (.string (bytesOf cs)) H, cs.all (isInt .u8) :: ok)
        | none => none
      | _ => none
    | _, _ => none
  | some (.pointer _), some .unsafePointer, .pointer none => some (.val (.pointer none) H, [])
  | some (.pointer u), some .unsafePointer, .pointer (some ⟨b, o, none⟩) =>
    match E.ty u, getO H b with
    | some i, some (.cells cs _ none) => some (.val (.pointer (some ⟨b, o, none⟩)) H, [decide (0 < i.size), decide (o < cs.length)])
    | _, _ => none
  | some .unsafePointer, some (.pointer _), .pointer none => some (.val (.pointer none) H, [])
  | some .unsafePointer, some (.pointer u), .pointer (some ⟨b, o, none⟩) =>
    match E.ty u, getO H b with
    | some i, some (.cells cs e none) => some (.val (.pointer (some ⟨b, o, none⟩)) H, [decide (0 < i.size), liesAt E.P E.P.depth e (cs.length / E.P.cellsOf e) o u 1])
    | _, _ => none
  | _, _, _ => none

/-- The parts of a literal laid over the zeros. -/
def fillL (place : Nat → Option (Nat × Nat)) (cs : List Value) : List (Nat × Value) → Option (List Value)
  | [] => some cs
  | (i, v) :: r =>
    match place i with
    | some (o, n) => if v.cells.toList.length = n ∧ o + n ≤ cs.length then fillL place (setN cs o v.cells.toList) r else none
    | none => none

def structPlace (E : Env) (fs : Array Field) (i : Nat) : Option (Nat × Nat) :=
  match fs[i]? with
  | some f => match E.ty f.type with
    | some t => some (f.offset, t.size)
    | none => none
  | none => none

def allKnown (E : Env) (fs : Array Field) : Bool := fs.toList.all fun f => (E.ty f.type).isSome

def buildOp (E : Env) (H : Heap) (t : TypeId) (parts : List (Nat × Value)) : Res :=
  match E.ty t with
  | some i =>
    match i.und with
    | .struct fs =>
      if allKnown E fs then
        match fillL (structPlace E fs) i.zero.cells.toList parts with
        | some cs => some (.val (.agg cs.toArray) H, [constOk i.zero])
        | none => none
      else none
    | .array _ e =>
      match E.ty e with
      | some j =>
        match fillL (fun k => some (k * j.size, j.size)) i.zero.cells.toList parts with
        | some cs => some (.val (.agg cs.toArray) H, [constOk i.zero])
        | none => none
      | none => none
    | _ => none
  | none => none

def buildSOp (E : Env) (H : Heap) (t : TypeId) (len : Nat) (parts : List (Nat × Value)) : Res :=
  match elemT E t with
  | some (e, j) =>
    if len * j.size ≤ 16777216 ∧ j.zero.cells.toList.length = j.size ∧ 0 < j.size then
      match fillL (fun k => some (k * j.size, j.size)) (rep j.zero.cells.toList len) parts with
      | some cs => some (.val (.slice (some ⟨H.length, 0, none⟩) len len) (slot H (.cells cs e none)), [constOk j.zero])
      | none => none
    else none
  | none => none

def min2 : Value → Value → Option Value
  | .int k x, .int _ y => some (.int k (bif decide (y < x) then y else x))
  | _, _ => none
def max2 : Value → Value → Option Value
  | .int k x, .int _ y => some (.int k (bif decide (x < y) then y else x))
  | _, _ => none

/-- A string made of a row's bytes: nobody writes the row hereafter. -/
def unsafeStringOp (E : Env) (H : Heap) (t : TypeId) (x y : Value) : Res :=
  match undT E t, x, y with
  | some (.pointer _), .pointer none, .int _ n => some (.val (.string ⟨#[]⟩) H, [n == 0])
  | some (.pointer u), .pointer (some ⟨b, o, none⟩), .int _ n =>
    match E.ty u, getO H b with
    | some i, some (.cells cs e _) =>
      if e = u ∧ i.size = 1 then
        some (.val (.string (bytesOf ((cs.drop o).take n.toNat))) (H.set b none), [decide (0 < n), decide (n ≤ 9223372036854775807), decide (o + n.toNat ≤ cs.length), ((cs.drop o).take n.toNat).all (isInt .u8)])
      else none
    | _, _ => none
  | _, _, _ => none

def builtinOp (E : Env) (H : Heap) (b : Builtin) (ts : List TypeId) (vs : List Value) : Res :=
  match b, ts, vs with
  | .len, [t], [x] =>
    match undT E t, x with
    | some .string, .string s => some (.val (.int .i64 (slen s)) H, [])
    | some (.slice _), .slice _ n _ => some (.val (.int .i64 n) H, [])
    | some (.slice _), .iface n (.agg _) => some (.val (.int .i64 n) H, [])
    | some (.array n _), _ => some (.val (.int .i64 n) H, [])
    | _, _ => none
  | .cap, [t], [x] =>
    match undT E t, x with
    | some (.slice _), .slice none 0 0 => some (.val (.int .i64 (0 : Nat)) H, [])
    | some (.slice _), .slice (some ⟨b, _, none⟩) n c => match getO H b with
      | some (.cells _ _ none) => some (.val (.int .i64 c) H, [decide (0 < n)])
      | _ => none
    | some (.array n _), _ => some (.val (.int .i64 n) H, [])
    | _, _ => none
  | .unsafeSliceData, [_], [x] =>
    match x with
    | .slice none 0 0 => some (.val (.pointer none) H, [])
    | .slice (some ⟨b, o, none⟩) n _ => some (.val (.pointer (some ⟨b, o, none⟩)) H, [decide (0 < n)])
    | _ => none
  | .unsafeString, [t, _], [x, y] => unsafeStringOp E H t x y
  | .append, [t, u], [s, x] => appendOp E H t u s x
  | .copy, [t, _], [d, x] => copyOp E H t d x
  | .clear, [t], [x] => clearOp E H t x
  | .min, _, [x, y] => match min2 x y with
    | some v => some (.val v H, [])
    | none => none
  | .max, _, [x, y] => match max2 x y with
    | some v => some (.val v H, [])
    | none => none
  | _, _, _ => none

def callOp (E : Env) (f : Value) (args : List Value) : Res :=
  match f with
  | .func (.func g) first caps =>
    match E.fn g with
    | some F => if F.body.isSome then some (.enter g (first.toList ++ args ++ caps.toList), []) else none
    | none => none
  | .func (.yield l) first _ => some (.yield l (first.toList ++ args), [])
  | _ => none

/-- A call of a function without a body. -/
def extOp (E : Env) (H : Heap) (f : Value) (args : List Value) : Res :=
  match f with
  | .func (.func g) first caps =>
    match E.ext g, first.toList ++ args ++ caps.toList with
    | some .same, [x] => some (.val x H, [])
    | some (.room e), [.int .i64 n] => some (.val (.slice (some ⟨H.length, 0, none⟩) n.toNat 0) (slot H (.cells [] e (some 1))), [decide (0 ≤ n), decide (n ≤ 281474976710656)])
    | _, _ => none
  | _ => none

def orCall (E : Env) (f : Value) (args : List Value) : Res → Res
  | some r => some r
  | none => callOp E f args

def evalP (t : Tm) : List (Nat × Operand) → Option (List (Nat × Value))
  | [] => some []
  | (i, x) :: l => match evalT t x, evalP t l with
    | some v, some vs => some ((i, v) :: vs)
    | _, _ => none

def evalO (t : Tm) : Option Operand → Option (Option Value)
  | none => some none
  | some x => match evalT t x with
    | some v => some (some v)
    | none => none

def with1 (o : Option Value) (k : Value → Res) : Res :=
  match o with
  | some v => k v
  | none => none

/-- An operation (but 'pick', which wants a decision). -/
def aop (E : Env) (H : Heap) (tm : Tm) (o : Op) : Res :=
  match o with
  | .move x => with1 (evalT tm x) fun v => some (.val v H, [])
  | .assign x => with1 (evalT tm x) fun v => some (.val v H, [])
  | .alloc e => match E.ty e with
    | some i => some (.val (newPtr H) (slot H (.cells i.zero.cells.toList e none)), [constOk i.zero])
    | none => none
  | .box e x => with1 (evalT tm x) fun v => some (.val (newPtr H) (slot H (.cells v.cells.toList e none)), [v.cells.toList.all one])
  | .build t ps => match evalP tm ps.toList with
    | some l => buildOp E H t l
    | none => none
  | .buildSlice t n ps => match evalP tm ps.toList with
    | some l => buildSOp E H t n l
    | none => none
  | .load t a => with1 (evalT tm a) fun v => loadOp E H t v
  | .store t a x => with1 (evalT tm a) fun v => with1 (evalT tm x) fun u => storeOp E H t v u
  | .nilCheck x => with1 (evalT tm x) fun v => match v with
    | .pointer (some _) => some (.val v H, [])
    | .iface _ (.tuple _) => some (.val v H, [])
    | .func (.func _) _ _ => some (.val v H, [])
    | .func (.yield _) _ _ => some (.val v H, [])
    | _ => none
  | .binOp op t x y _ => with1 (evalT tm x) fun v => with1 (evalT tm y) fun u => match binop E op t v u with
    | some (r, ok) => some (.val r H, ok)
    | none => none
  | .unOp op _ x => with1 (evalT tm x) fun v => match unop op v with
    | some r => some (.val r H, [])
    | none => none
  | .convert s d x => with1 (evalT tm x) fun v => convOp E H s d v
  | .makeFunc fn first caps => match evalL tm first.toList, evalL tm caps.toList with
    | some vs, some us => some (.val (.func fn vs.toArray us.toArray) H, [match fn with | .func _ => true | _ => false])
    | _, _ => none
  | .makeSlice t l c => with1 (evalT tm l) fun v => with1 (evalT tm c) fun u => makeOp E H t v u
  | .slice t x lo hi none => with1 (evalT tm x) fun v => match evalO tm lo, evalO tm hi with
    | some l, some h => sliceOp E H t v l h
    | _, _ => none
  | .fieldAddr s x f => with1 (evalT tm x) fun v => faddrOp E H s v f
  | .field s x f => with1 (evalT tm x) fun v => fieldOp E H s v f
  | .indexAddr t x i => with1 (evalT tm x) fun v => with1 (evalT tm i) fun u => iaddrOp E H t v u
  | .index t x i => with1 (evalT tm x) fun v => with1 (evalT tm i) fun u => indexOp E H t v u
  | .extract x i => with1 (evalT tm x) fun v => match v with
    | .tuple vs => match vs[i]? with
      | some r => some (.val r H, [])
      | none => none
    | _ => none
  | .call c => match evalL tm c.args.toList with
    | some vs => match c.callee with
      | .builtin b => builtinOp E H b c.argTypes.toList vs
      | .value f => with1 (evalT tm f) fun v => orCall E v vs (extOp E H v vs)
      | .invoke _ _ => none
    | none => none
  | _ => none

/-! ### steps -/

def put (tm : Tm) (dst : Option Tmp) (v : Value) : Tm :=
  match dst with
  | some d => setT tm d v
  | none => tm

/-- Behind a call: the value goes where the frame's head says. -/
def finish (fr : AFr) (v : Value) : Option AFr :=
  match fr.todo with
  | .inRegion ops (i :: rest) :: k =>
    match (ops[i]?).bind (·.dst) with
    | some d => if d < fr.nt then some { fr with tm := setT fr.tm d v, todo := .inRegion ops rest :: k, dk := fr.dk.filter (· != d) } else none
    | none => some { fr with todo := .inRegion ops rest :: k }
  | .inRangeFunc l :: k => some { fr with todo := .endRangeFunc l :: k }
  | .beginRound :: k => some { fr with todo := k }
  | _ => none

def resultsOf (H : Heap) (E : Env) (tm : Tm) : List ResultVar → Option (List Value × List Bool)
  | [] => some ([], [])
  | .tmp t :: r => match getT tm t, resultsOf H E tm r with
    | some v, some (vs, ok) => some (v :: vs, ok)
    | _, _ => none
  | .cell a t :: r => match getT tm a with
    | some p => match loadOp E H t p, resultsOf H E tm r with
      | some (.val v _, ok1), some (vs, ok) => some (v :: vs, ok1 ++ ok)
      | _, _ => none
    | none => none

def resultV (H : Heap) (E : Env) (fr : AFr) : Option (Value × List Bool) :=
  match E.fn fr.fn with
  | some F => match resultsOf H E fr.tm F.results.toList with
    | some ([v], ok) => some (v, ok)
    | some (vs, ok) => some (.tuple vs.toArray, ok)
    | none => none
  | none => none

/-- The blocks of deferred calls, which are empty, are taken. -/
def takeDefs (H : Heap) : List Nat → Option Heap
  | [] => some H
  | d :: r => match getO H d with
    | some (.defs true) => takeDefs (H.set d (some (.defs false))) r
    | _ => none

abbrev St := Option (List Bool × Option (List Bool) × Cfg)

def stay (orc : Option (List Bool)) (C : Cfg) (todo : List Item) : St := some ([], orc, { C with fr := { C.fr with todo := todo } })

def aexitTo (id : Nat) : List Item → Option (List Item)
  | .inBlock id' :: k => if id' = id then some k else aexitTo id k
  | _ :: k => aexitTo id k
  | [] => none

/-- A return out of a frame of a function, or of a round, to the caller. -/
def back (E : Env) (orc : Option (List Bool)) (C : Cfg) (jump : Option Code) : St :=
  match C.fr.rnd, C.cs with
  | none, c :: cs =>
    match jump with
    | some .ret | none =>
      match takeDefs C.H C.fr.defers with
      | some H => match resultV H E C.fr with
        | some (v, ok) => match finish c v with
          | some c' => some (ok, orc, { fr := c', cs := cs, H := H })
          | none => none
        | none => none
      | none => none
    | _ => none
  | some l, c :: cs =>
    match getO C.H l, C.fr.defers with
    | some (.loop _ _ fn tm nt ps as bd ds), [] =>
      match finish c (.bool jump.isNone) with
      | some c' => some ([], orc, { fr := c', cs := cs, H := C.H.set l (some (.loop (if jump.isNone then .ready else .done) jump fn tm nt ps as bd ds)) })
      | none => none
    | _, _ => none
  | _, [] => none

def enterFr (g : FuncId) (n : Nat) (c : Code) (args : List Value) : AFr :=
  { fn := g, nt := n, tm := putArgs (emptyT (Nat.log2 (n + 1) + 1)) 0 args, todo := [.code c], defers := [], rnd := none, dk := [] }

def roundTm (tm : Tm) : List Tmp → List Value → Tm
  | p :: ps, v :: vs => roundTm (setT tm p v) ps vs
  | _, _ => tm

def doNx (E : Env) (orc : Option (List Bool)) (ok : List Bool) (C : Cfg) : Nx → St
  | .val v H => match finish C.fr v with
    | some fr => some (ok, orc, { C with fr := fr, H := H })
    | none => none
  | .enter g args => match E.fn g with
    | some F => match F.body with
      | some c => if args.length ≤ F.ntmps then some (ok, orc, { fr := enterFr g F.ntmps c args, cs := C.fr :: C.cs, H := C.H }) else none
      | none => none
    | none => none
  | .yield l args => match getO C.H l with
    | some (.loop _ _ fn tm nt ps as bd _) =>
      if args.length = ps.size ∧ ps.toList.all (· < nt) then
        some (ok, orc, { fr := { fn := fn, nt := nt, tm := roundTm tm ps.toList args, todo := [.code as, .beginRound, .code bd], defers := [], rnd := some l, dk := [] }, cs := C.fr :: C.cs, H := C.H })
      else none
    | _ => none

/-- Whether an operation is wanted: the guard's Bool is decided. -/
def wantedA (orc : Option (List Bool)) (fr : AFr) (ops : Array Oper) (o : Oper) : Option (Bool × List Bool × Option (List Bool) × AFr) :=
  match o.guard with
  | none => some (true, [], orc, fr)
  | some (j, want) =>
    match (ops[j]?).bind (·.dst) with
    | some d =>
      match getT fr.tm d with
      | some (.bool b) =>
        if fr.dk.contains d then some (b == want, [], orc, fr)
        else match decide1 orc b with
          | some (x, ok, orc') => some (x == want, ok, orc', { fr with tm := setT fr.tm d (.bool x), dk := d :: fr.dk })
          | none => none
      | some (.tuple _) => some (false, [], orc, fr)
      | _ => none
    | none => none

/-- append of a text's bytes to a slice that is none: is there nothing to be put behind it? -/
def nilApp (E : Env) (tm : Tm) (op : Op) : Option Bool :=
  match op with
  | .call c => match evalL tm c.args.toList with
    | some [.slice none 0 0, .string s] => match c.callee with
      | .builtin .append => match c.argTypes.toList with
        | [t, u] => match elemT E t, undT E u with
          | some _, some .string => some (decide (slen s = 0))
          | _, _ => none
        | _ => none
      | _ => none
    | _ => none
  | _ => none

def operA (E : Env) (orc : Option (List Bool)) (ok : List Bool) (C : Cfg) (o : Oper) : St :=
  match o.op with
  | .pick (.tmp c) a b =>
    match getT C.fr.tm c with
    | some (.bool x) =>
      match (if C.fr.dk.contains c then some (x, [], orc) else decide1 orc x) with
      | some (d, ok1, orc') => match evalT C.fr.tm (if d then a else b) with
        | some v => doNx E orc' (ok1 ++ ok) C (.val v C.H)
        | none => none
      | none => none
    | _ => none
  | .defer _ => none
  | op => match nilApp E C.fr.tm op with
    | some b => match decide1 orc b with
      | some (true, ok1, orc') => doNx E orc' (ok1 ++ ok) C (.val (.slice none 0 0) C.H)
      | some (false, ok1, orc') => match aop E C.H C.fr.tm op with
        | some (nx, ok2) => doNx E orc' (ok2 ++ (ok1 ++ ok)) C nx
        | none => none
      | none => none
    | none => match aop E C.H C.fr.tm op with
      | some (nx, ok1) => doNx E orc (ok1 ++ ok) C nx
      | none => none

def pendItems : Option Code → List Item
  | some c => [.code c]
  | none => []

def astep (E : Env) (orc : Option (List Bool)) (C : Cfg) : St :=
  match C.fr.todo with
  | [] => back E orc C none
  | .code .ret :: _ => back E orc C (some .ret)
  | .code .skip :: k => stay orc C k
  | .code (.label _) :: k => stay orc C k
  | .inBlock _ :: k => stay orc C k
  | .inScope _ :: k => stay orc C k
  | .code (.seq a b) :: k => stay orc C (.code a :: .code b :: k)
  | .code (.cond c x y) :: k =>
    match evalT C.fr.tm c with
    | some (.bool b) => match decide1 orc b with
      | some (d, ok, orc') => some (ok, orc', { C with fr := { C.fr with todo := .code (if d then x else y) :: k, dk := [] } })
      | none => none
    | _ => none
  | .code (.block id c) :: k => stay orc C (.code c :: .inBlock id :: k)
  | .code (.loop c) :: k => stay orc C (.code c :: .inLoop c :: k)
  | .inLoop c :: k => stay orc C (.code c :: .inLoop c :: k)
  | .code (.scope c) :: k => stay orc C (.code c :: .inScope c :: k)
  | .code (.exit id) :: k => match aexitTo id k with
    | some k' => stay orc C k'
    | none => back E orc C (some (.exit id))
  | .code (.region _ ops false) :: k => stay orc C (.inRegion ops (List.range ops.size) :: k)
  | .inRegion _ [] :: k => some ([], orc, { C with fr := { C.fr with todo := k, dk := [] } })
  | .inRegion ops (i :: _) :: _ =>
    match ops[i]? with
    | some o => match wantedA orc C.fr ops o with
      | some (true, ok, orc', fr) => operA E orc' ok { C with fr := fr } o
      | some (false, ok, orc', fr) => match finish fr undef with
        | some fr' => some (ok, orc', { C with fr := fr' })
        | none => none
      | none => none
    | none => none
  | .code (.rangeFunc f params as bd) :: k =>
    match evalT C.fr.tm f, C.fr.rnd with
    | some v, none =>
      let D := C.H.length
      let H := slot (slot C.H (.defs true)) (.loop .ready none C.fr.fn C.fr.tm C.fr.nt params as bd D)
      match callOp E v [.func (.yield (D + 1)) #[] #[]] with
      | some (nx, ok) => doNx E orc ok { C with fr := { C.fr with todo := .inRangeFunc (D + 1) :: k, defers := D :: C.fr.defers }, H := H } nx
      | none => none
    | some v, some l =>
      match getO C.H l with
      | some (.loop _ _ _ _ _ _ _ _ ds) =>
        let L := C.H.length
        let H := slot C.H (.loop .ready none C.fr.fn C.fr.tm C.fr.nt params as bd ds)
        match callOp E v [.func (.yield L) #[] #[]] with
        | some (nx, ok) => doNx E orc ok { C with fr := { C.fr with todo := .inRangeFunc L :: k }, H := H } nx
        | none => none
      | _ => none
    | none, _ => none
  | .beginRound :: k =>
    match C.fr.rnd with
    | some l => match getO C.H l with
      | some (.loop .ready pd fn tm nt ps as bd ds) => some ([], orc, { C with fr := { C.fr with todo := k }, H := C.H.set l (some (.loop .busy pd fn tm nt ps as bd ds)) })
      | _ => none
    | none => none
  | .endRangeFunc l :: k =>
    match getO C.H l with
    | some (.loop st pd fn tm nt ps as bd ds) =>
      match st with
      | .busy => none
      | _ => some ([], orc, { C with fr := { C.fr with todo := pendItems pd ++ k }, H := C.H.set l (some (.loop .exhausted pd fn tm nt ps as bd ds)) })
    | _ => none
  | _ => none

def done (C : Cfg) : Bool :=
  match C.cs, C.fr.rnd, C.fr.todo with
  | [], none, [] => true
  | [], none, .code .ret :: _ => true
  | _, _, _ => false

def arun (E : Env) : Nat → Option (List Bool) → List Bool → Cfg → St
  | 0, orc, ok, C => some (ok, orc, C)
  | n + 1, orc, ok, C =>
    match done C with
    | true => some (ok, orc, C)
    | false => match astep E orc C with
      | some (ok', orc', C') => arun E n orc' (ok' ++ ok) C'
      | none => none

end Go.Am
