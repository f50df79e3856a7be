/-
  The abstract machine: calls as a whole, and regions whose order is drawn: carried out in the text's order, shown to be what every order does.
-/
import Derived.Test.YtabloimmlmgcbaaAmBack
import Derived.Orders
namespace Go.Am

/-- A call of g in H yields v and leaves H'. -/
def CallOk (E : Env) (g : FuncId) (args : List Value) (H : Heap) (v : Value) (H' : Heap) : Prop :=
  ∀ (Pr : Prot) (ρ : Nat → Nm) (args' : List Value) (c : Frame) (cs : List Frame) (w : World),
    HR Pr (AN H) ρ H w.heap → VL Pr (AN H) ρ args args' →
    ∃ ρ' v' w', Steps E.P (lone (Frame.enter E.P g args'.toArray .normal) (c :: cs) w) (lone (c.finish v') cs w') ∧ HR Pr (AN H') ρ' H' w'.heap ∧ VR Pr (AN H') ρ' v v' ∧
      (∀ i, AN H i → ρ' i = ρ i) ∧ H.length ≤ H'.length ∧ Kp w w'

abbrev Caller := Option (List Bool) → FuncId → List Value → Heap → Option (List Bool × Option (List Bool) × Value × Heap)

def ROk (E : Env) (R : Caller) : Prop := ∀ orc g args H ok orc' v H', R orc g args H = some (ok, orc', v, H') → AllT ok → CallOk E g args H v H'

inductive Rc where
  | keep (v : Value)
  | turn (v : Value) (H : Heap)

def Rc.v : Rc → Value
  | .keep v => v
  | .turn v _ => v
def Rc.heap (H : Heap) : Rc → Heap
  | .keep _ => H
  | .turn _ H' => H'
def Rc.isTurn : Rc → Bool
  | .keep _ => false
  | .turn _ _ => true

/-- What may change memory. -/
def isBig (E : Env) : Op → Bool
  | .alloc _ => true
  | .box _ _ => true
  | .buildSlice _ _ _ => true
  | .store _ _ _ => true
  | .makeSlice _ _ _ => true
  | .convert _ d _ => match undT E d with
    | some (.slice _) => true
    | _ => false
  | .call c => match c.callee with
    | .builtin .len => false
    | .builtin .min => false
    | .builtin .max => false
    | .builtin .cap => false
    | .builtin .unsafeSliceData => false
    | .value (.func f) => !(E.pureF f && (E.ext f).isNone)
    | _ => true
  | _ => false

def tmpsOf : List Operand → List Tmp
  | [] => []
  | .tmp t :: l => t :: tmpsOf l
  | _ :: l => tmpsOf l

def guardTmp (ops : Array Oper) (o : Oper) : List Tmp :=
  match o.guard with
  | some (j, _) => ((ops[j]?).bind (·.dst)).toList
  | none => []

def looks (ops : Array Oper) (o : Oper) : List Tmp := guardTmp ops o ++ tmpsOf o.op.operands.toList

def gOk (ops : Array Oper) (tm : Tm) (o : Oper) (g : Bool) : Option (Bool × List Bool) :=
  match o.guard with
  | none => some (true, [])
  | some (j, want) =>
    match (ops[j]?).bind (·.dst) with
    | some d => match getT tm d with
      | some (.bool b) => some (g == want, [b == g])
      | some (.tuple _) => some (false, [])
      | _ => none
    | none => none

abbrev DSt := Option (List Bool × Option (List Bool) × Rc)

/-- One operation, its decisions given. -/
def dop (E : Env) (R : Caller) (ops : Array Oper) (o : Oper) (g p : Bool) (orc : Option (List Bool)) (H : Heap) (tm : Tm) : DSt :=
  match gOk ops tm o g with
  | some (false, ok) => some (ok, orc, .keep undef)
  | some (true, ok) =>
    match o.op with
    | .pick (.tmp c) a b => match getT tm c with
      | some (.bool x) => match evalT tm (if p then a else b) with
        | some v => some ((x == p) :: ok, orc, .keep v)
        | none => none
      | _ => none
    | .defer _ => none
    | op => match aop E H tm op with
      | some (.val v H', ok1) => if isBig E op then some (ok1 ++ ok, orc, .turn v H') else some (ok1 ++ ok, orc, .keep v)
      | some (.enter f args, ok1) =>
        if isBig E op then match R orc f args H with
          | some (ok2, orc', v, H') => some (ok2 ++ (ok1 ++ ok), orc', .turn v H')
          | none => none
        else match args.all flat with
          | true => match R orc f args [] with
            | some (ok2, orc', v, _) => match constOk v with
              | true => some (ok2 ++ (ok1 ++ ok), orc', .keep v)
              | false => none
            | none => none
          | false => none
      | _ => none
  | none => none

structure DRec where
  o : Oper
  g : Bool
  p : Bool
  orc : Option (List Bool)
  H : Heap
  tm : Tm
  rc : Rc

abbrev DK := List (Tmp × Bool)

def askB (dk : DK) (orc : Option (List Bool)) (d : Tmp) (b : Bool) : Option (Bool × Option (List Bool) × DK) :=
  match dk.lookup d with
  | some x => some (x, orc, dk)
  | none => match decide1 orc b with
    | some (x, _, orc') => some (x, orc', (d, x) :: dk)
    | none => none

def chooseG (ops : Array Oper) (tm : Tm) (o : Oper) (dk : DK) (orc : Option (List Bool)) : Option (Bool × Option (List Bool) × DK) :=
  match o.guard with
  | none => some (true, orc, dk)
  | some (j, _) =>
    match (ops[j]?).bind (·.dst) with
    | some d => match getT tm d with
      | some (.bool b) => askB dk orc d b
      | _ => some (true, orc, dk)
    | none => none

def isUndef : Option Value → Bool
  | some (.tuple _) => true
  | _ => false

def unwantedNow (ops : Array Oper) (tm : Tm) (o : Oper) (g : Bool) : Bool :=
  match gOk ops tm o g with
  | some (false, _) => true
  | _ => false

def chooseP (ops : Array Oper) (tm : Tm) (o : Oper) (g : Bool) (dk : DK) (orc : Option (List Bool)) : Option (Bool × Option (List Bool) × DK) :=
  match o.op with
  | .pick (.tmp c) _ _ =>
    match unwantedNow ops tm o g with
    | true => some (true, orc, dk)
    | false => match getT tm c with
      | some (.bool b) => askB dk orc c b
      | _ => none
  | _ => some (true, orc, dk)

def dstOk (nt : Nat) (o : Oper) : Bool :=
  match o.dst with
  | some d => decide (d < nt)
  | none => true

def dpass (E : Env) (R : Caller) (ops : Array Oper) (nt : Nat) : List Oper → DK → Option (List Bool) → Heap → Tm → Option (List Bool × Option (List Bool) × List DRec × Heap × Tm)
  | [], _, orc, H, tm => some ([], orc, [], H, tm)
  | o :: r, dk, orc, H, tm =>
    match chooseG ops tm o dk orc with
    | some (g, orc1, dk1) =>
      match chooseP ops tm o g dk1 orc1 with
      | some (p, orc2, dk2) =>
        match dop E R ops o g p orc2 H tm with
        | some (ok, orc3, rc) =>
          if dstOk nt o then
            match dpass E R ops nt r dk2 orc3 (rc.heap H) (put tm o.dst rc.v) with
            | some (ok', orc', recs, H', tm') => some (ok' ++ ok, orc', ⟨o, g, p, orc2, H, tm, rc⟩ :: recs, H', tm')
            | none => none
          else none
        | none => none
      | none => none
    | none => none

/-! ### what is ahead of what -/

def mstep (acc : List Nat) : List Edge → Nat → Nat
  | [], s => s
  | e :: r, s => mstep acc r (if Region.binds .any e then s ||| (2 ^ e.on ||| acc.getD e.on 0) else s)
def masksL : List Oper → List Nat → List Nat
  | [], acc => acc
  | o :: r, acc => masksL r (acc ++ [mstep acc o.after.toList 0])

def names (ops : Array Oper) (o : Oper) : List Tmp := o.dst.toList ++ looks ops o

def writes (o : Oper) (l : List Tmp) : Bool :=
  match o.dst with
  | some d => l.contains d
  | none => false

def clashN (ops : Array Oper) (x y : Oper) : Bool := writes x (names ops y) || writes y (names ops x)

/-- Two operations that must not change places. -/
def clash (E : Env) (ops : Array Oper) (x y : Oper) : Bool := writes x (names ops y) || writes y (names ops x) || (isBig E x.op && isBig E y.op)

def edgesOk : List Oper → Nat → Bool
  | [], _ => true
  | o :: r, j => o.after.toList.all (fun e => !Region.binds .any e || decide (e.on < j)) && edgesOk r (j + 1)

/-- y with all that stand ahead of it; l: y may be carried out at any time as memory goes. -/
def clashOk (E : Env) (ops : Array Oper) (m : Nat) (y : Oper) (l : Bool) : List Oper → Nat → Bool
  | [], _ => true
  | x :: r, i => (!clash E ops x y || m.testBit i || (l && !clashN ops x y)) && clashOk E ops m y l r (i + 1)

def statOk (E : Env) (ops : Array Oper) (ms : List Nat) (all : List Oper) (late : Option Nat) : List Oper → Nat → Bool
  | [], _ => true
  | y :: r, j => clashOk E ops (ms.getD j 0) y (late == some j) (all.take j) 0 && statOk E ops ms all late r (j + 1)

/-- What makes a row and looks at none. -/
def isMaker : Op → Bool
  | .alloc _ => true
  | .makeSlice _ _ _ => true
  | .buildSlice _ _ _ => true
  | _ => false

/-- All that may change memory, ahead of q, stand ahead of an operation. -/
def hasAll (E : Env) (m : Nat) (q : Nat) : List Oper → Nat → Bool
  | [], _ => true
  | x :: r, i => (!isBig E x.op || decide (q ≤ i) || m.testBit i) && hasAll E m q r (i + 1)

def waitsFor (q : Nat) (y : Oper) : Bool := y.after.toList.any fun e => Region.binds .any e && e.on == q

/-- Who waits for q waits for all ahead of q; what may change memory, behind q, waits for q; nobody else has its place. -/
def depsOk (E : Env) (ms : List Nat) (all : List Oper) (q dq : Nat) : List Oper → Nat → Bool
  | [], _ => true
  | y :: r, j => ((!waitsFor q y || hasAll E (ms.getD j 0) q all 0) && (!isBig E y.op || decide (j ≤ q) || (ms.getD j 0).testBit q) && (decide (j = q) || y.dst != some dq)) && depsOk E ms all q dq r (j + 1)

def lateOk (E : Env) (ops : Array Oper) (ms : List Nat) (tm : Tm) (q : Nat) : Bool :=
  match ops[q]? with
  | some o => match o.dst with
    | some dq => isMaker o.op && o.guard.isNone && (getT tm dq).isNone && depsOk E ms ops.toList q dq ops.toList 0
    | none => false
  | none => false

def lateIs (E : Env) (ops : Array Oper) (ms : List Nat) (tm : Tm) : Option Nat → Bool
  | some q => lateOk E ops ms tm q
  | none => true

/-- The first maker that may come ahead of what stands ahead of it. -/
def lateIx (E : Env) (ms : List Nat) (all : List Oper) : List Oper → Nat → Option Nat
  | [], _ => none
  | y :: r, j => if isMaker y.op && !hasAll E (ms.getD j 0) j all 0 then some j else lateIx E ms all r (j + 1)

/-! ### the same value at every time -/

def same0 : Value → Value → Option (List Bool)
  | .int k a, .int k' b => if k = k' then some [a == b] else none
  | .bool a, .bool b => some [a == b]
  | .string a, .string b => some [toL a == toL b]
  | .pointer a, .pointer b => if a = b then some [] else none
  | .slice a n c, .slice b n' c' => if a = b then some [n == n', c == c'] else none
  | .nilFunc, .nilFunc => some []
  | .nilIface, .nilIface => some []
  | _, _ => none
def sameL : List Value → List Value → Option (List Bool)
  | [], [] => some []
  | a :: l, b :: m => match same0 a b, sameL l m with
    | some x, some y => some (x ++ y)
    | _, _ => none
  | _, _ => none
def sameV : Value → Value → Option (List Bool)
  | .agg a, .agg b => sameL a.toList b.toList
  | .tuple a, .tuple b => sameL a.toList b.toList
  | .func (.func f) a b, .func (.func f') a' b' => if f = f' then match sameL a.toList a'.toList, sameL b.toList b'.toList with
      | some x, some y => some (x ++ y)
      | _, _ => none
    else none
  | a, b => same0 a b

/-- An address or a slice whose places are variables. -/
def sameP : Value → Value → Option (List Bool)
  | .pointer (some ⟨b, o, p⟩), .pointer (some ⟨b', o', p'⟩) => if b = b' ∧ p = p' then some [o == o'] else none
  | .slice (some ⟨b, o, p⟩) n c, .slice (some ⟨b', o', p'⟩) n' c' => if b = b' ∧ p = p' then some [o == o', n == n', c == c'] else none
  | _, _ => none
def sameQ (q : Bool) (u v : Value) : Option (List Bool) :=
  match (bif q then sameP u v else none) with
  | some l => some l
  | none => sameV u v

def dchk1 (E : Env) (R : Caller) (ops : Array Oper) (d : DRec) (H : Heap) : Option (List Bool) :=
  match d.rc with
  | .keep v => match dop E R ops d.o d.g d.p d.orc H d.tm with
    | some (ok, _, .keep u) => match sameQ E.symP u v with
      | some ok2 => some (ok2 ++ ok)
      | none => none
    | _ => none
  | .turn _ _ => none

/-- Big operations among a row, between two places: those at i or behind and ahead of j. -/
def bigIn (E : Env) : List DRec → Nat → Nat → Nat → Bool
  | [], _, _, _ => false
  | d :: r, k, i, j => (isBig E d.o.op && decide (i ≤ k) && decide (k < j)) || bigIn E r (k + 1) i j

/-- Memory as it is ahead of place i may be what the operation at j finds. -/
def mayMeet (E : Env) (ms : List Nat) (j i : Nat) : List DRec → Nat → Bool
  | [], _ => true
  | d :: r, b => (!isBig E d.o.op || (if i ≤ b then !(ms.getD j 0).testBit b else !(ms.getD b 0).testBit j)) && mayMeet E ms j i r (b + 1)

def dchkI (E : Env) (R : Caller) (ops : Array Oper) (ms : List Nat) (all : List DRec) (d : DRec) (j : Nat) : List (Nat × Heap) → Option (List Bool)
  | [] => some []
  | (i, H) :: r =>
    match dchkI E R ops ms all d j r with
    | some ok =>
      if (bigIn E all 0 i j || bigIn E all 0 j i) && mayMeet E ms j i all 0 then
        match dchk1 E R ops d H with
        | some ok1 => some (ok1 ++ ok)
        | none => none
      else some ok
    | none => none

def dheaps (E : Env) : List DRec → Nat → List (Nat × Heap)
  | [], _ => []
  | d :: r, k => if isBig E d.o.op then (k + 1, d.rc.heap d.H) :: dheaps E r (k + 1) else dheaps E r (k + 1)

def dchkA (E : Env) (R : Caller) (ops : Array Oper) (ms : List Nat) (all : List DRec) (hs : List (Nat × Heap)) : List DRec → Nat → Option (List Bool)
  | [], _ => some []
  | d :: r, j =>
    match dchkA E R ops ms all hs r (j + 1) with
    | some ok =>
      if isBig E d.o.op then some ok else
      match dchkI E R ops ms all d j hs with
      | some ok1 => some (ok1 ++ ok)
      | none => none
    | none => none

def dstep (E : Env) (R : Caller) (orc : Option (List Bool)) (C : Cfg) : St :=
  match C.fr.todo with
  | .code (.region _ ops true) :: k =>
    match dpass E R ops C.fr.nt ops.toList [] orc C.H C.fr.tm with
    | some (ok, orc', recs, H, tm) =>
      let ms := masksL ops.toList []
      let late := lateIx E ms ops.toList ops.toList 0
      if edgesOk ops.toList 0 && statOk E ops ms ops.toList late ops.toList 0 && lateIs E ops ms C.fr.tm late then
        match dchkA E R ops ms recs ((0, C.H) :: dheaps E recs 0) recs 0 with
        | some ok2 => some (ok2 ++ ok, orc', { C with fr := { C.fr with tm := tm, todo := k, dk := [] }, H := H })
        | none => none
      else none
    | none => none
  | _ => none

end Go.Am
