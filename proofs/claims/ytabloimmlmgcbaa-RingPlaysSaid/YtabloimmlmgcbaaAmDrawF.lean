/-
  The abstract machine: a drawn region's checks, carried out with numbers for sets: what they grant, the checks grant.
-/
import Derived.Test.YtabloimmlmgcbaaAmDraw6
namespace Go.Am

def gNat {β : Type} (m : Nat) (k : Nat → β) : β :=
  match m with
  | 0 => k 0
  | n + 1 => k (n + 1)
theorem gNat_eq {β : Type} (m : Nat) (k : Nat → β) : gNat m k = k m := by cases m <;> rfl
def gBool {β : Type} (b : Bool) (k : Bool → β) : β :=
  match b with
  | true => k true
  | false => k false
theorem gBool_eq {β : Type} (b : Bool) (k : Bool → β) : gBool b k = k b := by cases b <;> rfl

/-! Tables of sets: the set of number t lies at the bits from 256 t on. -/
def fieldT (x t : Nat) : Nat := Nat.land (Nat.shiftRight x (Nat.mul 256 t)) 115792089237316195423570985008687907853269984665640564039457584007913129639935
def putT (x t i : Nat) : Nat := Nat.lor x (Nat.pow 2 (Nat.add (Nat.mul 256 t) i))
theorem fieldT_get {x t i : Nat} (hi : i < 256) (h : x.testBit (256 * t + i) = true) : (fieldT x t).testBit i = true := by
  have e : fieldT x t = (x >>> (256 * t)) &&& (2 ^ 256 - 1) := rfl
  rw [e, Nat.testBit_and, Nat.testBit_shiftRight, h, Nat.testBit_two_pow_sub_one]
  simp [hi]
theorem putT_same (x t i : Nat) : (putT x t i).testBit (256 * t + i) = true := by
  have e : putT x t i = x ||| 2 ^ (256 * t + i) := rfl
  rw [e, Nat.testBit_or, Nat.testBit_two_pow_self]
  simp
theorem putT_old {x t i n : Nat} (h : x.testBit n = true) : (putT x t i).testBit n = true := by
  have e : putT x t i = x ||| 2 ^ (256 * t + i) := rfl
  rw [e, Nat.testBit_or, h]
  rfl
def getsL (x : Nat) : List Nat → Nat → Nat
  | [], a => a
  | t :: r, a => getsL x r (Nat.lor a (fieldT x t))
def putsL (i : Nat) : List Nat → Nat → Nat
  | [], x => x
  | t :: r, x => putsL i r (putT x t i)
theorem getsL_get {x i : Nat} (hi : i < 256) : ∀ {l : List Nat} {a : Nat}, (a.testBit i = true ∨ ∃ t ∈ l, x.testBit (256 * t + i) = true) → (getsL x l a).testBit i = true
  | [], a, h => by
    rcases h with h | ⟨t, h, _⟩
    · exact h
    · cases h
  | t :: r, a, h => by
    rw [getsL]
    refine getsL_get hi ?_
    have e : Nat.lor a (fieldT x t) = a ||| fieldT x t := rfl
    rw [e, Nat.testBit_or]
    rcases h with h | ⟨u, hu, h⟩
    · left; rw [h]; rfl
    · rcases List.mem_cons.1 hu with rfl | hu
      · left; rw [fieldT_get hi h]; simp
      · right; exact ⟨u, hu, h⟩
theorem putsL_old {i n : Nat} : ∀ {l : List Nat} {x : Nat}, x.testBit n = true → (putsL i l x).testBit n = true
  | [], x, h => h
  | t :: r, x, h => by rw [putsL]; exact putsL_old (putT_old h)
theorem putsL_get {i : Nat} : ∀ {l : List Nat} {x t : Nat}, t ∈ l → (putsL i l x).testBit (256 * t + i) = true
  | [], x, t, h => by cases h
  | u :: r, x, t, h => by
    rw [putsL]
    rcases List.mem_cons.1 h with rfl | h
    · exact putsL_old (putT_same _ _ _)
    · exact putsL_get h
theorem sub_bits {c m : Nat} (h : Nat.beq (Nat.land m c) c = true) {i : Nat} (hi : c.testBit i = true) : m.testBit i = true := by
  have h1 : m &&& c = c := Nat.eq_of_beq_eq_true h
  have := Nat.testBit_and m c i
  rw [h1, hi] at this
  simpa using this.symm

def gNats {β : Type} : List Nat → (List Nat → β) → β
  | [], k => k []
  | x :: r, k => gNat x fun x => gNats r fun r => k (x :: r)
theorem gNats_eq {β : Type} : ∀ (l : List Nat) (k : List Nat → β), gNats l k = k l
  | [], k => rfl
  | x :: r, k => by rw [gNats, gNat_eq, gNats_eq]
/-- wr: who writes; nm: who names; bg: who may change memory. -/
def statF (E : Env) (ops : Array Oper) (late : Option Nat) : List Oper → List Nat → Nat → Nat → Nat → Nat → Bool
  | [], _, _, _, _, _ => true
  | y :: r, ms, j, wr, nm, bg =>
    match ms with
    | [] => false
    | m0 :: ms' =>
      gNat m0 fun m => gNats (names ops y) fun ny => gNat (getsL wr ny (getsL nm y.dst.toList 0)) fun c =>
      gBool (isBig E y.op) fun b =>
      match (Nat.beq (Nat.land m c) c && (match b with
        | true => match late with
          | some q => Nat.beq q j || Nat.beq (Nat.land m bg) bg
          | none => Nat.beq (Nat.land m bg) bg
        | false => true)) with
      | true => gNat (putsL j y.dst.toList wr) fun wr' => gNat (putsL j ny nm) fun nm' => gNat (match b with | true => Nat.lor bg (Nat.pow 2 j) | false => bg) fun bg' => gNat (Nat.add j 1) fun j' => statF E ops late r ms' j' wr' nm' bg'
      | false => false

/-- What the tables hold of the operations ahead of j. -/
structure TabOk (E : Env) (ops : Array Oper) (all : List Oper) (j wr nm bg : Nat) : Prop where
  w : ∀ i x d, i < j → all[i]? = some x → x.dst = some d → wr.testBit (256 * d + i) = true
  n : ∀ i x t, i < j → all[i]? = some x → t ∈ names ops x → nm.testBit (256 * t + i) = true
  b : ∀ i x, i < j → all[i]? = some x → isBig E x.op = true → bg.testBit i = true

theorem writes_mem {o : Oper} {l : List Tmp} (h : writes o l = true) : ∃ d, o.dst = some d ∧ d ∈ l := by
  unfold writes at h
  split at h
  · rename_i d hd
    exact ⟨d, hd, by simpa using h⟩
  · cases h

theorem clashOk_of {E : Env} {ops : Array Oper} {m : Nat} {y : Oper} {l : Bool} : ∀ {xs : List Oper} {i : Nat}, (∀ k x, xs[k]? = some x → clash E ops x y = true → m.testBit (i + k) = true ∨ (l = true ∧ clashN ops x y = false)) → clashOk E ops m y l xs i = true
  | [], _, _ => rfl
  | x :: r, i, h => by
    rw [clashOk]
    simp only [Bool.and_eq_true, Bool.or_eq_true]
    refine ⟨?_, clashOk_of fun k z hz hc => ?_⟩
    · cases hc : clash E ops x y with
      | false => simp
      | true =>
        rcases h 0 x rfl hc with h1 | ⟨h1, h2⟩
        · left; right; simpa using h1
        · right; simp [h1, h2]
    · have := h (k + 1) z hz hc
      rw [show i + 1 + k = i + (k + 1) by omega]
      exact this

theorem statF_ok {E : Env} {ops : Array Oper} {all : List Oper} {late : Option Nat} {ms0 : List Nat} (hall : all.length ≤ 256) : ∀ {l : List Oper} {ms : List Nat} {j wr nm bg : Nat}, statF E ops late l ms j wr nm bg = true → TabOk E ops all j wr nm bg →
    (∀ k, l[k]? = all[j + k]?) → (∀ k, k < l.length → ms.getD k 0 = ms0.getD (j + k) 0) → statOk E ops ms0 all late l j = true
  | [], _, _, _, _, _, _, _, _, _ => rfl
  | y :: r, [], j, wr, nm, bg, h, _, _, _ => by simp [statF] at h
  | y :: r, m :: ms', j, wr, nm, bg, h, hT, hl, hm => by
    simp only [statF, gNat_eq, gNats_eq, gBool_eq] at h
    split at h
    case h_2 => cases h
    rename_i hc
    simp only [Bool.and_eq_true] at hc
    have hy : all[j]? = some y := by have := hl 0; simpa using this.symm
    have hjl : j < all.length := (List.getElem?_eq_some_iff.1 hy).1
    have hm0 : ms0.getD j 0 = m := by have := hm 0 (by simp); simpa using this.symm
    rw [statOk]
    simp only [Bool.and_eq_true]
    constructor
    · rw [hm0]
      refine clashOk_of fun i x hx hcl => ?_
      rw [List.getElem?_take] at hx
      split at hx
      case isFalse => cases hx
      rename_i hij
      rw [Nat.zero_add]
      have hi256 : i < 256 := by omega
      unfold clash at hcl
      cases hN : clashN ops x y with
      | true =>
        left
        refine sub_bits hc.1 (getsL_get hi256 ?_)
        unfold clashN at hN
        simp only [Bool.or_eq_true] at hN
        rcases hN with h1 | h1
        · obtain ⟨d, hd, hmem⟩ := writes_mem h1
          exact .inr ⟨d, hmem, hT.w i x d hij hx hd⟩
        · obtain ⟨d, hd, hmem⟩ := writes_mem h1
          exact .inl (getsL_get hi256 (.inr ⟨d, by rw [hd]; simp, hT.n i x d hij hx hmem⟩))
      | false =>
        unfold clashN at hN
        rw [hN] at hcl
        simp only [Bool.false_or, Bool.and_eq_true] at hcl
        have h2 := hc.2
        rw [hcl.2] at h2
        dsimp only at h2
        split at h2
        · rename_i q
          simp only [Bool.or_eq_true] at h2
          rcases h2 with h2 | h2
          · right
            refine ⟨?_, rfl⟩
            have : q = j := Nat.eq_of_beq_eq_true h2
            subst this
            simp
          · exact .inl (sub_bits h2 (hT.b i x hij hx hcl.1))
        · exact .inl (sub_bits h2 (hT.b i x hij hx hcl.1))
    · refine statF_ok hall h ?_ (fun k => ?_) (fun k hk => ?_)
      · constructor
        · intro i x d hi hx hd
          rcases Nat.lt_succ_iff_lt_or_eq.1 hi with hi | rfl
          · exact putsL_old (hT.w i x d hi hx hd)
          · rw [hy] at hx; cases hx
            exact putsL_get (by rw [hd]; simp)
        · intro i x t hi hx ht
          rcases Nat.lt_succ_iff_lt_or_eq.1 hi with hi | rfl
          · exact putsL_old (hT.n i x t hi hx ht)
          · rw [hy] at hx; cases hx
            exact putsL_get ht
        · intro i x hi hx hb
          rcases Nat.lt_succ_iff_lt_or_eq.1 hi with hi | rfl
          · have := hT.b i x hi hx hb
            split
            · have e : Nat.lor bg (Nat.pow 2 j) = bg ||| 2 ^ j := rfl
              rw [e, Nat.testBit_or, this]; rfl
            · exact this
          · rw [hy] at hx; cases hx
            rw [hb]
            dsimp only
            have e : Nat.lor bg (Nat.pow 2 i) = bg ||| 2 ^ i := rfl
            rw [e, Nat.testBit_or, Nat.testBit_two_pow_self]
            simp
      · have := hl (k + 1)
        rw [show Nat.add j 1 + k = j + (k + 1) by show j + 1 + k = _; omega]
        exact this
      · have := hm (k + 1) (by simpa using hk)
        rw [show Nat.add j 1 + k = j + (k + 1) by show j + 1 + k = _; omega]
        simpa using this

def statG (E : Env) (ops : Array Oper) (ms : List Nat) (late : Option Nat) : Bool := Nat.ble ops.toList.length 256 && gNats ms fun ms => statF E ops late ops.toList ms 0 0 0 0
theorem statG_ok {E : Env} {ops : Array Oper} {ms : List Nat} {late : Option Nat} (h : statG E ops ms late = true) : statOk E ops ms ops.toList late ops.toList 0 = true := by
  unfold statG at h
  simp only [Bool.and_eq_true, gNats_eq] at h
  refine statF_ok (Nat.le_of_ble_eq_true h.1) h.2 ⟨fun i x d hi => absurd hi (Nat.not_lt_zero _), fun i x t hi => absurd hi (Nat.not_lt_zero _), fun i x hi => absurd hi (Nat.not_lt_zero _)⟩ (fun k => by rw [Nat.zero_add]) (fun k _ => by rw [Nat.zero_add])

theorem bigIn_none {E : Env} : ∀ {l : List DRec} {k i j : Nat}, (∀ d ∈ l, isBig E d.o.op = false) → bigIn E l k i j = false
  | [], _, _, _, _ => rfl
  | d :: r, k, i, j, h => by
    rw [bigIn, h d (by simp), bigIn_none (fun x hx => h x (by simp [hx]))]
    rfl
theorem dheaps_none {E : Env} : ∀ {l : List DRec} {k : Nat}, dheaps E l k = [] → ∀ d ∈ l, isBig E d.o.op = false
  | [], _, _, d, hd => by cases hd
  | x :: r, k, h, d, hd => by
    rw [dheaps] at h
    split at h
    · cases h
    · rename_i hx
      rcases List.mem_cons.1 hd with rfl | hd
      · simpa using hx
      · exact dheaps_none h d hd
theorem dchkA_none {E : Env} {R : Caller} {ops : Array Oper} {ms : List Nat} {all : List DRec} {i : Nat} {H : Heap} (ha : ∀ d ∈ all, isBig E d.o.op = false) : ∀ {l : List DRec} {j : Nat}, (∀ d ∈ l, isBig E d.o.op = false) → dchkA E R ops ms all [(i, H)] l j = some []
  | [], _, _ => rfl
  | d :: r, j, h => by
    rw [dchkA, dchkA_none ha (fun x hx => h x (by simp [hx]))]
    simp only [h d (by simp), dchkI, bigIn_none ha]
    rfl

/-! decisions are written into their temporaries: each is asked, and recorded, once -/
def ovT : Tm → Nat → Value → Tm
  | .al l, _, _ => .al l
  | .node u l r, i, v => bif Nat.beq i 0 then .node (some v) l r else bif Nat.beq (Nat.mod i 2) 1 then .node u (ovT l (Nat.div i 2) v) r else .node u l (ovT r (Nat.sub (Nat.div i 2) 1) v)
theorem ovT_same : ∀ {tm : Tm} {i : Nat} {v : Value}, getT tm i = some v → ovT tm i v = tm
  | .al l, i, v, _ => rfl
  | .node u l r, i, v, h => by
    simp only [getT, ovT] at h ⊢
    cases h0 : Nat.beq i 0 with
    | true => rw [h0] at h; simp only [cond_true] at h ⊢; rw [h]
    | false =>
      rw [h0] at h
      simp only [cond_false] at h ⊢
      cases h1 : Nat.beq (Nat.mod i 2) 1 with
      | true => rw [h1] at h; simp only [cond_true] at h ⊢; rw [ovT_same h]
      | false => rw [h1] at h; simp only [cond_false] at h ⊢; rw [ovT_same h]
def asked (dk : DK) (tm : Tm) (d : Tmp) : Option (Tmp × Bool) :=
  match dk.lookup d, getT tm d with
  | none, some (.bool b) => some (d, b)
  | _, _ => none
def askedG (ops : Array Oper) (tm : Tm) (o : Oper) (dk : DK) : Option (Tmp × Bool) :=
  match o.guard with
  | some (j, _) => match (ops[j]?).bind (·.dst) with
    | some d => asked dk tm d
    | none => none
  | none => none
def askedP (ops : Array Oper) (tm : Tm) (o : Oper) (g : Bool) (dk : DK) : Option (Tmp × Bool) :=
  match o.op with
  | .pick (.tmp c) _ _ => match unwantedNow ops tm o g with
    | true => none
    | false => asked dk tm c
  | _ => none
def ovA (a : Option (Tmp × Bool)) (g : Bool) (tm : Tm) : Tm :=
  match a with
  | some (d, _) => ovT tm d (.bool g)
  | none => tm
def okA (a : Option (Tmp × Bool)) (g : Bool) : List Bool :=
  match a with
  | some (_, b) => [b == g]
  | none => []
theorem asked_get {dk : DK} {tm : Tm} {d d' : Tmp} {b : Bool} (h : asked dk tm d = some (d', b)) : getT tm d' = some (.bool b) := by
  unfold asked at h
  split at h
  · rename_i h1 h2
    cases h; exact h2
  · cases h
theorem ovA_same {a : Option (Tmp × Bool)} {g : Bool} {tm : Tm} (ha : ∀ d b, a = some (d, b) → getT tm d = some (.bool b)) (hok : AllT (okA a g)) : ovA a g tm = tm := by
  cases a with
  | none => rfl
  | some p =>
    obtain ⟨d, b⟩ := p
    have hb : b = g := by
      have := (AllT.cons.1 hok).1
      simpa using this
    subst hb
    exact ovT_same (ha d b rfl)
theorem askedG_get {ops : Array Oper} {tm : Tm} {o : Oper} {dk : DK} : ∀ d b, askedG ops tm o dk = some (d, b) → getT tm d = some (.bool b) := by
  intro d b h
  unfold askedG at h
  split at h
  · split at h
    · exact asked_get h
    · cases h
  · cases h
theorem askedP_get {ops : Array Oper} {tm : Tm} {o : Oper} {g : Bool} {dk : DK} : ∀ d b, askedP ops tm o g dk = some (d, b) → getT tm d = some (.bool b) := by
  intro d b h
  unfold askedP at h
  split at h
  · split at h
    · cases h
    · exact asked_get h
  · cases h

def dpassG (E : Env) (R : Caller) (ops : Array Oper) (nt : Nat) : List Oper → DK → Option (List Bool) → Heap → Tm → Option (List Bool × Option (List Bool) × List DRec × Heap × Tm)
  | [], _, orc, H, tm => some ([], orc, [], H, tm)
  | o :: r, dk, orc, H, tm =>
    match chooseG ops tm o dk orc with
    | some (g, orc1, dk1) =>
      match chooseP ops tm o g dk1 orc1 with
      | some (p, orc2, dk2) =>
        match dop E R ops o g p orc2 H (ovA (askedP ops tm o g dk1) p (ovA (askedG ops tm o dk) g tm)) with
        | some (ok, orc3, rc) =>
          if dstOk nt o then
            match dpassG E R ops nt r dk2 orc3 (rc.heap H) (put (ovA (askedP ops tm o g dk1) p (ovA (askedG ops tm o dk) g tm)) o.dst rc.v) with
            | some (ok', orc', recs, H', tm') => some (ok' ++ (ok ++ (okA (askedP ops tm o g dk1) p ++ okA (askedG ops tm o dk) g)), orc', ⟨o, g, p, orc2, H, ovA (askedP ops tm o g dk1) p (ovA (askedG ops tm o dk) g tm), rc⟩ :: recs, H', tm')
            | none => none
          else none
        | none => none
      | none => none
    | none => none

theorem dpassG_ok {E : Env} {R : Caller} {ops : Array Oper} {nt : Nat} : ∀ {l : List Oper} {dk : DK} {orc orc' : Option (List Bool)} {H H' : Heap} {tm tm' : Tm} {ok : List Bool} {recs : List DRec}, dpassG E R ops nt l dk orc H tm = some (ok, orc', recs, H', tm') → AllT ok →
    ∃ ok2, dpass E R ops nt l dk orc H tm = some (ok2, orc', recs, H', tm') ∧ AllT ok2
  | [], dk, orc, orc', H, H', tm, tm', ok, recs, h, hok => by cases h; exact ⟨[], rfl, hok⟩
  | o :: r, dk, orc, orc', H, H', tm, tm', ok, recs, h, hok => by
    simp only [dpassG] at h
    split at h
    case h_2 => cases h
    rename_i g orc1 dk1 hg
    split at h
    case h_2 => cases h
    rename_i p orc2 dk2 hp
    split at h
    case h_2 => cases h
    rename_i ok1 orc3 rc hd
    split at h
    case isFalse => cases h
    rename_i hdst
    split at h
    case h_2 => cases h
    rename_i ok' orc4 recs' H2 tm2 hr
    cases h
    obtain ⟨k1, k2⟩ := AllT.app.1 hok
    obtain ⟨k2, k3⟩ := AllT.app.1 k2
    obtain ⟨k3, k4⟩ := AllT.app.1 k3
    have e1 : ovA (askedG ops tm o dk) g tm = tm := ovA_same askedG_get k4
    have e2 : ovA (askedP ops tm o g dk1) p tm = tm := ovA_same askedP_get k3
    rw [e1, e2] at hd hr ⊢
    obtain ⟨ok2, h2, h3⟩ := dpassG_ok hr k1
    refine ⟨ok2 ++ ok1, ?_, AllT.app.2 ⟨h3, k2⟩⟩
    simp only [dpass, hg, hp, hd, hdst, if_true, h2]

/-- The same step, its checks carried out with numbers, each decision recorded once. -/
def dstepF (E : Env) (R : Caller) (orc : Option (List Bool)) (C : Cfg) : St :=
  match C.fr.todo with
  | .code (.region _ ops true) :: k =>
    match dpassG E R ops C.fr.nt ops.toList [] orc C.H C.fr.tm with
    | some (ok, orc', recs, H, tm) =>
      let ms := masksL ops.toList []
      let late := lateIx E ms ops.toList ops.toList 0
      if edgesOk ops.toList 0 && statG E ops ms late && lateIs E ops ms C.fr.tm late then
        match (match dheaps E recs 0 with
          | [] => some []
          | hs => dchkA E R ops ms recs ((0, C.H) :: hs) recs 0) with
        | some ok2 => some (ok2 ++ ok, orc', { C with fr := { C.fr with tm := tm, todo := k, dk := [] }, H := H })
        | none => none
      else none
    | none => none
  | _ => none

theorem dstepF_eq {E : Env} {R : Caller} {orc orc' : Option (List Bool)} {C C' : Cfg} {ok : List Bool} (h : dstepF E R orc C = some (ok, orc', C')) (hok : AllT ok) : ∃ ok2, dstep E R orc C = some (ok2, orc', C') ∧ AllT ok2 := by
  unfold dstepF at h
  split at h
  · rename_i i ops k hk
    split at h
    · rename_i ok0 orc0 recs H tm hp
      dsimp only at h
      split at h
      · rename_i hc
        simp only [Bool.and_eq_true] at hc
        have hst : (edgesOk ops.toList 0 && statOk E ops (masksL ops.toList []) ops.toList (lateIx E (masksL ops.toList []) ops.toList ops.toList 0) ops.toList 0 && lateIs E ops (masksL ops.toList []) C.fr.tm (lateIx E (masksL ops.toList []) ops.toList ops.toList 0)) = true := by
          simp only [Bool.and_eq_true]; exact ⟨⟨hc.1.1, statG_ok hc.1.2⟩, hc.2⟩
        split at h
        · rename_i ok2 hch
          cases h
          obtain ⟨k2, k1⟩ := AllT.app.1 hok
          obtain ⟨ok1, h1, h2⟩ := dpassG_ok hp k1
          have hch2 : dchkA E R ops (masksL ops.toList []) recs ((0, C.H) :: dheaps E recs 0) recs 0 = some ok2 := by
            cases hd : dheaps E recs 0 with
            | nil =>
              rw [hd] at hch
              cases hch
              exact dchkA_none (dheaps_none hd) (dheaps_none hd)
            | cons a b =>
              rw [hd] at hch
              exact hch
          refine ⟨ok2 ++ ok1, ?_, AllT.app.2 ⟨k2, h2⟩⟩
          unfold dstep
          rw [hk]
          dsimp only
          rw [h1]
          dsimp only
          rw [if_pos hst, hch2]
        · cases h
      · cases h
    · cases h
  · cases h

end Go.Am
