/-
  The abstract machine: regions whose order is drawn: one operation at a time.
-/
import Derived.Test.YtabloimmlmgcbaaAmDraw
namespace Go.Am

theorem mem_tmpsOf : ∀ {l : List Operand} {t : Tmp}, t ∈ tmpsOf l ↔ Operand.tmp t ∈ l
  | [], t => by simp [tmpsOf]
  | x :: l, t => by
    cases x <;> simp [tmpsOf, mem_tmpsOf (l := l)]

theorem evalT_congr {tm tm' : Tm} {x : Operand} (h : ∀ t, x = .tmp t → getT tm t = getT tm' t) : evalT tm x = evalT tm' x := by
  cases x with
  | tmp t => exact h t rfl
  | _ => rfl

theorem evalL_congr {tm tm' : Tm} : ∀ {l : List Operand}, (∀ x ∈ l, evalT tm x = evalT tm' x) → evalL tm l = evalL tm' l
  | [], _ => rfl
  | x :: l, h => by
    simp only [evalL, h x (by simp), evalL_congr (l := l) fun y hy => h y (by simp [hy])]

theorem evalP_congr {tm tm' : Tm} : ∀ {l : List (Nat × Operand)}, (∀ x ∈ l.map (·.2), evalT tm x = evalT tm' x) → evalP tm l = evalP tm' l
  | [], _ => rfl
  | (i, x) :: l, h => by
    simp only [evalP, h x (by simp), evalP_congr (l := l) fun y hy => h y (by simp only [List.map_cons, List.mem_cons]; exact .inr hy)]

theorem evalO_congr {tm tm' : Tm} {o : Option Operand} (h : ∀ x ∈ o.toList, evalT tm x = evalT tm' x) : evalO tm o = evalO tm' o := by
  cases o with
  | none => rfl
  | some x => simp only [evalO, h x (by simp)]

theorem aop_congr {E : Env} {H : Heap} {tm tm' : Tm} {o : Op} (h : ∀ x ∈ o.operands.toList, evalT tm x = evalT tm' x) : aop E H tm o = aop E H tm' o := by
  cases o with
  | build t ps =>
    have : evalP tm ps.toList = evalP tm' ps.toList := evalP_congr (by simpa [Op.operands] using h)
    simp only [aop, this]
  | buildSlice t n ps =>
    have : evalP tm ps.toList = evalP tm' ps.toList := evalP_congr (by simpa [Op.operands] using h)
    simp only [aop, this]
  | makeFunc fn a b =>
    have h1 : evalL tm a.toList = evalL tm' a.toList := evalL_congr fun x hx => h x (by simp only [Op.operands, Array.toList_append, List.mem_append]; exact .inl hx)
    have h2 : evalL tm b.toList = evalL tm' b.toList := evalL_congr fun x hx => h x (by simp only [Op.operands, Array.toList_append, List.mem_append]; exact .inr hx)
    simp only [aop, h1, h2]
  | slice t x lo hi mx =>
    have h0 : evalT tm x = evalT tm' x := h x (by simp [Op.operands])
    have h1 : evalO tm lo = evalO tm' lo := evalO_congr fun y hy => h y (by simp only [Op.operands, Array.toList_append, List.mem_append]; exact .inl (.inl (.inr (by simpa using hy))))
    have h2 : evalO tm hi = evalO tm' hi := evalO_congr fun y hy => h y (by simp only [Op.operands, Array.toList_append, List.mem_append]; exact .inl (.inr (by simpa using hy)))
    cases mx <;> simp only [aop, h0, h1, h2]
  | call c =>
    have h1 : evalL tm c.args.toList = evalL tm' c.args.toList := evalL_congr fun x hx => h x (by simp only [Op.operands, Call.operands, Array.toList_append, List.mem_append]; exact .inr hx)
    simp only [aop, h1]
    cases hc : c.callee with
    | value f =>
      have h2 : evalT tm f = evalT tm' f := h f (by simp only [Op.operands, Call.operands, hc, Array.toList_append, List.mem_append]; exact .inl (by simp))
      simp only [h2]
    | _ => rfl
  | _ => simp [Op.operands] at h; simp_all [aop]

theorem gOk_congr {ops : Array Oper} {tm tm' : Tm} {o : Oper} {g : Bool} (h : ∀ t ∈ looks ops o, getT tm t = getT tm' t) : gOk ops tm o g = gOk ops tm' o g := by
  unfold gOk
  cases hg : o.guard with
  | none => rfl
  | some jw =>
    obtain ⟨j, want⟩ := jw
    cases hd : (ops[j]?).bind (·.dst) with
    | none => simp [hd]
    | some d =>
      have : getT tm d = getT tm' d := h d (by simp [looks, guardTmp, hg, hd])
      simp only [hd, this]

theorem dop_congr {E : Env} {R : Caller} {ops : Array Oper} {o : Oper} {g p : Bool} {orc : Option (List Bool)} {H : Heap} {tm tm' : Tm} (h : ∀ t ∈ looks ops o, getT tm t = getT tm' t) : dop E R ops o g p orc H tm = dop E R ops o g p orc H tm' := by
  have hx : ∀ x ∈ o.op.operands.toList, evalT tm x = evalT tm' x := fun x hx => evalT_congr fun t ht => h t (by
    subst ht
    exact List.mem_append_right _ (mem_tmpsOf.2 hx))
  unfold dop
  rw [gOk_congr h]
  split
  · rfl
  · split
    · rename_i c a b hop
      have h1 : getT tm c = getT tm' c := by simpa [evalT] using hx (.tmp c) (by simp [hop, Op.operands])
      have h2 : evalT tm a = evalT tm' a := hx a (by simp [hop, Op.operands])
      have h3 : evalT tm b = evalT tm' b := hx b (by simp [hop, Op.operands])
      have h4 : evalT tm (if p then a else b) = evalT tm' (if p then a else b) := by cases p <;> simp [h2, h3]
      rw [h1, h4]
    · rfl
    · rw [aop_congr hx]
  · rfl

/-- What is not big leaves memory. -/
theorem aop_keeps {E : Env} {H H' : Heap} {tm : Tm} {o : Op} {v : Value} {ok : List Bool} (hb : isBig E o = false) (h : aop E H tm o = some (.val v H', ok)) : H' = H := by
  cases o with
  | alloc => cases hb
  | box => cases hb
  | buildSlice => cases hb
  | store => cases hb
  | makeSlice => cases hb
  | convert s d x =>
    simp only [aop, with1] at h
    split at h
    · simp only [isBig] at hb
      unfold convOp at h
      repeat' split at h
      all_goals first
        | (cases h; rfl)
        | cases h
        | (rename_i hd _ _ _; rw [hd] at hb; cases hb)
        | skip
      all_goals simp_all
    · cases h
  | call c =>
    simp only [aop] at h
    split at h
    · split at h
      · rename_i b hc
        simp only [isBig, hc] at hb
        unfold builtinOp at h
        split at h
        · repeat' split at h
          all_goals first | (cases h; rfl) | cases h
        · repeat' split at h
          all_goals first | (cases h; rfl) | cases h
        · repeat' split at h
          all_goals first | (cases h; rfl) | cases h
        · cases hb
        · cases hb
        · cases hb
        · cases hb
        · repeat' split at h
          all_goals first | (cases h; rfl) | cases h
        · repeat' split at h
          all_goals first | (cases h; rfl) | cases h
        · cases h
      · rename_i fo hc
        cases fo with
        | func f =>
          simp only [isBig, hc, Bool.not_eq_false', Bool.and_eq_true, Option.isNone_iff_eq_none] at hb
          simp only [with1, evalT, extOp, hb.2, orCall, callOp] at h
          repeat' split at h
          all_goals first | cases h | (rename_i h1 _; cases h1)
        | _ => simp [isBig, hc] at hb
      · cases h
    · cases h
  | build t ps =>
    simp only [aop, buildOp] at h
    repeat' split at h
    all_goals first | (cases h; rfl) | cases h
  | load t a =>
    simp only [aop, with1, loadOp] at h
    repeat' split at h
    all_goals first | (cases h; rfl) | cases h
  | fieldAddr s x f =>
    simp only [aop, with1, faddrOp] at h
    repeat' split at h
    all_goals first | (cases h; rfl) | cases h
  | field s x f =>
    simp only [aop, with1, fieldOp] at h
    repeat' split at h
    all_goals first | (cases h; rfl) | cases h
  | indexAddr s x f =>
    simp only [aop, with1, iaddrOp] at h
    repeat' split at h
    all_goals first | (cases h; rfl) | cases h
  | index s x f =>
    simp only [aop, with1, indexOp] at h
    repeat' split at h
    all_goals first | (cases h; rfl) | cases h
  | slice t x lo hi mx =>
    cases mx with
    | none =>
      simp only [aop, with1, sliceOp] at h
      repeat' split at h
      all_goals first | (cases h; rfl) | cases h
    | some _ => cases h
  | nilCheck x =>
    simp only [aop, with1] at h
    repeat' split at h
    all_goals first | (cases h; rfl) | cases h
  | _ =>
    simp only [aop, with1] at h
    repeat' split at h
    all_goals first | (cases h; rfl) | cases h

end Go.Am
