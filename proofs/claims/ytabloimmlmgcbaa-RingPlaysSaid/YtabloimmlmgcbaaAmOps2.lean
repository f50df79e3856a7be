/-
  The abstract machine: arithmetic, addresses, slices, literals, conversions against the model's.
-/
import Derived.Test.YtabloimmlmgcbaaAmOps
namespace Go.Am
section
variable {E : Env} {Pr : Prot} {A : Nat → Prop} {ρ : Nat → Nm}

theorem fieldOf_spec {s : TypeId} {f : Nat} {x : Field} {i : TI} (h : fieldOf E s f = some (x, i)) : ∃ fs, undT E s = some (.struct fs) ∧ fs[f]? = some x ∧ E.ty x.type = some i := by
  unfold fieldOf at h
  split at h
  · rename_i fs hu
    split at h
    · rename_i y hf
      split at h
      · rename_i j hj
        cases h
        exact ⟨fs, hu, hf, hj⟩
      · cases h
    · cases h
  · cases h

theorem elemT_spec {t : TypeId} {e : TypeId} {i : TI} (h : elemT E t = some (e, i)) : undT E t = some (.slice e) ∧ E.ty e = some i := by
  unfold elemT at h
  split at h
  · rename_i e' hu
    split at h
    · rename_i j hj
      cases h
      exact ⟨hu, hj⟩
    · cases h
  · cases h

/-! ### numbers, texts, truths -/

theorem toL_extract (s : ByteArray) (l h : Nat) : sub s l h = s.extract l h := by
  have : (s.extract l h).data = s.data.extract l h := by
    exact ByteArray.data_extract
  have h2 : (sub s l h).data = (s.extract l h).data := by
    rw [this]
    apply Array.ext'
    simp [sub, ofL, toL]
  cases hs : sub s l h with
  | mk d => cases hx : s.extract l h with
    | mk d' => rw [hs, hx] at h2; exact congrArg ByteArray.mk h2

theorem cat_eq (x y : ByteArray) : cat x y = x ++ y := by
  have h2 : (cat x y).data = (x ++ y).data := by
    rw [ByteArray.data_append]
    apply Array.ext'
    simp [cat, ofL, toL]
  cases hs : cat x y with
  | mk d => cases hx : x ++ y with
    | mk d' => rw [hs, hx] at h2; exact congrArg ByteArray.mk h2

theorem slen_eq (s : ByteArray) : slen s = s.size := by
  show s.data.toList.length = s.size
  rw [Array.length_toList]; rfl

theorem toL_eq (s : ByteArray) : toL s = s.toList := (ByteArray.toList_eq s).symm

theorem binI_sound {op : BinOp} {k : IntKind} {a b : Int} {v : Value} {ok : List Bool} {t : TypeId} (h : binI op k a b = some (v, ok)) (hok : AllT ok) (w : World) :
    (Go.binOp op t (.int k a) (.int k b)).run E.P w = .ok v w ∧ VR Pr A ρ v v := by
  cases op <;> simp only [binI, iand, ior, ixor, iandn, Option.some.injEq, Prod.mk.injEq, reduceCtorEq] at h
  all_goals
    obtain ⟨rfl, rfl⟩ := h
    refine ⟨?_, by constructor⟩
    simp [Go.binOp, Op.intArith, Op.intDiv, Op.intBits, Op.intCmp]
  all_goals
    have := AllT.cons.1 hok |>.1
    simp at this
    simp [this]

theorem binSh_sound {op : BinOp} {k k' : IntKind} {a b : Int} {v : Value} {ok : List Bool} {t : TypeId} (h : binSh op k a b = some (v, ok)) (hok : AllT ok) (w : World) :
    (Go.binOp op t (.int k a) (.int k' b)).run E.P w = .ok v w ∧ VR Pr A ρ v v := by
  cases op <;> simp only [binSh, ishl, ishr, Option.some.injEq, Prod.mk.injEq, reduceCtorEq] at h
  all_goals
    obtain ⟨rfl, rfl⟩ := h
    have := AllT.cons.1 hok |>.1
    have h0 : ¬ b < 0 := by simpa using this
    exact ⟨by simp [Go.binOp, Op.shift, h0], by constructor⟩

theorem binS_sound {op : BinOp} {a b : ByteArray} {v : Value} {ok : List Bool} {t : TypeId} (h : binS op a b = some (v, ok)) (hok : AllT ok) (w : World) :
    (Go.binOp op t (.string a) (.string b)).run E.P w = .ok v w ∧ VR Pr A ρ v v := by
  cases op <;> simp only [binS, Option.some.injEq, Prod.mk.injEq, reduceCtorEq] at h
  all_goals
    obtain ⟨rfl, rfl⟩ := h
    refine ⟨?_, by constructor⟩
  · have := AllT.cons.1 hok |>.1
    simp only [slen_eq, decide_eq_true_eq] at this
    have h0 : ¬ ((a.size + b.size : Nat) : Int) > IntKind.i64.max := by
      have : IntKind.i64.max = 9223372036854775807 := by decide
      omega
    simp only [Go.binOp, Op.stringOp, h0, if_false, cat_eq]
    rfl
  · simp [Go.binOp, Op.stringOp, toL_eq]
  · simp [Go.binOp, Op.stringOp, toL_eq]

theorem binB_sound {op : BinOp} {a b : Bool} {v : Value} {ok : List Bool} {t : TypeId} (hu : undT E t = some .bool) (h : binB op a b = some (v, ok)) (w : World) :
    (Go.binOp op t (.bool a) (.bool b)).run E.P w = .ok v w ∧ VR Pr A ρ v v := by
  have he : ∀ d, (Op.equalIn (d + 1) t (.bool a) (.bool b)).run E.P w = .ok (a == b) w := fun d => by
    simp [Op.equalIn, undT_run hu w]
  have he2 : (Op.equal t (.bool a) (.bool b)).run E.P w = .ok (a == b) w := he 9999
  cases op <;> simp only [binB, Option.some.injEq, Prod.mk.injEq, reduceCtorEq] at h
  all_goals
    obtain ⟨rfl, rfl⟩ := h
    refine ⟨?_, by constructor⟩
    simp only [Go.binOp, Sem.run_bind, he2, Result.andThen_ok]
    rfl

theorem toL_inj0 {a b : ByteArray} (h : toL a = toL b) : a = b := by
  cases a; cases b
  simp only [toL] at h
  rw [Array.ext' h]

theorem beq_toL (a b : ByteArray) : (a == b) = (toL a == toL b) := by
  cases a with
  | mk da =>
    cases b with
    | mk db =>
      have h1 : ((⟨da⟩ : ByteArray) == ⟨db⟩) = (da == db) := rfl
      rw [h1, Bool.eq_iff_iff, beq_iff_eq, beq_iff_eq]
      exact ⟨fun h => by rw [h], fun h => Array.ext' h⟩

theorem nilOk_not {i o c : Nat} (h : AllT (nilOk (.slice (some ⟨i, o, none⟩) 0 c))) : False := by
  have := (AllT.cons.1 h).1
  simp at this

theorem eqNilIn_sound {x y x' y' : Value} {d : TypeDesc} {t : TypeId} {r : Bool} (hu : undT E t = some d) (hn : eqNil d x y = some r) (h1 : AllT (nilOk x)) (h2 : AllT (nilOk y)) (hx : VR Pr A ρ x x') (hy : VR Pr A ρ y y') (w : World) :
    ∀ n, (Op.equalIn (n + 1) t x' y').run E.P w = .ok r w := by
  intro n
  unfold eqNil at hn
  split at hn <;> cases hn <;> cases hx <;> cases hy <;> first | (simp [Op.equalIn, undT_run hu w]; done) | exact (nilOk_not h1).elim | exact (nilOk_not h2).elim

theorem eqNil_sound {x y x' y' : Value} {d : TypeDesc} {t : TypeId} {r : Bool} (hu : undT E t = some d) (hn : eqNil d x y = some r) (h1 : AllT (nilOk x)) (h2 : AllT (nilOk y)) (hx : VR Pr A ρ x x') (hy : VR Pr A ρ y y') (w : World) :
    (Op.equal t x' y').run E.P w = .ok r w := eqNilIn_sound hu hn h1 h2 hx hy w 9999

theorem binN_sound {x y x' y' : Value} {d : TypeDesc} {t : TypeId} {r : Bool} (hu : undT E t = some d) (hn : eqNil d x y = some r) (h1 : AllT (nilOk x)) (h2 : AllT (nilOk y)) (hx : VR Pr A ρ x x') (hy : VR Pr A ρ y y') (w : World)
    {op : BinOp} {v : Value} {ok : List Bool} (h : binN op r = some (v, ok)) : (Go.binOp op t x' y').run E.P w = .ok v w ∧ VR Pr A ρ v v := by
  have he := eqNil_sound hu hn h1 h2 hx hy w
  cases op <;> simp only [binN, Option.some.injEq, Prod.mk.injEq, reduceCtorEq] at h
  all_goals
    obtain ⟨rfl, rfl⟩ := h
    refine ⟨?_, by constructor⟩
    unfold eqNil at hn
    split at hn <;> cases hn <;> cases hx <;> cases hy <;> first | (simp only [Go.binOp, Sem.run_bind, he, Result.andThen_ok]; rfl) | exact (nilOk_not h1).elim | exact (nilOk_not h2).elim


/-! ### parts of values -/

/-- 'part' of an aggregate, where loadV tells it. -/
theorem part_run {t : TypeId} {i : TI} (ht : E.ty t = some i) {cs cs' : Array Value} {o : Nat} {v : Value} {ok : List Bool} (hl : loadV i cs.toList o = some (v, ok)) (hok : AllT ok)
    (hv : VL Pr A ρ cs.toList cs'.toList) (w : World) : ∃ v', (part t cs' o).run E.P w = .ok v' w ∧ VR Pr A ρ v v' := by
  have hlen := hv.length
  unfold loadV at hl
  split at hl
  · rename_i hagg
    split at hl
    · rename_i hle
      cases hl
      obtain ⟨h1, h2⟩ := AllT.cons.1 hok
      have h1 : o + i.size ≤ cs.toList.length := by simpa using h1
      refine ⟨.agg (cs'.extract o (o + i.size)), ?_, ?_⟩
      · simp [part, ty_run_agg ht w, hagg, ty_run_size ht w]
      · have : cs'.extract o (o + i.size) = ((cs'.toList.drop o).take i.size).toArray := by
          apply Array.ext'
          simp [List.extract_eq_take_drop]
        rw [this]
        refine VR.aggL (VL.of_get (by simp only [loadN_length, List.length_take, List.length_drop]; omega) fun k hk => ?_)
        rw [loadN_length] at hk
        rw [loadN_get i.leaves 0 h2 k hk]
        have := hv.get (o + k) (by omega)
        have hk2 : k < i.size := by omega
        simpa [List.getD_eq_getElem?_getD, hk2] using this
    · cases hl
  · rename_i hagg
    have hagg' : isAggT i.und = false := by simpa using hagg
    split at hl
    · rename_i l hleaf
      cases hl
      obtain ⟨h1, h2⟩ := AllT.cons.1 hok
      have hle : o < cs.toList.length := by simpa using h1
      have hle2 : o < cs'.size := by rw [← Array.length_toList]; omega
      refine ⟨cs'[o], ?_, ?_⟩
      · simp [part, ty_run_agg ht w, hagg', hle2]
      · rw [proj_eq h2]
        have := hv.get o hle
        simpa [List.getD_eq_getElem?_getD, hle2] using this
    · cases hl

/-! ### equality of structs and arrays -/

theorem run_eqFields {r : TypeId → Value → Value → Option (Bool × List Bool)} {xs ys xs' ys' : Array Value} (hx : VL Pr A ρ xs.toList xs'.toList) (hy : VL Pr A ρ ys.toList ys'.toList) (w : World) {d : Nat}
    (hr : ∀ t x y x' y' b ok, r t x y = some (b, ok) → AllT ok → VR Pr A ρ x x' → VR Pr A ρ y y' → (Op.equalIn d t x' y').run E.P w = .ok b w) :
    ∀ {l : List Field} {b : Bool} {ok : List Bool}, eqFields E r xs.toList ys.toList l = some (b, ok) → AllT ok →
      (do
        for f in l do
          if f.name ≠ "_" then
            if !(← Op.equalIn d f.type (← part f.type xs' f.offset) (← part f.type ys' f.offset)) then return false
        pure true : Sem Bool).run E.P w = .ok b w
  | [], b, ok, h, _ => by cases h; rfl
  | f :: l, b, ok, h, hok => by
    simp only [eqFields] at h
    split at h
    · rename_i hf
      have := run_eqFields hx hy w hr h hok
      simp only [List.forIn_cons, hf, ne_eq, not_true_eq_false, if_false, pure_bind] at this ⊢
      exact this
    · rename_i hf
      split at h
      · rename_i i hi
        split at h
        · rename_i u ok1 v ok2 hu hv
          split at h
          · rename_i p ok3 q ok4 hp hq
            cases h
            obtain ⟨k1, hok⟩ := AllT.app.1 hok
            obtain ⟨k2, hok⟩ := AllT.app.1 hok
            obtain ⟨k3, k4⟩ := AllT.app.1 hok
            obtain ⟨u', g1, g2⟩ := part_run hi hu k1 hx w
            obtain ⟨v', g3, g4⟩ := part_run hi hv k2 hy w
            have ih := run_eqFields hx hy w hr hq k4
            have he := hr _ _ _ _ _ _ _ hp k3 g2 g4
            simp only [List.forIn_cons, hf, ne_eq, not_false_eq_true, if_true, bind_assoc, Sem.run_bind, g1, g3, he, Result.andThen_ok] at ih ⊢
            cases p
            · simp
            · simpa using ih
          · cases h
        · cases h
      · cases h

theorem run_eqElems {r : Value → Value → Option (Bool × List Bool)} {e : TypeId} {i : TI} (hi : E.ty e = some i) {xs ys xs' ys' : Array Value} (hx : VL Pr A ρ xs.toList xs'.toList) (hy : VL Pr A ρ ys.toList ys'.toList) (w : World) {d : Nat}
    (hr : ∀ x y x' y' b ok, r x y = some (b, ok) → AllT ok → VR Pr A ρ x x' → VR Pr A ρ y y' → (Op.equalIn d e x' y').run E.P w = .ok b w) :
    ∀ {n k : Nat} {b : Bool} {ok : List Bool}, eqElems r i xs.toList ys.toList n k = some (b, ok) → AllT ok →
      (do
        for j in List.range' k n do
          if !(← Op.equalIn d e (← part e xs' (j * i.size)) (← part e ys' (j * i.size))) then return false
        pure true : Sem Bool).run E.P w = .ok b w
  | 0, k, b, ok, h, _ => by cases h; rfl
  | n + 1, k, b, ok, h, hok => by
    simp only [eqElems] at h
    split at h
    · rename_i u ok1 v ok2 hu hv
      split at h
      · rename_i p ok3 q ok4 hp hq
        cases h
        obtain ⟨k1, hok⟩ := AllT.app.1 hok
        obtain ⟨k2, hok⟩ := AllT.app.1 hok
        obtain ⟨k3, k4⟩ := AllT.app.1 hok
        obtain ⟨u', g1, g2⟩ := part_run hi hu k1 hx w
        obtain ⟨v', g3, g4⟩ := part_run hi hv k2 hy w
        have ih := run_eqElems hi hx hy w hr hq k4
        have he := hr _ _ _ _ _ _ hp k3 g2 g4
        simp only [List.range'_succ, List.forIn_cons, bind_assoc, Sem.run_bind, g1, g3, he, Result.andThen_ok] at ih ⊢
        cases p
        · simp
        · simpa using ih
      · cases h
    · cases h

theorem eqIn_sound (w : World) : ∀ (d : Nat) {t : TypeId} {x y x' y' : Value} {b : Bool} {ok : List Bool}, eqIn E d t x y = some (b, ok) → AllT ok → VR Pr A ρ x x' → VR Pr A ρ y y' → ∀ n, d ≤ n → (Op.equalIn n t x' y').run E.P w = .ok b w
  | 0, t, x, y, x', y', b, ok, h, _, _, _, _, _ => by cases h
  | d + 1, t, x, y, x', y', b, ok, h, hok, hx, hy, n, hn => by
    obtain ⟨m, rfl⟩ : ∃ m, n = m + 1 := ⟨n - 1, by omega⟩
    simp only [eqIn] at h
    split at h
    · rename_i hu
      cases h; cases hx; cases hy
      simp [Op.equalIn, undT_run hu w]
    · rename_i hu
      split at h
      · rename_i hk
        cases h; cases hx; cases hy
        simp [Op.equalIn, undT_run hu w, hk]
      · cases h
    · rename_i hu
      cases h; cases hx; cases hy
      simp [Op.equalIn, undT_run hu w, beq_toL]
    · rename_i fs xs ys hu
      split at h
      · rename_i he
        obtain ⟨xs', rfl, hxs⟩ := hx.aggInv
        obtain ⟨ys', rfl, hys⟩ := hy.aggInv
        have hst := (E.eqOk t he).1
        have := run_eqFields hxs hys w (d := m) (fun t x y x' y' b ok hh hok hx hy => eqIn_sound w d hh hok hx hy m (by omega)) h hok
        rw [Array.forIn_toList] at this
        simp only [Op.equalIn, Sem.run_bind, undT_run hu w, Result.andThen_ok, run_program, hst, Bool.false_eq_true, if_false]
        simpa only [Sem.run_bind] using this
      · cases h
    · rename_i len e xs ys hu
      split at h
      · rename_i i hi
        obtain ⟨xs', rfl, hxs⟩ := hx.aggInv
        obtain ⟨ys', rfl, hys⟩ := hy.aggInv
        have := run_eqElems hi hxs hys w (d := m) (fun x y x' y' b ok hh hok hx hy => eqIn_sound w d hh hok hx hy m (by omega)) h hok
        simp only [Op.equalIn, Sem.run_bind, undT_run hu w, Result.andThen_ok, ty_run_size hi w]
        simp only [Std.Legacy.Range.forIn_eq_forIn_range', Std.Legacy.Range.size, Nat.sub_zero, Nat.add_one_sub_one, Nat.div_one]
        simpa only [Sem.run_bind] using this
      · cases h
    · rename_i u x y hu _ _ _ _ _
      split at h
      · rename_i r hnn
        cases h
        obtain ⟨k1, k2⟩ := AllT.app.1 hok
        exact eqNilIn_sound hu hnn k1 k2 hx hy w m
      · cases h
    · cases h

theorem binop_sound {op : BinOp} {t : TypeId} {x y x' y' v : Value} {ok : List Bool} (h : binop E op t x y = some (v, ok)) (hok : AllT ok) (hx : VR Pr A ρ x x') (hy : VR Pr A ρ y y') (w : World) :
    (Go.binOp op t x' y').run E.P w = .ok v w ∧ VR Pr A ρ v v ∧ ∀ a b, (eqGuard op t a b x' y').run E.P w = .ok () w := by
  have hgd : (∀ cs, x' ≠ .agg cs) → x' ≠ .nilIface → ∀ a b, (eqGuard op t a b x' y').run E.P w = .ok () w := by
    intro h1 h2 a b
    cases op <;> first
      | rfl
      | (cases x' <;> first | rfl | exact absurd rfl (h1 _) | exact absurd rfl h2)
  unfold binop at h
  split at h
  · rename_i k1 a1 k2 a2
    cases hx; cases hy
    have key : (Go.binOp op t (.int k1 a1) (.int k2 a2)).run E.P w = .ok v w ∧ VR Pr A ρ v v := by
      split at h
      · exact binSh_sound h hok w
      · exact binSh_sound h hok w
      · split at h
        · rename_i hk; subst hk; exact binI_sound h hok w
        · cases h
    exact ⟨key.1, key.2, hgd (by simp) (by simp)⟩
  · cases hx; cases hy
    have := binS_sound (E := E) (Pr := Pr) (A := A) (ρ := ρ) (t := t) h hok w
    exact ⟨this.1, this.2, hgd (by simp) (by simp)⟩
  · cases hx; cases hy
    split at h
    · rename_i hu
      have := binB_sound (E := E) (Pr := Pr) (A := A) (ρ := ρ) hu h w
      exact ⟨this.1, this.2, hgd (by simp) (by simp)⟩
    · cases h
  · rename_i xs ys
    split at h
    · rename_i he
      obtain ⟨xs', rfl, hxs⟩ := hx.aggInv
      obtain ⟨ys', rfl, hys⟩ := hy.aggInv
      unfold binE at h
      split at h
      · rename_i b ok1 hq
        have heq : (Op.equal t (.agg xs') (.agg ys')).run E.P w = .ok b w := by
          have hok' : AllT ok1 := by
            split at h
            · cases h; exact hok
            · cases h; exact hok
            · cases h
          exact eqIn_sound w 8 hq hok' hx hy 10000 (by omega)
        have hg : ∀ a b, (eqGuard op t a b (.agg xs') (.agg ys')).run E.P w = .ok () w := by
          intro a b
          have h2 := (E.eqOk t he).2
          cases op <;> first
            | rfl
            | simp [eqGuard, run_program, h2]
        split at h
        · cases h
          exact ⟨by simp [Go.binOp, heq], by constructor, hg⟩
        · cases h
          exact ⟨by simp [Go.binOp, heq], by constructor, hg⟩
        · cases h
      · cases h
    · cases h
  · rename_i a o b o'
    split at h
    · rename_i e hu
      split at h
      · rename_i i hi
        split at h
        · rename_i hc
          obtain ⟨rfl, hsz⟩ := hc
          cases hx with
          | ptr _ _ hA =>
          cases hy with
          | ptr _ _ _ =>
          have hs0 : i.size ≠ 0 := by omega
          have hb : (addr (ρ a) o == addr (ρ a) o') = (o == o') := by
            rw [Bool.eq_iff_iff, beq_iff_eq, beq_iff_eq]
            constructor
            · intro h
              have := congrArg Addr.off h
              simp only [addr] at this
              omega
            · rintro rfl; rfl
          have heq : ∀ n, (Op.equalIn (n + 1) t (.pointer (some (addr (ρ a) o))) (.pointer (some (addr (ρ a) o')))).run E.P w = .ok (o == o') w := by
            intro n
            have h1 : (addr (ρ a) o).block == (addr (ρ a) o').block := by simp [addr]
            simp only [Op.equalIn, Sem.run_bind, undT_run hu w, Result.andThen_ok, ty_run_size hi w, ne_eq, hs0, not_false_eq_true, if_true, sameAddr, h1, hb]
            rfl
          have heq : (Op.equal t (.pointer (some (addr (ρ a) o))) (.pointer (some (addr (ρ a) o')))).run E.P w = .ok (o == o') w := heq 9999
          have hg := hgd (by simp) (by simp)
          cases op <;> simp only [binN, Option.some.injEq, Prod.mk.injEq, reduceCtorEq] at h
          all_goals
            obtain ⟨rfl, rfl⟩ := h
            refine ⟨?_, by constructor, hg⟩
            simp only [Go.binOp, Sem.run_bind, heq, Result.andThen_ok]
            rfl
        · cases h
      · cases h
    · cases h
  · split at h
    · rename_i d hu
      split at h
      · rename_i r hn
        split at h
        · rename_i v1 ok1 hb
          cases h
          obtain ⟨k1, k2⟩ := AllT.app.1 hok
          have := binN_sound (E := E) hu hn k1 (AllT.app.1 k2).1 hx hy w hb
          refine ⟨this.1, this.2, hgd ?_ ?_⟩
          · intro cs hc; subst hc; cases hx; simp [eqNil] at hn
          · intro hc; subst hc; cases hx; simp [eqNil] at hn
        · cases h
      · cases h
    · cases h

theorem unop_sound {op : UnOp} {x x' v : Value} (h : unop op x = some v) (hx : VR Pr A ρ x x') (w : World) : (Op.unary op x').run E.P w = .ok v w ∧ VR Pr A ρ v v := by
  unfold unop at h
  split at h <;> cases h <;> cases hx <;> exact ⟨by simp [Op.unary, Op.intArith, Op.intBits, inot], by constructor⟩

/-! ### addresses -/

theorem VR.padd {b o n : Nat} {p : Addr} (h : VR Pr A ρ (.pointer (some ⟨b, o, none⟩)) (.pointer (some p))) : VR Pr A ρ (.pointer (some ⟨b, o + n, none⟩)) (.pointer (some (p.add n))) := by
  cases h with
  | ptr _ _ hb =>
    have := VR.ptr (Pr := Pr) (A := A) (ρ := ρ) b (o + n) hb
    rw [addr] at this ⊢
    rw [addr_add]
    simpa [Nat.add_assoc] using this

theorem VR.pinv {b o : Nat} {v : Value} (h : VR Pr A ρ (.pointer (some ⟨b, o, none⟩)) v) : ∃ p, v = .pointer (some p) := by
  cases h; exact ⟨_, rfl⟩

theorem VR.roadd {o n : Nat} {cs : Array Value} {p : Addr} (h : VR Pr A ρ (.iface o (.tuple cs)) (.pointer (some p))) : VR Pr A ρ (.iface (o + n) (.tuple cs)) (.pointer (some (p.add n))) := by
  cases h with
  | rop _ _ b o' f hf hv =>
    have := VR.rop (Pr := Pr) (A := A) (ρ := ρ) (o + n) cs b o' f hf hv
    rw [addr_add]
    simpa [Nat.add_assoc] using this

theorem VR.roinv {o : Nat} {cs : Array Value} {v : Value} (h : VR Pr A ρ (.iface o (.tuple cs)) v) : ∃ p, v = .pointer (some p) := by
  cases h; exact ⟨_, rfl⟩

theorem faddr_sound {H H' : Heap} {s : TypeId} {a a' v : Value} {f : Nat} {ok : List Bool} (h : faddrOp E H s a f = some (.val v H', ok)) (ha : VR Pr A ρ a a') (w : World) :
    ∃ v', (Instr.fieldAt s a' f).run E.P w = .ok v' w ∧ VR Pr A ρ v v' ∧ H' = H := by
  unfold faddrOp at h
  split at h
  · rename_i x i b o hf
    obtain ⟨fs, hu, hx, hi⟩ := fieldOf_spec hf
    split at h
    · cases h
    · rename_i hsz
      cases h
      obtain ⟨p, rfl⟩ := ha.pinv
      refine ⟨.pointer (some (p.add x.offset)), ?_, ha.padd, rfl⟩
      simp [Instr.fieldAt, undT_run hu w, hx, Instr.sureAddr, fieldPlace, ty_run_size hi w, hsz]
  · rename_i x i o cs hf
    obtain ⟨fs, hu, hx, hi⟩ := fieldOf_spec hf
    split at h
    · cases h
    · rename_i hsz
      cases h
      obtain ⟨p, rfl⟩ := ha.roinv
      refine ⟨.pointer (some (p.add x.offset)), ?_, ha.roadd, rfl⟩
      simp [Instr.fieldAt, undT_run hu w, hx, Instr.sureAddr, fieldPlace, ty_run_size hi w, hsz]
  · cases h

theorem iaddr_sound {H H' : Heap} {t : TypeId} {x x' ix ix' v : Value} {ok : List Bool} (h : iaddrOp E H t x ix = some (.val v H', ok)) (hok : AllT ok) (hx : VR Pr A ρ x x') (hi : VR Pr A ρ ix ix') (w : World) :
    ∃ v', (Instr.indexAt t x' ix').run E.P w = .ok v' w ∧ VR Pr A ρ v v' ∧ H' = H := by
  unfold iaddrOp at h
  split at h
  · rename_i n e b o q k hu
    split at h
    · rename_i i he
      cases h
      cases hi
      obtain ⟨h1, h2⟩ := AllT.cons.1 hok
      have h2 := (AllT.cons.1 h2).1
      obtain ⟨p, rfl⟩ := hx.pinv
      refine ⟨_, ?_, hx.padd, rfl⟩
      have hk : 0 ≤ k ∧ k < n := ⟨by simpa using h1, by simpa using h2⟩
      simp [Instr.indexAt, asIntOf, undT_run hu w, Instr.sureAddr, hk, ty_run_size he w]
    · cases h
  · rename_i n e o cs q k hu
    split at h
    · rename_i i he
      cases h
      cases hi
      obtain ⟨h1, h2⟩ := AllT.cons.1 hok
      have h2 := (AllT.cons.1 h2).1
      obtain ⟨p, rfl⟩ := hx.roinv
      refine ⟨_, ?_, hx.roadd, rfl⟩
      have hk : 0 ≤ k ∧ k < n := ⟨by simpa using h1, by simpa using h2⟩
      simp [Instr.indexAt, asIntOf, undT_run hu w, Instr.sureAddr, hk, ty_run_size he w]
    · cases h
  · rename_i e b o n c q k hu
    split at h
    · rename_i i he
      cases h
      cases hi
      obtain ⟨h1, h2⟩ := AllT.cons.1 hok
      have h2 := (AllT.cons.1 h2).1
      have hk : 0 ≤ k ∧ k < n := ⟨by simpa using h1, by simpa using h2⟩
      cases hx with
      | slx _ _ _ _ hb hf hn =>
        refine ⟨_, ?_, (VR.ptr b o hb).padd, rfl⟩
        simp [Instr.indexAt, asIntOf, undT_run hu w, hk, ty_run_size he w]
      | slf _ _ _ _ c' z hb hp hf g1 g2 g3 =>
        refine ⟨_, ?_, (VR.ptr b o hb).padd, rfl⟩
        simp [Instr.indexAt, asIntOf, undT_run hu w, hk, ty_run_size he w]
      | sl0 _ _ _ a hb => exact absurd hk.2 (by have := hk.1; simp; omega)
      | nl0 _ _ _ hb => exact absurd hk.2 (by have := hk.1; simp; omega)
    · cases h
  · rename_i e n cs q k hu
    split at h
    · rename_i i he
      cases h
      cases hi
      obtain ⟨h1, h2⟩ := AllT.cons.1 hok
      obtain ⟨h2, h3⟩ := AllT.cons.1 h2
      have h3 := (AllT.cons.1 h3).1
      have hk : 0 ≤ k ∧ k < n := ⟨by simpa using h1, by simpa using h2⟩
      cases hx with
      | rov _ _ b o c' f hn hf hv =>
        refine ⟨.pointer (some ((⟨b, o, none⟩ : Addr).add (k.toNat * i.size))), ?_, ?_, rfl⟩
        · simp [Instr.indexAt, asIntOf, undT_run hu w, hk, ty_run_size he w]
        · have := VR.rop (Pr := Pr) (A := A) (ρ := ρ) (k.toNat * i.size) cs b o f hf hv
          rw [addr_add]; exact this
      | rov0 _ a c' h0 => simp at h3; omega
    · cases h
  · cases h

theorem field_sound {H H' : Heap} {s : TypeId} {a a' v : Value} {f : Nat} {ok : List Bool} (h : fieldOp E H s a f = some (.val v H', ok)) (hok : AllT ok) (ha : VR Pr A ρ a a') (w : World) :
    ∃ v', (Instr.field s a' f).run E.P w = .ok v' w ∧ VR Pr A ρ v v' ∧ H' = H := by
  unfold fieldOp at h
  split at h
  · rename_i x i cs hf
    obtain ⟨fs, hu, hx, hi⟩ := fieldOf_spec hf
    split at h
    · rename_i v1 ok1 hl
      cases h
      obtain ⟨cs', rfl, hcs⟩ := ha.aggInv
      obtain ⟨v', h1, h2⟩ := part_run hi hl hok hcs w
      exact ⟨v', by simp [Instr.field, undT_run hu w, hx, asAgg, h1], h2, rfl⟩
    · cases h
  · cases h

theorem index_sound {H H' : Heap} {t : TypeId} {x x' ix ix' v : Value} {ok : List Bool} (h : indexOp E H t x ix = some (.val v H', ok)) (hok : AllT ok) (hx : VR Pr A ρ x x') (hi : VR Pr A ρ ix ix') (w : World) :
    ∃ v', (Instr.index t x' ix').run E.P w = .ok v' w ∧ VR Pr A ρ v v' ∧ H' = H := by
  unfold indexOp at h
  split at h
  · rename_i n e cs q k hu
    split at h
    · rename_i i he
      split at h
      · rename_i v1 ok1 hl
        cases h
        cases hi
        obtain ⟨h1, h2⟩ := AllT.cons.1 hok
        obtain ⟨h2, h3⟩ := AllT.cons.1 h2
        have hk : 0 ≤ k ∧ k < n := ⟨by simpa using h1, by simpa using h2⟩
        obtain ⟨cs', rfl, hcs⟩ := hx.aggInv
        obtain ⟨v', g1, g2⟩ := part_run he hl h3 hcs w
        exact ⟨v', by simp [Instr.index, asIntOf, undT_run hu w, hk, ty_run_size he w, g1], g2, rfl⟩
      · cases h
    · cases h
  · rename_i s q k hu
    cases h
    cases hi
    cases hx
    obtain ⟨h1, h2⟩ := AllT.cons.1 hok
    have h2 := (AllT.cons.1 h2).1
    have hk : 0 ≤ k := by simpa using h1
    have hk2 : k < slen s := by simpa using h2
    refine ⟨_, ?_, VR.int _ _, rfl⟩
    have hlt : k.toNat < s.data.size := by
      have : slen s = s.data.size := by rw [slen_eq]; rfl
      omega
    have hg : s[k.toNat]? = some (s.data[k.toNat]) := by
      have : k.toNat < s.size := hlt
      rw [getElem?_pos s k.toNat this]
      rfl
    simp [Instr.index, asIntOf, undT_run hu w, hk, hg, chr, toL]
    rw [Array.getElem?_eq_getElem hlt]
    rfl
  · cases h

end
end Go.Am
