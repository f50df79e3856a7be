/-
  The abstract machine: regions whose order is drawn: what an operation does, at any time at which it may run.
-/
import Derived.Test.YtabloimmlmgcbaaAmDraw2
namespace Go.Am

section
variable {E : Env} {Pr : Prot} {ρ : Nat → Nm} {R : Caller}

theorem gOk_sound {A : Nat → Prop} {ops : Array Oper} {tm : Tm} {nt : Nat} {t : Array Value} {o : Oper} {g d : Bool} {ok : List Bool} (h : gOk ops tm o g = some (d, ok)) (hok : AllT ok) (ht : TmR Pr A ρ tm nt t) :
    Region.wanted o (yielded ops t) = d := by
  unfold gOk at h
  split at h
  · rename_i hg
    cases h
    simp [Region.wanted, hg]
  · rename_i j want hg
    split at h
    · rename_i q hq
      split at h
      · rename_i b hb
        cases h
        obtain ⟨v', h1, h2⟩ := ht.get q _ hb
        cases h2
        have hy : yielded ops t j = some b := by simp [yielded, hq, h1]
        have hbg : b = g := by simpa using (AllT.cons.1 hok).1
        subst hbg
        simp only [Region.wanted, hg, hy]
        rfl
      · rename_i cs hb
        cases h
        obtain ⟨v', h1, h2⟩ := ht.get q _ hb
        obtain ⟨cs', rfl, _⟩ := h2.tupInv
        have hy : yielded ops t j = none := by simp [yielded, hq, h1]
        simp only [Region.wanted, hg, hy]
        rfl
      · cases h
    · cases h

/-- What an operation leaves. -/
def Left (E : Env) (Pr : Prot) (ρ : Nat → Nm) (H : Heap) (f : Frame) (cs : List Frame) (w : World) (v : Value) (H' : Heap) : Prop :=
  ∃ ρ' v' w', Steps E.P (lone f cs w) (lone (f.finish v') cs w') ∧ HR Pr (AN H') ρ' H' w'.heap ∧ VR Pr (AN H') ρ' v v' ∧ (∀ i, AN H i → ρ' i = ρ i) ∧ H.length ≤ H'.length ∧ Kp w w'

theorem HR.grown {A : Nat → Prop} {H : Heap} {hp hp' : Array Obj} (h : HR Pr A ρ H hp) (hlt : ∀ (b : Nat) (o : Obj), hp[b]? = some o → hp'[b]? = some o) : HR Pr A ρ H hp' := by
  obtain ⟨own, h⟩ := h
  have hg : ∀ b, b < hp.size → hp'[b]? = hp[b]? := fun b hb => by rw [Array.getElem?_eq_getElem hb]; exact hlt _ _ (Array.getElem?_eq_getElem hb)
  refine ⟨own, fun b o hb => hlt b o (h.pr b o hb), h.nm, fun i ob hi hf => ?_, fun i cs e z hi => ?_, fun b i hb => ?_⟩
  · rcases h.ob i ob hi hf with h1 | ⟨h1, h2, h3⟩
    · exact .inl h1
    · exact .inr ⟨h1, h2.mono (fun _ _ h => h) (fun _ h => h) (fun _ _ => rfl) (fun _ h => h) (fun b hb => hg b (h.ow _ _ hb).1) h3, h3⟩
  · have hl := h.fr_lt hi
    exact h.fr_keep (fun _ h => h) (fun _ _ => rfl) hi (hg _ hl) (fun j hj => ⟨hj, fun _ _ _ q => q⟩)
  · obtain ⟨h1, h2⟩ := h.ow b i hb
    have := hg b h1
    rw [Array.getElem?_eq_getElem h1] at this
    exact ⟨(Array.getElem?_eq_some_iff.1 this).1, h2⟩
theorem VR.flatEq {A : Nat → Prop} {v v' : Value} (h : Am.flat v = true) (hv : VR Pr A ρ v v') : v' = v := by
  unfold Am.flat at h
  split at h
  all_goals first | (cases h; done) | (cases hv; rfl)
theorem VL.flatEq {A : Nat → Prop} {l l' : List Value} (hv : VL Pr A ρ l l') (h : l.all Am.flat = true) : l' = l := by
  induction hv with
  | nil => rfl
  | cons h1 _ ih =>
    simp only [List.all_cons, Bool.and_eq_true] at h
    rw [VR.flatEq h.1 h1, ih h.2]
theorem VR.constEq {A : Nat → Prop} {v v' : Value} (h : constOk v = true) (hv : VR Pr A ρ v v') : v' = v := by
  unfold constOk at h
  split at h
  · obtain ⟨cs', rfl, hl⟩ := hv.aggInv
    rw [Array.ext' (hl.flatEq h)]
  · obtain ⟨cs', rfl, hl⟩ := hv.tupInv
    rw [Array.ext' (hl.flatEq h)]
  · exact VR.flatEq h hv
/-- A call that takes and hands back plain values alone does the same in any memory, and leaves it. -/
theorem callOk_pure {g : FuncId} {args : List Value} {v : Value} {H' : Heap} (h : CallOk E g args [] v H') (ha : args.all Am.flat = true) (hv : constOk v = true) (H : Heap) : CallOk E g args H v H := by
  intro Pr ρ args' c cs w hH hargs
  have e := hargs.flatEq ha
  subst e
  let Pr1 : Prot := ⟨fun b => w.heap[b]?, Pr.rd, fun b o h => hH.pr b o (Pr.sub b o h)⟩
  have h0 : HR Pr1 (AN []) ρ [] w.heap := by
    refine ⟨fun _ => none, fun b o h => h, fun i ob h => ?_, fun i ob h => ?_, fun i _ _ _ h => ?_, fun b i h => ?_⟩
    · simp [getO] at h
    · simp [getO] at h
    · simp [getO] at h
    · cases h
  obtain ⟨ρ1, v', w', s1, h1, v1, _, _, k1⟩ := h Pr1 ρ _ c cs w h0 (VL.flat ha)
  have ev := VR.constEq hv v1
  subst ev
  exact ⟨ρ, _, w', s1, hH.grown (fun b o hb => h1.pr b o hb), VR.const hv, fun _ _ => rfl, Nat.le_refl _, k1⟩

theorem dop_sound (hR : ROk E R) {ops : Array Oper} {o : Oper} {g p : Bool} {orc orc' : Option (List Bool)} {H : Heap} {tm : Tm} {ok : List Bool} {rc : Rc} (h : dop E R ops o g p orc H tm = some (ok, orc', rc)) (hok : AllT ok)
    {nt : Nat} {f : Frame} {cs : List Frame} {w : World} {i : Nat} {rest : List Nat} {k : List Item} (hm : f.mode = .run) (htm : TmR Pr (AN H) ρ tm nt f.tmps) (hH : HR Pr (AN H) ρ H w.heap)
    (ht : f.todo = .inRegion ops (i :: rest) :: k) (ho : ops[i]? = some o) : Left E Pr ρ H f cs w rc.v (rc.heap H) := by
  unfold dop at h
  split at h
  · rename_i ok1 hg
    cases h
    exact ⟨ρ, undef, w, .one (step_unwanted hm ht ho (gOk_sound hg hok htm)), hH, VR.undef, fun _ _ => rfl, Nat.le_refl _, Kp.refl _⟩
  · rename_i ok1 hg
    split at h
    · rename_i c a b hop
      split at h
      · rename_i x hx
        split at h
        · rename_i v hv
          cases h
          obtain ⟨k1, k2⟩ := AllT.cons.1 hok
          have hw := gOk_sound hg k2 htm
          have hxp : x = p := by simpa using k1
          subst hxp
          have hnd : ∀ c, o.op ≠ .defer c := by intro c; rw [hop]; simp
          obtain ⟨v', h1, h2⟩ := htm.get c _ hx
          cases h2
          have hrun : (execOp (evC f.tmps) o).run E.P w = .ok (.value (evC f.tmps (if x then a else b))) w := by
            have : evC f.tmps (.tmp c) = .bool x := by simp [evC, Array.getD_eq_getD_getElem?, h1]
            simp only [execOp, hop, this, asBool, pure_bind]
            cases x <;> rfl
          exact ⟨ρ, _, w, .one (step_value hm ht ho hw hnd (.inl hrun)), hH, evalT_sound htm hv, fun _ _ => rfl, Nat.le_refl _, Kp.refl _⟩
        · cases h
      · cases h
    · cases h
    · rename_i hnp hnd
      have hnd' : ∀ c, o.op ≠ .defer c := by intro c hc; exact hnd c hc
      split at h
      · rename_i v H' ok2 ha
        have hkk : ok = ok2 ++ ok1 := by
          split at h <;> (cases h; rfl)
        subst hkk
        obtain ⟨k1, k2⟩ := AllT.app.1 hok
        have hw := gOk_sound hg k2 htm
        obtain ⟨v', w', ρ', h1, h2, h3, h4, h5⟩ := aop_sound hH htm ha k1
        have hs := step_value (P := E.P) (cs := cs) hm ht ho hw hnd' h1
        split at h
        · cases h
          exact ⟨ρ', v', w', .one hs, h2, h3, h4, h5⟩
        · rename_i hb
          cases h
          have := aop_keeps (by simpa using hb) ha
          subst this
          exact ⟨ρ', v', w', .one hs, h2, h3, h4, h5⟩
      · rename_i q args ok2 ha
        split at h
        · split at h
          · rename_i ok3 orc3 v H' hr
            cases h
            obtain ⟨k1, k2⟩ := AllT.app.1 hok
            obtain ⟨k2, k3⟩ := AllT.app.1 k2
            have hw := gOk_sound hg k3 htm
            obtain ⟨args', h1, h2⟩ := aop_sound hH htm ha k2
            have hs := step_enter (P := E.P) (cs := cs) hm ht ho hw hnd' h1
            obtain ⟨ρ', v', w', s1, s2, s3, s4, s5⟩ := hR _ _ _ _ _ _ _ _ hr k1 Pr ρ args' f cs w hH h2
            exact ⟨ρ', v', w', .head hs s1, s2, s3, s4, s5⟩
          · cases h
        · split at h
          case h_2 => cases h
          rename_i hfl
          split at h
          case h_2 => cases h
          rename_i ok3 orc3 v H3 hr
          split at h
          case h_2 => cases h
          rename_i hcv
          cases h
          obtain ⟨k1, k2⟩ := AllT.app.1 hok
          obtain ⟨k2, k3⟩ := AllT.app.1 k2
          have hw := gOk_sound hg k3 htm
          obtain ⟨args', h1, h2⟩ := aop_sound hH htm ha k2
          have hs := step_enter (P := E.P) (cs := cs) hm ht ho hw hnd' h1
          obtain ⟨ρ', v', w', s1, s2, s3, s4, s5⟩ := callOk_pure (hR _ _ _ _ _ _ _ _ hr k1) hfl hcv H Pr ρ args' f cs w hH h2
          exact ⟨ρ', v', w', .head hs s1, s2, s3, s4, s5⟩
      · cases h
  · cases h

theorem dop_turn {ops : Array Oper} {o : Oper} {g p : Bool} {orc orc' : Option (List Bool)} {H : Heap} {tm : Tm} {ok : List Bool} {rc : Rc} (h : dop E R ops o g p orc H tm = some (ok, orc', rc)) (ht : rc.isTurn = true) : isBig E o.op = true := by
  unfold dop at h
  repeat' split at h
  all_goals first | (cases h; cases ht; done) | (cases h; assumption) | cases h

/-! ### the same value -/

theorem toL_inj {a b : ByteArray} (h : toL a = toL b) : a = b := by
  cases a; cases b
  simp only [toL] at h
  rw [Array.ext' h]

theorem beqOk {α : Type} [BEq α] [LawfulBEq α] {a b : α} {l : List Bool} (h : AllT ((a == b) :: l)) : a = b := eq_of_beq (AllT.cons.1 h).1

theorem same0_sound : ∀ {v u : Value} {ok : List Bool}, same0 v u = some ok → AllT ok → v = u := by
  intro v u ok h hok
  unfold same0 at h
  split at h
  · split at h
    · rename_i hk
      cases h
      rw [hk, beqOk hok]
    · cases h
  · cases h
    rw [beqOk hok]
  · cases h
    rw [toL_inj (beqOk hok)]
  · split at h
    · rename_i hk; rw [hk]
    · cases h
  · split at h
    · rename_i hk
      cases h
      rw [hk, beqOk hok, beqOk (AllT.cons.1 hok).2]
    · cases h
  · rfl
  · rfl
  · cases h

theorem sameL_sound : ∀ {v u : List Value} {ok : List Bool}, sameL v u = some ok → AllT ok → v = u
  | [], [], _, _, _ => rfl
  | a :: l, b :: m, ok, h, hok => by
    simp only [sameL] at h
    split at h
    · rename_i x y h1 h2
      cases h
      obtain ⟨k1, k2⟩ := AllT.app.1 hok
      rw [same0_sound h1 k1, sameL_sound h2 k2]
    · cases h
  | [], _ :: _, _, h, _ => by cases h
  | _ :: _, [], _, h, _ => by cases h

theorem sameV_sound {v u : Value} {ok : List Bool} (h : sameV v u = some ok) (hok : AllT ok) : v = u := by
  unfold sameV at h
  split at h
  · rw [Array.ext' (sameL_sound h hok)]
  · rw [Array.ext' (sameL_sound h hok)]
  · split at h
    · rename_i hf
      split at h
      · rename_i x y h1 h2
        cases h
        obtain ⟨k1, k2⟩ := AllT.app.1 hok
        rw [hf, Array.ext' (sameL_sound h1 k1), Array.ext' (sameL_sound h2 k2)]
      · cases h
    · cases h
  · exact same0_sound h hok
theorem sameP_sound {v u : Value} {ok : List Bool} (h : sameP v u = some ok) (hok : AllT ok) : v = u := by
  unfold sameP at h
  split at h
  · split at h
    · rename_i hk
      cases h
      rw [hk.1, hk.2, beqOk hok]
    · cases h
  · split at h
    · rename_i hk
      cases h
      rw [hk.1, hk.2, beqOk hok, beqOk (AllT.cons.1 hok).2, beqOk (AllT.cons.1 (AllT.cons.1 hok).2).2]
    · cases h
  · cases h
theorem sameQ_sound {q : Bool} {v u : Value} {ok : List Bool} (h : sameQ q v u = some ok) (hok : AllT ok) : v = u := by
  unfold sameQ at h
  split at h
  · rename_i l hl
    cases h
    cases q with
    | true => exact sameP_sound hl hok
    | false => cases hl
  · exact sameV_sound h hok

end
end Go.Am
