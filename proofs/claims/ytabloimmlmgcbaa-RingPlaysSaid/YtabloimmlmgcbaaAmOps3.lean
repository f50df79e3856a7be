/-
  The abstract machine: slices, conversions, literals, new rows against the model's.
-/
import Derived.Test.YtabloimmlmgcbaaAmOps2
namespace Go.Am
section
variable {E : Env} {Pr : Prot} {A : Nat → Prop} {ρ : Nat → Nm}

inductive OVR (Pr : Prot) (A : Nat → Prop) (ρ : Nat → Nm) : Option Value → Option Value → Prop
  | none : OVR Pr A ρ none none
  | some {v v' : Value} (h : VR Pr A ρ v v') : OVR Pr A ρ (some v) (some v')

theorem bounds_run {P : Program} {isS : Bool} {n cap : Nat} {lo hi lo' hi' : Option Value} {l h : Nat} {ok1 ok2 : List Bool} (h1 : lowOf lo = some (l, ok1)) (h2 : highOf n hi = some (h, ok2)) (hl : l ≤ h) (hn : n ≤ cap)
    (hok1 : AllT ok1) (hok2 : AllT ok2) (r1 : OVR Pr A ρ lo lo') (r2 : OVR Pr A ρ hi hi') (w : World) : (Instr.sliceBounds isS n cap lo' hi' none).run P w = .ok (l, h, cap) w ∧ h ≤ n := by
  have hh : (match hi' with | some v => Instr.sliceBound v cap (if isS then .sliceAcap else .sliceAlen) | none => (pure n : Sem Nat)).run P w = .ok h w ∧ h ≤ n := by
    unfold highOf at h2
    split at h2
    · cases h2; cases r2; exact ⟨rfl, Nat.le_refl _⟩
    · cases h2
      cases r2 with
      | some hv =>
        cases hv
        rename_i k
        obtain ⟨q1, q2⟩ := AllT.cons.1 hok2
        have q2 := (AllT.cons.1 q2).1
        have q1 : 0 ≤ k := by simpa using q1
        have q2 : k ≤ n := by simpa using q2
        have q3 : k ≤ cap := by omega
        exact ⟨by simp [Instr.sliceBound, asIntOf, q1, q3], by omega⟩
    · cases h2
  have hl' : (match lo' with | some v => Instr.sliceBound v h (if (none : Option Value).isSome then .slice3C else .sliceB) | none => (pure 0 : Sem Nat)).run P w = .ok l w := by
    unfold lowOf at h1
    split at h1
    · cases h1; cases r1; rfl
    · cases h1
      cases r1 with
      | some hv =>
        cases hv
        rename_i k
        have q1 := (AllT.cons.1 hok1).1
        have q1 : 0 ≤ k := by simpa using q1
        have q3 : k ≤ h := by omega
        simp [Instr.sliceBound, asIntOf, q1, q3]
    · cases h1
  refine ⟨?_, hh.2⟩
  have e : Instr.sliceBounds isS n cap lo' hi' none = (do
      let h ← (match hi' with | some v => Instr.sliceBound v cap (if isS then .sliceAcap else .sliceAlen) | none => (pure n : Sem Nat))
      let l ← (match lo' with | some v => Instr.sliceBound v h (if (none : Option Value).isSome then .slice3C else .sliceB) | none => (pure 0 : Sem Nat))
      pure (l, h, cap)) := by
    unfold Instr.sliceBounds
    cases lo' <;> cases hi' <;> rfl
  rw [e]
  simp only [Sem.run_bind, hh.1, Result.andThen_ok, hl']
  rfl

theorem VR.pslice {b o n c l h k : Nat} {a : Option Addr} {c' : Nat} (hx : VR Pr A ρ (.slice (some ⟨b, o, none⟩) n c) (.slice a n c')) (hl : l ≤ h) (hh : h ≤ n) (hz : ∀ z, (ρ b).flex = some z → z = k) :
    n ≤ c' → VR Pr A ρ (.slice (some ⟨b, o + l * k, none⟩) (h - l) (c - l)) (.slice (if c' = l then a else a.map (·.add (l * k))) (h - l) (c' - l)) := by
  intro hc
  cases hx with
  | slx _ _ _ _ hb hf hn =>
    by_cases hcl : c = l
    · have h0 : h - l = 0 := by omega
      rw [if_pos hcl, h0, hcl, Nat.sub_self]
      exact .sl0 b _ _ _ hb
    · rw [if_neg hcl]
      simp only [Option.map_some, addr, addr_add]
      have := VR.slx (Pr := Pr) (A := A) (ρ := ρ) b (o + l * k) (h - l) (c - l) hb hf (by omega)
      simpa [addr, Nat.add_assoc] using this
  | slf _ _ _ _ _ z hb hp hf g1 g2 g3 =>
    by_cases hcl : c' = l
    · have h0 : h - l = 0 := by omega
      rw [if_pos hcl, h0, hcl, Nat.sub_self]
      exact .sl0 b _ _ _ hb
    · rw [if_neg hcl]
      simp only [Option.map_some, addr, addr_add]
      have hzk := hz z hf
      subst hzk
      have hle : (ρ b).base + (o + l * z) + (c' - l) * z ≤ (ρ b).tot := by
        have : c' * z = l * z + (c' - l) * z := by rw [← Nat.add_mul]; congr 1; omega
        omega
      have := VR.slf (Pr := Pr) (A := A) (ρ := ρ) b (o + l * z) (h - l) (c - l) (c' - l) z hb hp hf (by omega) hle (by omega)
      simpa [addr, Nat.add_assoc] using this
  | sl0 _ _ _ a hb =>
    have h0 : h - l = 0 := by omega
    have hl0 : l = 0 := by omega
    subst hl0
    simp [h0]
    exact .sl0 b _ _ _ hb
  | nl0 _ _ _ hb =>
    have h0 : h - l = 0 := by omega
    have hl0 : l = 0 := by omega
    subst hl0
    simp [h0]
    exact .nl0 b _ _ hb

theorem slice_sound {H H' : Heap} {hp : Array Obj} (hH : HR Pr A ρ H hp) {t : TypeId} {x x' v : Value} {lo hi lo' hi' : Option Value} {ok : List Bool} (h : sliceOp E H t x lo hi = some (.val v H', ok)) (hok : AllT ok) (hx : VR Pr A ρ x x')
    (r1 : OVR Pr A ρ lo lo') (r2 : OVR Pr A ρ hi hi') (w : World) : ∃ v', (Instr.sliceAt t x' lo' hi' none).run E.P w = .ok v' w ∧ VR Pr A ρ v v' ∧ H' = H := by
  unfold sliceOp at h
  split at h
  · rename_i s hu
    split at h
    · rename_i l ok1 h2 ok2 e1 e2
      cases h
      obtain ⟨hl, hok⟩ := AllT.cons.1 hok
      obtain ⟨k1, k2⟩ := AllT.app.1 hok
      cases hx
      have hb := bounds_run (P := E.P) (isS := false) (cap := s.size) e1 e2 (by simpa using hl) (by rw [slen_eq]; exact Nat.le_refl _) k1 k2 r1 r2 w
      rw [slen_eq] at hb
      refine ⟨.string (s.extract l h2), by simp [Instr.sliceAt, Instr.slice, undT_run hu w, hb.1], by rw [toL_extract]; exact .str _, rfl⟩
    · cases h
  · rename_i e b o n c hu
    have key : ∀ {i : TI} {l : Nat} {ok1 : List Bool} {h2 : Nat} {ok2 : List Bool} {g : Option Nat}, E.ty e = some i → lowOf lo = some (l, ok1) → highOf n hi = some (h2, ok2) → (ρ b).flex = g → (g = none ∨ g = some i.size) → AllT (decide (l ≤ h2) :: (ok1 ++ ok2)) →
        ∃ v', (Instr.sliceAt t x' lo' hi' none).run E.P w = .ok v' w ∧ VR Pr A ρ (.slice (some ⟨b, o + l * i.size, none⟩) (h2 - l) (c - l)) v' ∧ H = H := by
      intro i l ok1 h2 ok2 g he e1 e2 hflex hgo hok
      obtain ⟨hl, hok⟩ := AllT.cons.1 hok
      obtain ⟨k1, k2⟩ := AllT.app.1 hok
      have hl : l ≤ h2 := by simpa using hl
      obtain ⟨a, c', rfl, hc⟩ : ∃ a c', x' = .slice a n c' ∧ n ≤ c' := by
        cases hx with
        | slx _ _ _ _ hb hf hn => exact ⟨_, _, rfl, hn⟩
        | slf _ _ _ _ c' z hb hp hf g1 g2 g3 => exact ⟨_, _, rfl, g1⟩
        | sl0 _ _ _ a hb => exact ⟨_, _, rfl, Nat.le_refl _⟩
        | nl0 _ _ _ hb => exact ⟨_, _, rfl, Nat.le_refl _⟩
      have hb := bounds_run (P := E.P) (isS := true) (cap := c') e1 e2 hl hc k1 k2 r1 r2 w
      refine ⟨_, ?_, hx.pslice (k := i.size) hl hb.2 ?_ hc, rfl⟩
      · simp [Instr.sliceAt, Instr.slice, undT_run hu w, hb.1, ty_run_size he w]
      · intro z hz
        rw [hflex] at hz
        rcases hgo with h0 | h0
        · rw [h0] at hz; cases hz
        · rw [h0] at hz; exact (Option.some.inj hz).symm
    split at h
    · rename_i i l ok1 h2 ok2 cs e' g he e1 e2 hg
      split at h
      · rename_i hgo
        cases h
        have hflex : (ρ b).flex = g := by
          rcases hH.cellsOr hg with ⟨_, ho, _⟩ | ⟨_, _, h3, _⟩
          · obtain ⟨cc, fz, _, _, _, _, hflex, _, _⟩ := ho
            exact hflex
          · exact h3
        exact key he e1 e2 hflex hgo hok
      · cases h
    · rename_i i l ok1 h2 ok2 cs e' z he e1 e2 hg
      split at h
      · rename_i hgo
        cases h
        obtain ⟨_, ho, _⟩ := hH.logR (.inl hg)
        obtain ⟨cc, fz, _, _, _, _, hflex, _, _⟩ := ho
        exact key he e1 e2 hflex (.inr (by rw [hgo])) hok
      · cases h
    · rename_i i l ok1 h2 ok2 cs e' z he e1 e2 hg
      split at h
      · rename_i hgo
        cases h
        obtain ⟨_, ho, _⟩ := hH.logR (.inr hg)
        obtain ⟨cc, fz, _, _, _, _, hflex, _, _⟩ := ho
        exact key he e1 e2 hflex (.inr (by rw [hgo])) hok
      · cases h
    · cases h
  · rename_i e n cs hu
    split at h
    · rename_i i l ok1 h2 ok2 he e1 e2
      cases h
      obtain ⟨hl, hok⟩ := AllT.cons.1 hok
      obtain ⟨k1, k2⟩ := AllT.app.1 hok
      have hl : l ≤ h2 := by simpa using hl
      cases hx with
      | rov _ _ b o c' f hn hf hv =>
        have hb := bounds_run (P := E.P) (isS := true) (cap := c') e1 e2 hl hn k1 k2 r1 r2 w
        refine ⟨.slice (if c' = l then some ⟨b, o, none⟩ else (some (⟨b, o, none⟩ : Addr)).map (·.add (l * i.size))) (h2 - l) (c' - l), ?_, ?_, rfl⟩
        · simp [Instr.sliceAt, Instr.slice, undT_run hu w, hb.1, ty_run_size he w]
        · by_cases hcl : c' = l
          · have h0 : h2 - l = 0 := by omega
            rw [h0, if_pos hcl]
            exact .rov0 _ _ _ (by simp)
          · rw [if_neg hcl]
            simp only [Option.map_some, addr_add]
            refine .rov _ _ _ _ _ (fun k => f (l * i.size + k)) (by omega) (fun k hk => ?_) (fun k hk => ?_)
            · simp only [List.size_toArray, List.length_take, List.length_drop, Array.length_toList] at hk
              have := hf (l * i.size + k) (by omega)
              rw [Nat.add_assoc]; exact this
            · simp only [List.size_toArray, List.length_take, List.length_drop, Array.length_toList] at hk
              have hk2 : k < (h2 - l) * i.size := by omega
              have hk3 : l * i.size + k < cs.size := by omega
              have := hv (l * i.size + k) hk3
              simpa [Array.getD_eq_getD_getElem?, hk2, hk3] using this
      | rov0 _ a c' h0 =>
        have hb := bounds_run (P := E.P) (isS := true) (cap := c') e1 e2 hl (Nat.zero_le _) k1 k2 r1 r2 w
        have hh := hb.2
        refine ⟨.slice (if c' = l then a else a.map (·.add (l * i.size))) (h2 - l) (c' - l), ?_, ?_, rfl⟩
        · simp [Instr.sliceAt, Instr.slice, undT_run hu w, hb.1, ty_run_size he w]
        · have h1 : h2 - l = 0 := by omega
          rw [h1]
          exact .rov0 _ _ _ (by simp)
    · cases h
  · rename_i n e b o hu
    split at h
    · rename_i i l ok1 h2 ok2 cs e' he e1 e2 hg
      cases h
      obtain ⟨hl, hok⟩ := AllT.cons.1 hok
      obtain ⟨k1, k2⟩ := AllT.app.1 hok
      have hl : l ≤ h2 := by simpa using hl
      obtain ⟨_, ho, _⟩ := hH.realC hg (.inl rfl)
      obtain ⟨cc, fz, _, _, _, _, hflex, _, _⟩ := ho
      have hb := bounds_run (P := E.P) (isS := false) (cap := n) e1 e2 hl (Nat.le_refl _) k1 k2 r1 r2 w
      cases hx with
      | ptr _ _ hb' =>
        have hs := VR.slx (Pr := Pr) (A := A) (ρ := ρ) b o n n hb' hflex (Nat.le_refl _)
        refine ⟨_, ?_, hs.pslice (k := i.size) hl hb.2 (fun z hz => by rw [hflex] at hz; cases hz) (Nat.le_refl _), rfl⟩
        simp [Instr.sliceAt, undT_run hu w, hb.1, ty_run_size he w, Instr.sureAddr]
        split <;> rfl
    · cases h
  · cases h

end
end Go.Am
