/-
  The abstract machine: a row of a known number of places taken as one that may have more: a contract's memory with it.
-/
import Derived.Test.YtabloimmlmgcbaaAmMove
set_option linter.unusedVariables false
set_option linter.unusedSimpArgs false
namespace Go.Am

def flexV (b z len : Nat) (v : Value) : Option (List Bool × Value) :=
  match v with
  | .slice (some ⟨i, o, none⟩) n c => match Nat.beq i b with
    | true => some ([decide (o + c * z ≤ len), decide (c ≤ maxLen)], .slice (some ⟨i, o, none⟩) n 0)
    | false => some ([], v)
  | .bool _ => some ([], v)
  | .int _ _ => some ([], v)
  | .string _ => some ([], v)
  | .pointer _ => some ([], v)
  | .slice none 0 0 => some ([], v)
  | .nilFunc => some ([], v)
  | .nilIface => some ([], v)
  | .iface _ _ => some ([], v)
  | _ => none
def flexL (b z len : Nat) : List Value → Option (List Bool × List Value)
  | [] => some ([], [])
  | v :: r => match flexV b z len v, flexL b z len r with
    | some (ok1, u), some (ok2, s) => some (ok1 ++ ok2, u :: s)
    | _, _ => none
def flexO (E : Env) (b z len j : Nat) : Option Ob → Option (List Bool × Option Ob)
  | none => some ([], none)
  | some (.cells cs e g) => match (match nameless E e with
      | true => some ([cs.all flat], cs)
      | false => flexL b z len cs) with
    | some (ok, u) => some (ok, some (.cells u e (match Nat.beq j b with | true => some z | false => g)))
    | none => none
  | some (.obj J) => some ([], some (.obj J))
  | _ => none
def flexH (E : Env) (b z len : Nat) : Nat → Heap → Option (List Bool × Heap)
  | _, [] => some ([], [])
  | j, o :: r => match flexO E b z len j o, flexH E b z len (j + 1) r with
    | some (ok1, o'), some (ok2, r') => some (ok1 ++ ok2, o' :: r')
    | _, _ => none

section
variable {Pr : Prot} {A : Nat → Prop} {ρ ρ' : Nat → Nm} {b z len : Nat}
/-- ρ' is ρ, but that the row b may have more places. -/
structure FlexN (ρ ρ' : Nat → Nm) (b z len : Nat) : Prop where
  other : ∀ i, i ≠ b → ρ' i = ρ i
  blk : (ρ' b).blk = (ρ b).blk
  base : (ρ' b).base = (ρ b).base
  tot : (ρ' b).tot = (ρ b).tot
  ph : (ρ' b).ph = (ρ b).ph
  flex : (ρ' b).flex = some z
  was : (ρ b).flex = none
  notph : (ρ b).ph = false
  base0 : (ρ b).base = 0
  len : (ρ b).tot = len
theorem FlexN.addr (h : FlexN ρ ρ' b z len) (i o : Nat) : addr (ρ' i) o = addr (ρ i) o := by
  unfold Am.addr
  by_cases hi : i = b
  · subst hi; rw [h.blk, h.base]
  · rw [h.other i hi]
theorem flexV_sound (h : FlexN ρ ρ' b z len) {v u v' : Value} {ok : List Bool} (hf : flexV b z len v = some (ok, u)) (hok : AllT ok) (hv : VR Pr A ρ v v') : VR Pr A ρ' u v' := by
  cases hv with
  | bool x => cases hf; exact .bool x
  | int k n => cases hf; exact .int k n
  | str s => cases hf; exact .str s
  | pnil => cases hf; exact .pnil
  | snil => cases hf; exact .snil
  | fnil => cases hf; exact .fnil
  | inil => cases hf; exact .inil
  | ptr i o hA => cases hf; rw [← h.addr i o]; exact .ptr i o hA
  | slx i o n c hA hfl hn =>
    simp only [flexV] at hf
    rw [← h.addr i o]
    split at hf
    · rename_i hb
      obtain rfl : i = b := Nat.eq_of_beq_eq_true hb
      cases hf
      obtain ⟨k1, hok⟩ := AllT.cons.1 hok
      obtain ⟨k2, _⟩ := AllT.cons.1 hok
      have k1 : o + c * z ≤ len := by simpa using k1
      have k2 : c ≤ maxLen := by simpa using k2
      exact .slf i o n 0 c z hA (by rw [h.ph]; exact h.notph) h.flex hn (by rw [h.base, h.base0, h.tot, h.len]; omega) k2
    · rename_i hb
      cases hf
      have hb : i ≠ b := Nat.ne_of_beq_eq_false hb
      exact .slx i o n c hA (by rw [h.other i hb]; exact hfl) hn
  | slf i o n c c' z' hA hp hfl h1 h2 h3 =>
    simp only [flexV] at hf
    rw [← h.addr i o]
    split at hf
    · rename_i hb
      obtain rfl : i = b := Nat.eq_of_beq_eq_true hb
      rw [h.was] at hfl
      cases hfl
    · rename_i hb
      cases hf
      have hb : i ≠ b := Nat.ne_of_beq_eq_false hb
      exact .slf i o n c c' z' hA (by rw [h.other i hb]; exact hp) (by rw [h.other i hb]; exact hfl) h1 (by rw [h.other i hb]; exact h2) h3
  | sl0 i o c a hA =>
    simp only [flexV] at hf
    split at hf <;> cases hf <;> exact .sl0 i o _ a hA
  | nl0 i o c hA =>
    simp only [flexV] at hf
    split at hf <;> cases hf <;> exact .nl0 i o _ hA
  | rov n cs b' o c' f hn hh hv => cases hf; exact .rov n cs b' o c' f hn hh hv
  | rov0 cs a c' hh => cases hf; exact .rov0 cs a c' hh
  | rop p cs b' o f hh hv => cases hf; exact .rop p cs b' o f hh hv
  | func => cases hf
  | yld => cases hf
  | agg => cases hf
  | tup => cases hf
theorem flexL_sound (h : FlexN ρ ρ' b z len) : ∀ {l u l' : List Value} {ok : List Bool}, flexL b z len l = some (ok, u) → AllT ok → VL Pr A ρ l l' → VL Pr A ρ' u l'
  | [], u, l', ok, hf, _, hl => by cases hf; cases hl; exact .nil
  | v :: r, u, l', ok, hf, hok, hl => by
    simp only [flexL] at hf
    split at hf
    · rename_i ok1 u1 ok2 s h1 h2
      cases hf
      obtain ⟨k1, k2⟩ := AllT.app.1 hok
      cases hl with
      | cons ha ht => exact .cons (flexV_sound h h1 k1 ha) (flexL_sound h h2 k2 ht)
    · cases hf
theorem flexH_get {E : Env} : ∀ {H H' : Heap} {ok : List Bool} {k : Nat}, flexH E b z len k H = some (ok, H') → AllT ok → H'.length = H.length ∧ ∀ j, ∃ ok', AllT ok' ∧ flexO E b z len (k + j) (H.getD j none) = some (ok', H'.getD j none)
  | [], H', ok, k, h, _ => by cases h; exact ⟨rfl, fun j => ⟨[], AllT.nil, by simp [flexO]⟩⟩
  | o :: r, H', ok, k, h, hok => by
    simp only [flexH] at h
    split at h
    · rename_i ok1 o' ok2 r' h1 h2
      cases h
      obtain ⟨k1, k2⟩ := AllT.app.1 hok
      obtain ⟨g1, g2⟩ := flexH_get h2 k2
      refine ⟨by simp [g1], fun j => ?_⟩
      cases j with
      | zero => exact ⟨ok1, k1, h1⟩
      | succ j =>
        obtain ⟨ok', q1, q2⟩ := g2 j
        refine ⟨ok', q1, ?_⟩
        rw [show k + (j + 1) = k + 1 + j by omega]
        exact q2
    · cases h
theorem getO_getD {H : Heap} {i : Nat} {ob : Ob} : getO H i = some ob ↔ H.getD i none = some ob := by
  unfold getO
  rw [List.getD_eq_getElem?_getD]
  cases hi : H[i]? with
  | none => simp
  | some o => cases o <;> simp
theorem HR.flexed {E : Env} {H H' : Heap} {hp : Array Obj} {ok : List Bool} {cs : List Value} {e : TypeId} (hH : HR Pr A ρ H hp) (hb : getO H b = some (.cells cs e none)) (hf : flexH E b z cs.length 0 H = some (ok, H')) (hok : AllT ok) :
    ∃ ρ', (∀ i, i ≠ b → ρ' i = ρ i) ∧ FlexN ρ ρ' b z cs.length ∧ HR Pr A ρ' H' hp := by
  obtain ⟨a1, a2, a3, a4⟩ := hH.realC hb (.inl rfl)
  obtain ⟨c, fz, p1, p2, p3, p4, p5, p6, p7⟩ := a2
  obtain ⟨p8, p9⟩ := p6 rfl
  obtain ⟨own, hH⟩ := hH
  obtain ⟨hob, _⟩ := hH.blk_lt hb rfl a4
  let ρ' : Nat → Nm := upd ρ b { ρ b with flex := some z }
  have ho : ∀ i, i ≠ b → ρ' i = ρ i := fun i hi => by show upd ρ b _ i = _; simp [upd, hi]
  have hs : ρ' b = { ρ b with flex := some z } := upd_same _ _ _
  have hF : FlexN ρ ρ' b z cs.length := ⟨ho, by rw [hs], by rw [hs], by rw [hs], by rw [hs], by rw [hs], p5, a4, p8, by rw [p2, p9]⟩
  have hblk : ∀ i, (ρ' i).blk = (ρ i).blk ∧ (ρ' i).ph = (ρ i).ph := fun i => by
    by_cases hi : i = b
    · subst hi; exact ⟨hF.blk, hF.ph⟩
    · rw [ho i hi]; exact ⟨rfl, rfl⟩
  obtain ⟨g1, g2⟩ := flexH_get hf hok
  have hback : ∀ i ob', getO H' i = some ob' → ∃ ob ok', AllT ok' ∧ getO H i = some ob ∧ flexO E b z cs.length i (some ob) = some (ok', some ob') := by
    intro i ob' hi
    obtain ⟨ok', q1, q2⟩ := g2 i
    rw [Nat.zero_add, getO_getD.1 hi] at q2
    cases ho : H.getD i none with
    | none => rw [ho] at q2; simp [flexO] at q2
    | some ob => exact ⟨ob, ok', q1, getO_getD.2 ho, by rw [ho] at q2; exact q2⟩
  refine ⟨ρ', ho, hF, own, hH.pr, fun i ob' hi => ?_, fun i ob' hi hff => ?_, fun i ci ei zi hi => ?_, hH.ow⟩
  · obtain ⟨ob, _, _, q, _⟩ := hback i ob' hi
    exact hH.nm i ob q
  · obtain ⟨ob, ok', q1, q2, q3⟩ := hback i ob' hi
    cases ob with
    | cells cs1 e1 gg =>
      simp only [flexO] at q3
      split at q3
      · rename_i ok2 u hu
        cases q3
        have hVL : ∀ l', VL Pr A ρ cs1 l' → VL Pr A ρ' u l' := by
          intro l' hl
          split at hu
          · cases hu
            exact VL.flatTo (AllT.cons.1 q1).1 hl
          · exact flexL_sound hF hu q1 hl
        have hlen : u.length = cs1.length := by
          split at hu
          · cases hu; rfl
          · have : ∀ (l u : List Value) (ok : List Bool), flexL b z cs.length l = some (ok, u) → u.length = l.length := by
              intro l
              induction l with
              | nil => intro u ok h; cases h; rfl
              | cons v r ih =>
                intro u ok h
                simp only [flexL] at h
                split at h
                · rename_i h1 h2; cases h; simp [ih _ _ h2]
                · cases h
            exact this _ _ _ hu
        by_cases hib : i = b
        · subst hib
          rw [hb] at q2
          cases q2
          have hbt : Nat.beq i i = true := Nat.beq_refl i
          rw [hbt]
          refine .inr ⟨by rw [(hblk i).2]; exact a4, .inl ?_, by rw [(hblk i).1]; exact hob⟩
          refine ⟨c, fz, by rw [(hblk i).1]; exact p1, by rw [hF.tot]; exact p2, by rw [hF.base]; omega, p4, hF.flex, (fun h => by cases h), ?_⟩
          rw [hF.base, hlen]
          exact hVL _ p7
        · have hbf : Nat.beq i b = false := by
            cases hh : Nat.beq i b with
            | false => rfl
            | true => exact absurd (Nat.eq_of_beq_eq_true hh) hib
          rw [hbf, ho i hib]
          rcases hH.ob i _ q2 rfl with ⟨h1, e', z', h2, h3⟩ | ⟨h1, h2, h3⟩
          · cases h2
            refine .inl ⟨h1, e1, z', ?_, h3⟩
            have : u = [] := List.length_eq_zero_iff.1 hlen
            rw [this]
          · have h2 : OR0 Pr A ρ (ρ i) hp (.cells cs1 e1 gg) := by
              rcases h2 with h2 | ⟨J, h2, _⟩
              · exact h2
              · cases h2
            refine .inr ⟨h1, .inl ?_, h3⟩
            obtain ⟨c1, fz1, r1, r2, r3, r4, r5, r6, r7⟩ := h2
            refine ⟨c1, fz1, r1, r2, by omega, r4, r5, fun hg => by rw [hlen]; exact r6 hg, ?_⟩
            rw [hlen]
            exact hVL _ r7
      · cases q3
    | loop => simp [flexO] at q3
    | defs => simp [flexO] at q3
    | log => simp [flexO] at q3
    | fro => simp [flexO] at q3
    | obj J =>
      cases q3
      have hib : i ≠ b := fun e => by subst e; rw [hb] at q2; cases q2
      rw [ho i hib]
      rcases hH.ob i _ q2 rfl with ⟨_, _, _, h2, _⟩ | ⟨h1, h2, h3⟩
      · cases h2
      · rcases h2 with h2 | h2
        · exact absurd h2 id
        · exact .inr ⟨h1, .inr h2, h3⟩
  · obtain ⟨ob, ok', q1, q2, q3⟩ := hback i _ hi
    cases ob with
    | cells cs1 e1 gg =>
      simp only [flexO] at q3
      split at q3
      · cases q3
      · cases q3
    | loop => simp [flexO] at q3
    | defs => simp [flexO] at q3
    | log => simp [flexO] at q3
    | fro => simp [flexO] at q3
    | obj J => cases q3
end

/-- What is handed back, the row b taken so. -/
def flexOk (E : Env) (b z : Nat) (v : Value) (H : Heap) : Option (List Bool × Value × Heap) :=
  match getO H b with
  | some (.cells cs _ none) => match flexV b z cs.length v, flexH E b z cs.length 0 H with
    | some (ok1, u), some (ok2, H') => some (ok1 ++ ok2, u, H')
    | _, _ => none
  | _ => none
theorem callOk_flex {E : Env} {g : FuncId} {args : List Value} {H H' Hf : Heap} {v u : Value} {b z : Nat} {ok : List Bool} (h : CallOk E g args H v H') (hf : flexOk E b z v H' = some (ok, u, Hf)) (hok : AllT ok) (hb : H.length ≤ b) : CallOk E g args H u Hf := by
  unfold flexOk at hf
  split at hf
  · rename_i cs e hcs
    split at hf
    · rename_i ok1 u1 ok2 H1 h1 h2
      cases hf
      obtain ⟨k1, k2⟩ := AllT.app.1 hok
      intro Pr ρ args' c cs' w hH ha
      obtain ⟨ρ1, v', w', s1, hH1, hv1, hr, hlen, hk⟩ := h Pr ρ args' c cs' w hH ha
      obtain ⟨ρ2, q1, q2, q3⟩ := hH1.flexed hcs h2 k2
      have hl := (flexH_get h2 k2).1
      have hA : ∀ i, AN H' i → AN Hf i := fun i hi => by
        have : i < H'.length := hi
        show i < Hf.length
        omega
      refine ⟨ρ2, v', w', s1, q3.mono_names hA (fun _ _ => rfl), (flexV_sound q2 h1 k1 hv1).mono (fun _ _ h => h) hA (fun _ _ => rfl), fun i hi => ?_, by omega, hk⟩
      have : i < H.length := hi
      rw [q1 i (by omega)]
      exact hr i hi
    · cases hf
  · cases hf
end Go.Am
