/-
  The document's own answer: all characters, as a contract.
-/
import Derived.Test.YtadpggfmogjddaaUtfJ
set_option linter.unusedVariables false
set_option linter.unusedSimpArgs false
open Go Go.Am
namespace Go.Proofs.Ytadpggfmogjddaa

theorem toL_sub (s : ByteArray) (l h : Nat) : toL (sub s l h) = ((toL s).drop l).take (h - l) := by
  simp [sub, toL, ofL]
theorem slen_sub (s : ByteArray) (l h : Nat) : slen (sub s l h) = min (h - l) (slen s - l) := by
  unfold slen
  rw [toL_sub, List.length_take, List.length_drop]

theorem runC_1 {lo hi x : Int} (h0 : 0 ≤ x) (h1 : x ≤ 32767) {l : List UInt8} (h : (runC (1, lo, hi, x) l).2.1 = 0) :
    ∃ b r, l = b :: r ∧ (runC (1, lo, hi, x) l).1 = 1 ∧ (runC (1, lo, hi, x) l).2.2.2.2.2 = x * 64 + (b.toNat : Int) % 64 := by
  cases l with
  | nil => simp [runC] at h
  | cons b r =>
    refine ⟨b, r, rfl, ?_⟩
    obtain ⟨u0, u1⟩ := u8_lt b
    unfold runC at h ⊢
    cases hb : (sst (1, lo, hi, x) b.toNat).1 with
    | false => rw [hb] at h; simp at h
    | true =>
      obtain ⟨_, _, e⟩ := cont_val (.inl rfl) h0 h1 u0 u1 hb
      simp only [e]
      simp
theorem runC_2 {lo hi x : Int} (h0 : 0 ≤ x) (h1 : x ≤ 511) {l : List UInt8} (h : (runC (2, lo, hi, x) l).2.1 = 0) :
    ∃ b c r, l = b :: c :: r ∧ (runC (2, lo, hi, x) l).1 = 2 ∧ (runC (2, lo, hi, x) l).2.2.2.2.2 = (x * 64 + (b.toNat : Int) % 64) * 64 + (c.toNat : Int) % 64 := by
  cases l with
  | nil => simp [runC] at h
  | cons b r =>
    obtain ⟨u0, u1⟩ := u8_lt b
    unfold runC at h ⊢
    cases hb : (sst (2, lo, hi, x) b.toNat).1 with
    | false => rw [hb] at h; simp at h
    | true =>
      obtain ⟨_, _, e⟩ := cont_val (.inr (.inl rfl)) h0 (by omega) u0 u1 hb
      rw [hb] at h
      simp only [e] at h ⊢
      simp only [show (2 : Int) - 1 = 1 by rfl, show ((1 : Int) = 0) = False by simp, if_false] at h ⊢
      obtain ⟨c, r2, rfl, g1, g2⟩ := runC_1 (by omega) (by omega) h
      exact ⟨b, c, r2, rfl, by rw [g1], g2⟩
theorem runC_3 {lo hi x : Int} (h0 : 0 ≤ x) (h1 : x ≤ 7) {l : List UInt8} (h : (runC (3, lo, hi, x) l).2.1 = 0) :
    ∃ b c d r, l = b :: c :: d :: r ∧ (runC (3, lo, hi, x) l).1 = 3 ∧ (runC (3, lo, hi, x) l).2.2.2.2.2 = ((x * 64 + (b.toNat : Int) % 64) * 64 + (c.toNat : Int) % 64) * 64 + (d.toNat : Int) % 64 := by
  cases l with
  | nil => simp [runC] at h
  | cons b r =>
    obtain ⟨u0, u1⟩ := u8_lt b
    unfold runC at h ⊢
    cases hb : (sst (3, lo, hi, x) b.toNat).1 with
    | false => rw [hb] at h; simp at h
    | true =>
      obtain ⟨_, _, e⟩ := cont_val (.inr (.inr rfl)) h0 (by omega) u0 u1 hb
      rw [hb] at h
      simp only [e] at h ⊢
      simp only [show (3 : Int) - 1 = 2 by rfl, show ((2 : Int) = 0) = False by simp, if_false] at h ⊢
      obtain ⟨c, d, r2, rfl, g1, g2⟩ := runC_2 (by omega) (by omega) h
      exact ⟨b, c, d, r2, rfl, by rw [g1], g2⟩

theorem rune_val {l : List UInt8} (h : (runC (0, 0, 0, 0) l).2.1 = 0) : runeV (l.take (runC (0, 0, 0, 0) l).1) = (runC (0, 0, 0, 0) l).2.2.2.2.2 ∧ (runC (0, 0, 0, 0) l).1 ≤ 4 := by
  cases l with
  | nil => simp [runC] at h
  | cons b r =>
    obtain ⟨u0, u1⟩ := u8_lt b
    rcases first_byte (b.toNat : Int) u0 u1 with ⟨q, hq, e1, e2⟩ | hb
    case inr => rw [runC_bad r hb] at h; simp at h
    simp only [runC_start r e1 e2] at h ⊢
    have hc := bg_cases u0 u1 hq
    clear e1 e2 hq
    obtain ⟨l, lo, hi, x⟩ := q
    dsimp only at hc h ⊢
    rcases hc with ⟨c1, c2⟩ | ⟨c1, c2⟩ | ⟨c1, c2⟩ | ⟨c1, c2⟩
    · subst c1
      simp [c2, runeV]
    · subst c1
      simp only [show ((1 : Int) = 0) = False by simp, if_false] at h ⊢
      obtain ⟨c, r2, rfl, g1, g2⟩ := runC_1 (by omega) (by omega) h
      simp only [g1, g2]
      rw [c2]
      refine ⟨?_, by omega⟩
      simp [runeV, foldR]; omega
    · subst c1
      simp only [show ((2 : Int) = 0) = False by simp, if_false] at h ⊢
      obtain ⟨c, d, r2, rfl, g1, g2⟩ := runC_2 (by omega) (by omega) h
      simp only [g1, g2]
      rw [c2]
      refine ⟨?_, by omega⟩
      simp [runeV, foldR]; omega
    · subst c1
      simp only [show ((3 : Int) = 0) = False by simp, if_false] at h ⊢
      obtain ⟨c, d, e, r2, rfl, g1, g2⟩ := runC_3 (by omega) (by omega) h
      simp only [g1, g2]
      rw [c2]
      refine ⟨?_, by omega⟩
      simp [runeV, foldR]; omega

def plV (L : List (Nat × Int)) : List Value := L.map fun p => .int .i64 p.1
def rnV (L : List (Nat × Int)) : List Value := L.map fun p => .int .i64 p.2
theorem plV_flat (L : List (Nat × Int)) : (plV L).all flat = true := by simp [plV, flat]
theorem rnV_flat (L : List (Nat × Int)) : (rnV L).all flat = true := by simp [rnV, flat]
theorem plV_len (L : List (Nat × Int)) : (plV L).length = L.length := by simp [plV]
theorem rnV_len (L : List (Nat × Int)) : (rnV L).length = L.length := by simp [rnV]

theorem refrunes_run (s : ByteArray) (hs : slen s ≤ 1000000) : ∀ (n i fr : Nat) (q : Q) (A : List (Nat × Int)), slen s - i ≤ n → i ≤ slen s → q.1 = 0 → A.length ≤ i →
    AEnds E 18 0 (refrunes_h1 s A.length A.length i (plV A) (rnV A)) (refrunes_V s ((A ++ runesD q fr i ((toL s).drop i)).length, (A ++ runesD q fr i ((toL s).drop i)).length, plV (A ++ runesD q fr i ((toL s).drop i)), rnV (A ++ runesD q fr i ((toL s).drop i))))
      (refrunes_H s ((A ++ runesD q fr i ((toL s).drop i)).length, (A ++ runesD q fr i ((toL s).drop i)).length, plV (A ++ runesD q fr i ((toL s).drop i)), rnV (A ++ runesD q fr i ((toL s).drop i)))) := by
  intro n
  induction n with
  | zero =>
    intro i fr q A hn hi hq hA
    have h := refrunes_ok1 s A.length A.length i (plV A) (rnV A) (by unfold refrunes_S1; simp [show ¬ ((i : Int) < slen s) by omega, plV_flat, rnV_flat])
    rw [show refrunes_t1 s A.length A.length i (plV A) (rnV A) = .inr (A.length, A.length, plV A, rnV A) by unfold refrunes_t1; simp [show ¬ ((i : Int) < slen s) by omega]] at h
    rw [show (toL s).drop i = [] from List.drop_eq_nil_of_le (by unfold slen at hn hi; omega), runesD, List.append_nil]
    exact refrunes_end h
  | succ n ih =>
    intro i fr q A hn hi hq hA
    rcases Nat.lt_or_ge i (slen s) with hlt | hge
    case inr =>
      have h := refrunes_ok1 s A.length A.length i (plV A) (rnV A) (by unfold refrunes_S1; simp [show ¬ ((i : Int) < slen s) by omega, plV_flat, rnV_flat])
      rw [show refrunes_t1 s A.length A.length i (plV A) (rnV A) = .inr (A.length, A.length, plV A, rnV A) by unfold refrunes_t1; simp [show ¬ ((i : Int) < slen s) by omega]] at h
      rw [show (toL s).drop i = [] from List.drop_eq_nil_of_le (by unfold slen at hge; omega), runesD, List.append_nil]
      exact refrunes_end h
    have hpre : one_pre s i := ⟨by omega, by omega, hs⟩
    have hne : (toL s).drop i ≠ [] := by
      intro h0
      have := congrArg List.length h0
      simp [slen] at this hlt
      omega
    have hle := runC_le ((toL s).drop i) q
    have hlen : ((toL s).drop i).length = slen s - i := by simp [slen]
    have ho := oneV_fresh hq hne
    rw [runesD_run]
    by_cases h0 : (runC q ((toL s).drop i)).2.1 = 0
    · obtain ⟨g1, g2⟩ := runC_pos _ _ h0
      rw [if_pos h0] at ho
      have hf : (runC q ((toL s).drop i)).1 = (runC (0, 0, 0, 0) ((toL s).drop i)).1 ∧ (runC q ((toL s).drop i)).2.1 = (runC (0, 0, 0, 0) ((toL s).drop i)).2.1 ∧ ((runC q ((toL s).drop i)).2.1 ≠ 2 → (runC q ((toL s).drop i)).2.2 = (runC (0, 0, 0, 0) ((toL s).drop i)).2.2) := by
        cases hd : (toL s).drop i with
        | nil => exact absurd hd hne
        | cons b r => exact runC_fresh hq b r
      obtain ⟨f1, f2, f3⟩ := hf
      have hv := rune_val (l := (toL s).drop i) (by rw [← f2]; exact h0)
      rw [← f1, ← f3 (by omega)] at hv
      obtain ⟨v1, v2⟩ := hv
      generalize hm : (runC q ((toL s).drop i)).1 = m at *
      have hw : IntKind.i64.wrap ((i : Int) + oneV ((toL s).drop i)) = ((i + m : Nat) : Int) := by rw [ho, wrap64_in (by omega) (by omega)]; omega
      have hrv : runeV (toL (sub s i (i + m))) = (runC q ((toL s).drop i)).2.2.2.2.2 := by
        rw [toL_sub, show i + m - i = m by omega]; exact v1
      have hrp : rune_pre (sub s i (i + m)) := by unfold rune_pre; rw [slen_sub]; omega
      have tk1 : List.take (A.length * 1) (List.drop 0 (plV A)) = plV A := by rw [List.drop_zero, Nat.mul_one, List.take_of_length_le (by rw [plV_len]; exact Nat.le_refl _)]
      have tk2 : List.take (A.length * 1) (List.drop 0 (rnV A)) = rnV A := by rw [List.drop_zero, Nat.mul_one, List.take_of_length_le (by rw [rnV_len]; exact Nat.le_refl _)]
      have ti : (i : Int).toNat = i := by simp
      have tm : ((i + m : Nat) : Int).toNat = i + m := Int.toNat_natCast _
      have hdn : decide ((m : Int) ≤ 0) = false := by simp; omega
      have h := refrunes_ok1 s A.length A.length i (plV A) (rnV A) (by
        unfold refrunes_S1
        rw [tk1, tk2, ti, hw, tm, ho, hdn]
        refine ⟨fun _ => ⟨fun hh => (by cases hh), fun _ => ?_⟩, fun _ => ⟨plV_flat _, rnV_flat _⟩⟩
        rw [plV_len, rnV_len]
        refine ⟨?_, ?_, by omega, by omega, by omega, hrp, by omega, by omega, by omega, by omega, by omega, by omega, by omega, hpre⟩
        · rw [List.all_append, plV_flat]; rfl
        · rw [List.all_append, rnV_flat]; rfl)
      unfold refrunes_t1 at h
      rw [tk1, tk2, ti, hw, tm, ho, hdn, hrv, show decide ((i : Int) < slen s) = true by simp; omega] at h
      simp only [cond_true, cond_false] at h
      rw [if_pos h0, if_pos hq]
      have e1 : plV A ++ [Value.int IntKind.i64 (i : Int)] = plV (A ++ [(i, (runC q ((toL s).drop i)).2.2.2.2.2)]) := by simp [plV]
      have e2 : rnV A ++ [Value.int IntKind.i64 (runC q ((toL s).drop i)).2.2.2.2.2] = rnV (A ++ [(i, (runC q ((toL s).drop i)).2.2.2.2.2)]) := by simp [rnV]
      have e3 : A.length + 1 = (A ++ [(i, (runC q ((toL s).drop i)).2.2.2.2.2)]).length := by simp
      rw [e1, e2, e3] at h
      have := ih (i + m) i (runC q ((toL s).drop i)).2.2 (A ++ [(i, (runC q ((toL s).drop i)).2.2.2.2.2)]) (by omega) (by omega) g2 (by simp; omega)
      rw [← List.drop_drop] at this
      rw [List.append_assoc, List.singleton_append] at this
      exact (refrunes_go1 h).ends this
    · rw [if_neg h0] at ho
      have hdn : decide (oneV ((toL s).drop i) ≤ 0) = true := by
        rw [ho]
        split
        · rfl
        · simp; omega
      have ti : (i : Int).toNat = i := by simp
      have h := refrunes_ok1 s A.length A.length i (plV A) (rnV A) (by
        unfold refrunes_S1
        rw [ti, hdn]
        exact ⟨fun _ => ⟨fun _ => ⟨plV_flat _, rnV_flat _, hpre⟩, fun hh => (by cases hh)⟩, fun _ => ⟨plV_flat _, rnV_flat _⟩⟩)
      unfold refrunes_t1 at h
      rw [ti, hdn, show decide ((i : Int) < slen s) = true by simp; omega] at h
      simp only [cond_true] at h
      rw [if_neg h0, List.append_nil]
      exact refrunes_end h

def chars (s : ByteArray) : List (Nat × Int) := runesD (0, 0, 0, 0) 0 0 (toL s)
def refrunes_pre (s : ByteArray) : Prop := slen s ≤ 1000000
def refrunes_v (s : ByteArray) : Value := refrunes_V s ((chars s).length, (chars s).length, plV (chars s), rnV (chars s))
def refrunes_h (s : ByteArray) : Heap := refrunes_H s ((chars s).length, (chars s).length, plV (chars s), rnV (chars s))
theorem refrunes_call (s : ByteArray) (h : refrunes_pre s) : CallOk E 18 [.string s] [] (refrunes_v s) (refrunes_h s) :=
  callOk_of_ends ((refrunes_go1 (refrunes_ok0 s trivial)).ends (refrunes_run s h (slen s) 0 0 (0, 0, 0, 0) [] (by omega) (by omega) rfl (Nat.le_refl _))) (by kernel_rfl) (Nat.le_of_ble_eq_true (by kernel_rfl))

def refrunes_ex (a : List Value) (h : Heap) : ByteArray := (toStr (a.getD 0 undef))
noncomputable def refrunes_k : Ct := kP refrunes_ex (fun x => [Value.string x]) (fun x => []) (fun x => refrunes_pre x) (fun x => refrunes_v x) (fun x => refrunes_h x)
theorem refrunes_k_ok : KFor E 18 refrunes_k := kP_ok (fun x hx => refrunes_call x hx)


end Go.Proofs.Ytadpggfmogjddaa
