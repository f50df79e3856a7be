/-
  PROVED: the law FrameKnown, which has no input, hands back true and turns nothing that was there.
-/
import Derived.Test.YtkpkompmfijgkaaRows
import Derived.Test.YtkpkompmfijgkaaFrameO
set_option linter.unusedVariables false
set_option linter.unusedSimpArgs false
open Go Go.Am Go.ChangeShapes Go.WideShapes Go.ChangeAt Go.RowKit
namespace Go.Proofs.Ytkpkompmfijgkaa.frameKnown

theorem head_wr {fin : Bool} {rsv op : Int} {masked : Bool} {k0 k1 k2 k3 : Int} {d : ByteArray} (h : Okay rsv op masked k0 k1 k2 k3 (slen d)) :
    headT (wr fin rsv op masked k0 k1 k2 k3 d) = (fin, rsv, op, masked, k0, k1, k2, k3, (slen d : Int), true, ((hI fin rsv op masked k0 k1 k2 k3 (slen d)).length : Int), true) := by
  have ht := toL_wr fin rsv op masked k0 k1 k2 k3 d
  have hs := slen_wr fin rsv op masked k0 k1 k2 k3 d
  have Y := head_long (fin := fin) h (s := wr fin rsv op masked k0 k1 k2 k3 d) (fun i hi _ => g8_chr (hI_bd h) ht i hi) (by omega)
  unfold headT
  rw [Y.ok, Y.len, Y.hn, Y.mask, Y.least, Y.key0, Y.key1, Y.key2, Y.key3, Y.hfin, Y.hrsv, Y.hop]
  rfl
theorem rep_len (l : List UInt8) : ∀ n, (Lib.repeatL l n).length = l.length * n
  | 0 => by simp [Lib.repeatL]
  | n + 1 => by simp [Lib.repeatL, rep_len l n, Nat.mul_succ, Nat.add_comm]
theorem xs_get (i : Nat) (h : i < 5) : ∃ k : Nat, k ≤ 65536 ∧ [Value.int IntKind.i64 0, Value.int IntKind.i64 125, Value.int IntKind.i64 126, Value.int IntKind.i64 65535, Value.int IntKind.i64 65536].getD (0 + (i : Int).toNat * 1) undef = .int .i64 k := by
  have : i = 0 ∨ i = 1 ∨ i = 2 ∨ i = 3 ∨ i = 4 := by omega
  rcases this with rfl | rfl | rfl | rfl | rfl
  · exact ⟨0, by omega, rfl⟩
  · exact ⟨125, by omega, rfl⟩
  · exact ⟨126, by omega, rfl⟩
  · exact ⟨65535, by omega, rfl⟩
  · exact ⟨65536, by omega, rfl⟩
theorem wr_eq (d : ByteArray) : cat (bytesOf (Value.int IntKind.u8 2 :: (numV false (slen d) ++ []))) (maskD [0, 0, 0, 0] 0 d) = wr false 0 2 false 0 0 0 0 d := by
  unfold wr
  rw [← g8_map, ← hdrV_hI]
  rfl
theorem round (i : Nat) (hi : i < 5) : known_S1 i ∧ known_t1 i = .inl (i + 1) := by
  obtain ⟨k, hk, hg⟩ := xs_get i hi
  unfold known_S1 known_t1
  rw [hg, show decide ((i : Int) < 5) = true from decide_eq_true (by omega)]
  dsimp only [toInt]
  rw [Int.toNat_natCast]
  have hd : slen (ofL (Lib.repeatL (toL ⟨#[120]⟩) k)) = k := by
    rw [slen_ofL, rep_len]; show 1 * k = k; omega
  generalize ofL (Lib.repeatL (toL ⟨#[120]⟩) k) = d at hd
  have OK : Okay 0 2 false 0 0 0 0 (slen d) := ⟨by omega, by omega, by omega, by omega, by omega, by omega, fun _ => ⟨rfl, rfl, rfl, rfl⟩, by omega, by omega, by omega, by omega⟩
  have hh := head_wr (fin := false) OK
  have hs := slen_wr false 0 2 false 0 0 0 0 d
  simp only [wr_eq, hh]
  rw [hd] at hs hh ⊢
  have hl14 : (hI false 0 2 false 0 0 0 0 k).length ≤ 14 := by
    have hl := hI_len false 0 2 false 0 0 0 0 (k : Int)
    simp only [cond_false] at hl
    (repeat' split at hl) <;> omega
  have w1 : IntKind.i64.wrap ((slen (wr false 0 2 false 0 0 0 0 d) : Int) - (k : Int)) = ((hI false 0 2 false 0 0 0 0 k).length : Int) := by rw [wrap64_in (by omega) (by omega)]; omega
  have w2 : IntKind.u64.wrap (k : Int) = k := wrapU64 (by omega) (by omega)
  have w3 : IntKind.i64.wrap ((i : Int) + 1) = (i : Int) + 1 := wrap64_in (by omega) (by omega)
  have p1 : fbytesc_pre false 0 2 false 0 0 0 0 d := by unfold fbytesc_pre; omega
  have p2 (x : ByteArray) : headc_pre x := trivial
  have e1 : slen ⟨#[120]⟩ = 1 := rfl
  simp only [w1, w2, w3]
  refine ⟨?_, by simp⟩
  simp [p1, p2, e1, isInt]
  omega

theorem fin : known_S1 5 ∧ known_t1 5 = .inr true := by
  unfold known_S1 known_t1
  have ha := awake_safe
  have p2 (x : ByteArray) : headc_pre x := trivial
  refine ⟨?_, by decide⟩
  simp [ha, p2, freadc_pre, fbytesc_pre]
  refine ⟨by decide, by decide⟩

theorem run : ∀ (n i : Nat), i + n = 5 → AEnds E 10 0 (known_h1 i) (.bool true) []
  | 0, i, h => by
    have : i = 5 := by omega
    subst this
    have hk := known_ok1 5 fin.1
    rw [fin.2] at hk
    exact known_end hk
  | n + 1, i, h => by
    have hk := known_ok1 i (round i (by omega)).1
    rw [(round i (by omega)).2] at hk
    exact (known_go1 hk).ends (run n (i + 1) (by omega))

theorem all : AEnds E 10 0 (startC E 10 [] []) (.bool true) [] := by
  have p2 (x : ByteArray) : headc_pre x := trivial
  have h := known_ok0 (by unfold known_S0; simp [p2, awake_safe])
  exact (known_go1 h).ends (run 5 0 rfl)

theorem own : ownKnob Try.prog.godebug = none := by kernel_rfl

theorem walk (w : World) : Calls Try.prog 10 #[] w fun e w' => e = .returned (.bool true) ∧ Stays w w' :=
  calls_of_ends all (by kernel_rfl) rfl (fun _ => .nil)

theorem contract (H : Type) (enc : TypeId × Value → H) (W : World) (args : Array Value) (ds gs : List (DataW H)) (before : List MemPlace)
    (hW : DataW.Whole enc Try.prog Try.f10.params.toList Rows.frameKnownSpec.vars false W args.toList ds gs before) :
    Calls Try.prog 10 args W fun e W' => ∃ v, e = .returned v ∧ Rows.frameKnownSpec.post enc Try.prog Try.f10 false true false false W args v W' := by
  have hW' := hW
  obtain ⟨p, q, hA0, hV, rfl, hfz, hnd⟩ := hW
  have hA : DataW.TrodAll enc Try.prog W 0 (fun _ => true) true Try.f10.params.toList args.toList ds p := hA0
  rw [Try.params10] at hA
  obtain ⟨rfl, rfl, rfl⟩ := trodAll_none hA
  obtain ⟨rfl, rfl⟩ := trodVars_none hV
  clear hA0
  simp only [List.append_nil] at hW'
  refine (walk W).mono fun e W' ⟨he, hg⟩ => ?_
  subst he
  exact ⟨_, rfl, post_of_stays (pa := []) (pv := []) hW' (fun _ _ _ => (trodAll_cons_mk (shut_bool Try.underlying4 _) trodAll_mk0)) (fun sp _ => rfl) (fun _ _ => rfl) rfl hg (ok_one (by kernel_rfl) rfl (okWide_bool_mk Try.underlying4 _))⟩

set_option maxRecDepth 100000 in
theorem lifted (os : Os) (started : os.Started) (H : Type) (enc : TypeId × Value → H) :
    ReturnsInHanded {} Try.checked os 10 .any (Rows.frameKnownSpec.pre6 enc Try.prog Try.f10 Rows.frameKnownRow.domain false) (Rows.frameKnownSpec.post enc Try.prog Try.f10 false true false false) := by
  refine returnsInHanded_of_change (C := Try.checked) own started (by kernel_rfl) Try.func10
    (ChangeSpec.witness6 (enc := enc) (C := Try.checked) false ⟨#[], #[], []⟩ 8 (by kernel_rfl) (by kernel_rfl) (by kernel_rfl) (by kernel_rfl)) ?_
  intro W base args ds gs before hval0 hW hcnd _
  exact contract H enc W args ds gs before hW

theorem over : Rows.frameKnownRow.holds Try.pinned (OpenSpec.ofChange Rows.frameKnownSpec) :=
  OpenClaim.holds_of_wide 10 Try.f10 rfl rfl rfl rfl rfl rfl rfl ⟨rfl, rfl, rfl, rfl, rfl⟩ rfl rfl rfl rfl rfl (by kernel_rfl) Try.func10 (by kernel_rfl)
    (of_decide_eq_true (by kernel_rfl)) (by unfold Func.isWrapper; first | (rw [if_pos (by decide +kernel)]; kernel_rfl) | (rw [if_neg (by decide +kernel)]; exact ⟨rfl, rfl⟩))
    (fun os started H enc _ => lifted os started H enc)

theorem proved : Rows.FrameKnownSaid :=
  over


end Go.Proofs.Ytkpkompmfijgkaa.frameKnown
