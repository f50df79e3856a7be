/-
  A joiner of frames as one packed block: how it stands, as plain data; what its calls do to it.
-/
import Derived.Test.YtfpnjpbdaniomaaMessageB20
set_option linter.unusedVariables false
set_option linter.unusedSimpArgs false
set_option maxRecDepth 10000
open Go Go.Am
namespace Go.Proofs.Ytfpnjpbdaniomaa

abbrev JC : Type := Q × Int × Bool
structure JS where
 lim : Int
 op : Int
 sum : Int
 bad : Int
 lacks : Int
 begun : Bool
 last : Bool
 chk : Option JC
 txt : Option ByteArray
noncomputable def vaJ : Option ByteArray → Value
 | none => .pointer none
 | some _ => .pointer (some ⟨0, 5, none⟩)
noncomputable def vbJ : Option ByteArray → Value
 | none => .slice none 0 0
 | some t => .slice (some ⟨2, 0, none⟩) (slen t) 0
noncomputable def vcJ : Option JC → Value
 | none => .pointer none
 | some _ => .pointer (some ⟨1, 0, none⟩)
noncomputable def chO : Option JC → Option Ob
 | none => none
 | some c => some (.cells [.int .i64 c.1.1, .int .u8 c.1.2.1, .int .u8 c.1.2.2.1, .int .i32 c.1.2.2.2, .int .i64 c.2.1, .bool c.2.2] 106 none)
noncomputable def rwO : Option ByteArray → Option Ob
 | none => none
 | some t => some (.cells (ofBytes t) 5 (some 1))
noncomputable def jO (s : JS) (va vb vc : Value) : Ob := .cells [.int .i64 s.lim, .bool true, .int .i64 s.bad, .int .i64 s.op, .int .i64 s.sum, va, vb, vc, .bool s.begun, .bool s.last, .int .i64 s.lacks] 113 none
noncomputable def enc (s : JS) : Heap := [some (jO s (vaJ s.txt) (vbJ s.txt) (vcJ s.chk)), chO s.chk, rwO s.txt]
noncomputable def decC (o : Option Ob) : Option JC :=
 match o with
 | some (.cells c _ _) => some ((toInt (c.getD 0 undef), toInt (c.getD 1 undef), toInt (c.getD 2 undef), toInt (c.getD 3 undef)), toInt (c.getD 4 undef), toBool (c.getD 5 undef))
 | _ => none
noncomputable def decT (o : Option Ob) : Option ByteArray :=
 match o with
 | some (.cells c _ _) => some (bytesOf c)
 | _ => none
noncomputable def dec (J : Heap) : JS :=
 let c := cellsOf J 0
 { lim := toInt (c.getD 0 undef), op := toInt (c.getD 3 undef), sum := toInt (c.getD 4 undef), bad := toInt (c.getD 2 undef), lacks := toInt (c.getD 10 undef), begun := toBool (c.getD 8 undef), last := toBool (c.getD 9 undef), chk := decC (J.getD 1 none), txt := decT (J.getD 2 none) }
theorem ob_back (b : ByteArray) : bytesOf (ofBytes b) = b := by
 unfold bytesOf ofBytes
 rw [List.map_map]
 cases b with
 | mk d =>
  unfold ofL toL
  congr 1
  apply Array.ext'
  simp only [List.map_toArray] 
  conv => rhs; rw [← List.map_id d.toList]
  refine List.map_congr_left fun b _ => ?_
  simp [toInt]
theorem dec_enc (s : JS) : dec (enc s) = s := by
 obtain ⟨lim, op, sum, bad, lacks, begun, last, chk, txt⟩ := s
 have h1 : decC (chO chk) = chk := by cases chk <;> rfl
 have h2 : decT (rwO txt) = txt := by
  cases txt with
  | none => rfl
  | some t => show some (bytesOf (ofBytes t)) = some t; rw [ob_back]
 show JS.mk lim op sum bad lacks begun last (decC (chO chk)) (decT (rwO txt)) = _
 rw [h1, h2]
theorem ob_flat (s : ByteArray) : (ofBytes s).all flat = true := by simp [ofBytes, flat]
theorem ob_len (s : ByteArray) : (ofBytes s).length = slen s := by simp [ofBytes, slen]
theorem take_ob (s : ByteArray) : List.take (slen s) (ofBytes s) = ofBytes s := List.take_of_length_le (by rw [ob_len]; exact Nat.le_refl _)
theorem ob_cat (b s : ByteArray) : ofBytes b ++ ofBytes s = ofBytes (cat b s) := by
 unfold cat
 simp [ofBytes, toL, ofL]
theorem slen_cat (b s : ByteArray) : slen (cat b s) = slen b + slen s := by simp [slen, cat, toL, ofL]
noncomputable def fresh : JC := ((0, 0, 0, 0), 0, false)
noncomputable def beginF (s : JS) (l : Bool) (o n : Int) : Int × JS :=
 bif decide (n < 0) then (1002, { s with bad := 1002 })
 else bif !((o == 0) == (s.op != 0)) then (1002, { s with bad := 1002 })
 else bif decide (IntKind.i64.wrap (s.lim - s.sum) < n) then (1009, { s with bad := 1009 })
 else bif o == 0 then (0, { s with sum := IntKind.i64.wrap (s.sum + n), begun := true, last := l, lacks := n })
 else (0, { s with op := o, sum := IntKind.i64.wrap (s.sum + n), begun := true, last := l, lacks := n, chk := some fresh })
theorem ok1 {a : Bool} (h : a = true) : AllT [a] := AllT.cons.2 ⟨h, AllT.nil⟩
theorem ok2 {a b : Bool} (h : a = true) (h2 : b = true) : AllT [a, b] := AllT.cons.2 ⟨h, ok1 h2⟩
theorem enc_ok (s : JS) : rootO (enc s) = true ∧ noObj (enc s) = true := by
 refine ⟨rfl, ?_⟩
 unfold enc chO rwO jO
 cases s.chk <;> cases s.txt <;> rfl
theorem ren_id (s : JS) (r : Heap) : ∃ ok, AllT ok ∧ renH E (toNew [0, 1, 2]) (enc s ++ r) [0, 1, 2] = some (ok, enc s) := by
 obtain ⟨lim, op, sum, bad, lacks, begun, last, chk, txt⟩ := s
 cases chk <;> cases txt
 ·exact ⟨_, AllT.nil, rfl⟩
 ·exact ⟨_, ok1 (ob_flat _), rfl⟩
 ·exact ⟨_, ok1 rfl, rfl⟩
 ·exact ⟨_, ok2 rfl (ob_flat _), rfl⟩
theorem ren_chk (s : JS) (c : JC) (o : Option Ob) : ∃ ok, AllT ok ∧ renH E (toNew [0, 3, 2]) [some (jO s (vaJ s.txt) (vbJ s.txt) (.pointer (some ⟨3, 0, none⟩))), o, rwO s.txt, chO (some c)] [0, 3, 2] = some (ok, enc { s with chk := some c }) := by
 obtain ⟨lim, op, sum, bad, lacks, begun, last, chk, txt⟩ := s
 cases txt
 ·exact ⟨_, ok1 rfl, rfl⟩
 ·exact ⟨_, ok2 rfl (ob_flat _), rfl⟩
theorem ren_row (s : JS) (t : ByteArray) (o : Option Ob) : ∃ ok, AllT ok ∧ renH E (toNew [0, 1, 3]) [some (jO s (.pointer (some ⟨0, 5, none⟩)) (.slice (some ⟨3, 0, none⟩) (slen t) 0) (vcJ s.chk)), chO s.chk, o, rwO (some t)] [0, 1, 3] = some (ok, enc { s with txt := some t }) := by
 obtain ⟨lim, op, sum, bad, lacks, begun, last, chk, txt⟩ := s
 cases chk
 ·exact ⟨_, ok1 (ob_flat _), rfl⟩
 ·exact ⟨_, ok2 rfl (ob_flat _), rfl⟩
theorem jobj {g : FuncId} {args : List Value} {s s' : JS} {v : Value} {H' : Heap} (l : List Nat) (h : AEnds E g 3 (startC E g args [some (jO s (vaJ s.txt) (vbJ s.txt) (vcJ s.chk)), none, none]) v H') (ha : args.all argO = true) (hv : plainV 3 v = true)
  (hr : ∃ ok, AllT ok ∧ renH E (toNew l) (fillH H' [none, chO s.chk, rwO s.txt]) l = some (ok, enc s'))
  (hx : (apart H' [none, chO s.chk, rwO s.txt] && (nodup l && Nat.beq (l.getD 0 0) 0)) = true) (hc : (canStart E g args && Nat.ble 3 H'.length) = true := by kernel_rfl) : CallOk E g args [some (.obj (enc s))] v [some (.obj (enc s'))] := by
 simp only [Bool.and_eq_true] at hx hc
 refine callOk_objW l (H := [some (jO s (vaJ s.txt) (vbJ s.txt) (vcJ s.chk)), none, none]) (H' := H') (callOk_of_ends h hc.1 (Nat.le_of_ble_eq_true hc.2)) [none, chO s.chk, rwO s.txt] rfl ha hv hr ?_
 rw [(enc_ok s').1, (enc_ok s').2, hx.1, hx.2.1, hx.2.2]
 rfl
theorem jobjA {g : FuncId} {args : List Value} {s s' : JS} {v : Value} {H' : Heap} (l : List Nat) (h : AEnds E g 3 (startC E g args (enc s)) v H') (ha : args.all argO = true) (hv : plainV 3 v = true)
  (hr : ∃ ok, AllT ok ∧ renH E (toNew l) H' l = some (ok, enc s'))
  (hx : (nodup l && Nat.beq (l.getD 0 0) 0) = true) (hc : (canStart E g args && Nat.ble 3 H'.length) = true := by kernel_rfl) : CallOk E g args [some (.obj (enc s))] v [some (.obj (enc s'))] := by
 simp only [Bool.and_eq_true] at hx hc
 obtain ⟨ok, hok, hr⟩ := hr
 exact callOk_obj (callOk_of_ends h hc.1 (Nat.le_of_ble_eq_true hc.2)) ha hv hx.1 hr hok (Nat.eq_of_beq_eq_true hx.2) (enc_ok s').1 (enc_ok s').2
theorem apart1 (x : Option Ob) (a b : Option Ob) : apart [x, none, none] [none, a, b] = true := by cases x <;> rfl
theorem apart2 (x y : Option Ob) (a b : Option Ob) : apart [x, none, none, y] [none, a, b] = true := by cases x <;> rfl
theorem begin_call (s : JS) (l : Bool) (o n : Int) (h0 : s.bad = 0) (h1 : s.begun = false) (ho : o = 0 ∨ o = 1 ∨ o = 2) :
  CallOk E 58 [.pointer (some ⟨0, 0, none⟩), .bool l, .int .i64 o, .int .i64 n] [some (.obj (enc s))] (.int .i64 (beginF s l o n).1) [some (.obj (enc (beginF s l o n).2))] := by
 obtain ⟨lim, op, sum, bad, lacks, begun, last, chk, txt⟩ := s
 dsimp only at h0 h1
 subst h0 h1
 unfold beginF
 dsimp only
 rcases ho with rfl | rfl | rfl
 ·rw [show ((0 : Int) == 0) = true from rfl]
  cases c1 : decide (n < 0) with
  | true => exact jobj [0, 1, 2] (jb0_w0_0 lim op sum (vaJ txt) (vbJ txt) (vcJ chk) last lacks l n c1) rfl rfl (ren_id ⟨lim, op, sum, 1002, lacks, false, last, chk, txt⟩ []) (by rw [apart1]; rfl)
  | false => cases c2 : !(true == (op != 0)) with
   | true => exact jobj [0, 1, 2] (jb0_w0_1 lim op sum (vaJ txt) (vbJ txt) (vcJ chk) last lacks l n c2 c1) rfl rfl (ren_id ⟨lim, op, sum, 1002, lacks, false, last, chk, txt⟩ []) (by rw [apart1]; rfl)
   | false => cases c3 : decide (IntKind.i64.wrap (lim - sum) < n) with
    | true => exact jobj [0, 1, 2] (jb0_w0_2 lim op sum (vaJ txt) (vbJ txt) (vcJ chk) last lacks l n c3 c2 c1) rfl rfl (ren_id ⟨lim, op, sum, 1009, lacks, false, last, chk, txt⟩ []) (by rw [apart1]; rfl)
    | false => exact jobj [0, 1, 2] (jb0_w0_3 lim op sum (vaJ txt) (vbJ txt) (vcJ chk) last lacks l n c3 c2 c1) rfl rfl (ren_id ⟨lim, op, IntKind.i64.wrap (sum + n), 0, n, true, l, chk, txt⟩ []) (by rw [apart1]; rfl)
 ·rw [show ((1 : Int) == 0) = false from rfl]
  cases c1 : decide (n < 0) with
  | true => exact jobj [0, 1, 2] (jb1_w0_0 lim op sum (vaJ txt) (vbJ txt) (vcJ chk) last lacks l n c1) rfl rfl (ren_id ⟨lim, op, sum, 1002, lacks, false, last, chk, txt⟩ []) (by rw [apart1]; rfl)
  | false => cases c2 : !(false == (op != 0)) with
   | true => exact jobj [0, 1, 2] (jb1_w0_1 lim op sum (vaJ txt) (vbJ txt) (vcJ chk) last lacks l n c2 c1) rfl rfl (ren_id ⟨lim, op, sum, 1002, lacks, false, last, chk, txt⟩ []) (by rw [apart1]; rfl)
   | false => cases c3 : decide (IntKind.i64.wrap (lim - sum) < n) with
    | true => exact jobj [0, 1, 2] (jb1_w0_2 lim op sum (vaJ txt) (vbJ txt) (vcJ chk) last lacks l n c3 c2 c1) rfl rfl (ren_id ⟨lim, op, sum, 1009, lacks, false, last, chk, txt⟩ []) (by rw [apart1]; rfl)
    | false => exact jobj [0, 3, 2] (jb1_w0_3 lim op sum (vaJ txt) (vbJ txt) (vcJ chk) last lacks l n c3 c2 c1) rfl rfl (ren_chk ⟨lim, 1, IntKind.i64.wrap (sum + n), 0, n, true, l, chk, txt⟩ fresh (chO chk)) (by rw [apart2]; rfl)
 ·rw [show ((2 : Int) == 0) = false from rfl]
  cases c1 : decide (n < 0) with
  | true => exact jobj [0, 1, 2] (jb2_w0_0 lim op sum (vaJ txt) (vbJ txt) (vcJ chk) last lacks l n c1) rfl rfl (ren_id ⟨lim, op, sum, 1002, lacks, false, last, chk, txt⟩ []) (by rw [apart1]; rfl)
  | false => cases c2 : !(false == (op != 0)) with
   | true => exact jobj [0, 1, 2] (jb2_w0_1 lim op sum (vaJ txt) (vbJ txt) (vcJ chk) last lacks l n c2 c1) rfl rfl (ren_id ⟨lim, op, sum, 1002, lacks, false, last, chk, txt⟩ []) (by rw [apart1]; rfl)
   | false => cases c3 : decide (IntKind.i64.wrap (lim - sum) < n) with
    | true => exact jobj [0, 1, 2] (jb2_w0_2 lim op sum (vaJ txt) (vbJ txt) (vcJ chk) last lacks l n c3 c2 c1) rfl rfl (ren_id ⟨lim, op, sum, 1009, lacks, false, last, chk, txt⟩ []) (by rw [apart1]; rfl)
    | false => exact jobj [0, 3, 2] (jb2_w0_3 lim op sum (vaJ txt) (vbJ txt) (vcJ chk) last lacks l n c3 c2 c1) rfl rfl (ren_chk ⟨lim, 2, IntKind.i64.wrap (sum + n), 0, n, true, l, chk, txt⟩ fresh (chO chk)) (by rw [apart2]; rfl)
end Go.Proofs.Ytfpnjpbdaniomaa

/-
  A joiner of frames as one packed block: Piece, End, Open, New; the contracts.
-/
set_option linter.unusedVariables false
set_option linter.unusedSimpArgs false
set_option maxRecDepth 10000
open Go Go.Am
namespace Go.Proofs.Ytfpnjpbdaniomaa

noncomputable def catO : Option ByteArray → ByteArray → ByteArray
 | none, t => t
 | some b, t => cat b t
noncomputable def txtL : Option ByteArray → Nat
 | none => 0
 | some b => slen b
noncomputable def txtB : Option ByteArray → ByteArray
 | none => ⟨#[]⟩
 | some b => b
noncomputable def chkG : Option JC → JC
 | none => fresh
 | some c => c
noncomputable def fedC (c : JC) (t : ByteArray) : JC := feedL (c.1.1, c.1.2.1, c.1.2.2.1, c.1.2.2.2) c.2.1 c.2.2 (toL t)
noncomputable def pieceF (s : JS) (t : ByteArray) : Int × JS :=
 bif decide (s.lacks < (slen t : Int)) then (1002, { s with bad := 1002 })
 else bif s.op == 1 then
  bif !!(fedC (chkG s.chk) t).2.2 then (1007, { s with bad := 1007, chk := some (fedC (chkG s.chk) t) })
  else (0, { s with chk := some (fedC (chkG s.chk) t), txt := some (catO s.txt t), lacks := IntKind.i64.wrap (s.lacks - (slen t : Int)) })
 else (0, { s with txt := some (catO s.txt t), lacks := IntKind.i64.wrap (s.lacks - (slen t : Int)) })
theorem ob_one (s : ByteArray) : (List.take (slen s) (ofBytes s)).all one = true := by rw [take_ob]; simp [ofBytes, one]
theorem piece_call (s : JS) (t : ByteArray) (c : JC) (hc : s.chk = some c) (h0 : s.bad = 0) (h1 : s.begun = true) (h2 : 0 < slen t) (h3 : txtL s.txt + slen t ≤ 1000000) (hf : feed_pre c.1.1 c.1.2.1 c.1.2.2.1 c.1.2.2.2 c.2.1 c.2.2 t) :
  CallOk E 59 [.pointer (some ⟨0, 0, none⟩), .string t] [some (.obj (enc s))] (.int .i64 (pieceF s t).1) [some (.obj (enc (pieceF s t).2))] := by
 obtain ⟨lim, op, sum, bad, lacks, begun, last, chk, txt⟩ := s
 dsimp only at h0 h1 hc h3
 subst h0 h1 hc
 obtain ⟨⟨left, low, high, x⟩, at', cbad⟩ := c
 unfold pieceF
 dsimp only [chkG]
 have hne : decide (slen t = 0) = false := by simp; omega
 cases txt with
 | none =>
  have h3 : 0 + slen t ≤ 1000000 := h3
  cases c1 : decide (lacks < (slen t : Int)) with
  | true => exact jobjA [0, 1, 2] (jp0_w0_0 lim op sum last lacks left low high x at' cbad t c1) rfl rfl (ren_id ⟨lim, op, sum, 1002, lacks, true, last, some ((left, low, high, x), at', cbad), none⟩ []) rfl
  | false => cases c2 : op == 1 with
   | true =>
    generalize hr : fedC ((left, low, high, x), at', cbad) t = r
    cases c3 : !!r.2.2 with
    | true => exact jobjA [0, 1, 2] (jp0_w0_1 lim op sum last lacks left low high x at' cbad t r hr c3 hf c2 c1) rfl rfl (ren_id ⟨lim, op, sum, 1007, lacks, true, last, some r, none⟩ []) rfl
    | false =>
     have w := jp0_w0_3 lim op sum last lacks left low high x at' cbad t r hr (ob_one t) (Nat.le_refl _) h2 (by omega) (by omega) hne c3 hf c2 c1
     rw [take_ob] at w
     exact jobjA [0, 1, 3] w rfl rfl (ren_row ⟨lim, op, sum, 0, IntKind.i64.wrap (lacks - (slen t : Int)), true, last, some r, none⟩ t none) rfl
   | false =>
    have w := jp0_w0_5 lim op sum last lacks left low high x at' cbad t (ob_one t) (Nat.le_refl _) h2 (by omega) (by omega) hne c2 c1
    rw [take_ob] at w
    exact jobjA [0, 1, 3] w rfl rfl (ren_row ⟨lim, op, sum, 0, IntKind.i64.wrap (lacks - (slen t : Int)), true, last, some ((left, low, high, x), at', cbad), none⟩ t none) rfl
 | some b =>
  have h3 : slen b + slen t ≤ 1000000 := h3
  have hb : List.take (slen b * 1) (List.drop 0 (ofBytes b)) = ofBytes b := by rw [Nat.mul_one, List.drop_zero, take_ob]
  cases c1 : decide (lacks < (slen t : Int)) with
  | true => exact jobjA [0, 1, 2] (jp2_w0_0 lim op sum last lacks (slen b) (ofBytes b) left low high x at' cbad t c1) rfl rfl (ren_id ⟨lim, op, sum, 1002, lacks, true, last, some ((left, low, high, x), at', cbad), some b⟩ []) rfl
  | false => cases c2 : op == 1 with
   | true =>
    generalize hr : fedC ((left, low, high, x), at', cbad) t = r
    cases c3 : !!r.2.2 with
    | true => exact jobjA [0, 1, 2] (jp2_w0_1 lim op sum last lacks (slen b) (ofBytes b) left low high x at' cbad t r hr c3 hf c2 c1) rfl rfl (ren_id ⟨lim, op, sum, 1007, lacks, true, last, some r, some b⟩ []) rfl
    | false =>
     have w := jp2_w0_2 lim op sum last lacks (slen b) (ofBytes b) left low high x at' cbad t r hr (ob_one t) (Nat.le_refl _) (by rw [ob_len]; omega) (by omega) (by omega) c3 hf c2 c1
     rw [take_ob, hb, ob_cat, ← slen_cat] at w
     exact jobjA [0, 1, 3] w rfl rfl (ren_row ⟨lim, op, sum, 0, IntKind.i64.wrap (lacks - (slen t : Int)), true, last, some r, some b⟩ (cat b t) none) rfl
   | false =>
    have w := jp2_w0_3 lim op sum last lacks (slen b) (ofBytes b) left low high x at' cbad t (ob_one t) (Nat.le_refl _) (by rw [ob_len]; omega) (by omega) (by omega) c2 c1
    rw [take_ob, hb, ob_cat, ← slen_cat] at w
    exact jobjA [0, 1, 3] w rfl rfl (ren_row ⟨lim, op, sum, 0, IntKind.i64.wrap (lacks - (slen t : Int)), true, last, some ((left, low, high, x), at', cbad), some b⟩ (cat b t) none) rfl
noncomputable def endF (s : JS) : Int × ByteArray × Bool × Int × JS :=
 bif !s.last then (0, ⟨#[]⟩, false, 0, { s with begun := false })
 else bif (s.op == 1) && (!(chkG s.chk).1.1 == 0 || (chkG s.chk).2.2) then (0, ⟨#[]⟩, false, 1007, { s with bad := 1007 })
 else (s.op, txtB s.txt, true, 0, { s with op := 0, sum := 0, begun := false, txt := none })
theorem end_call (s : JS) (hc : s.last = true → s.chk.isSome = true) (h0 : s.bad = 0) (h1 : s.begun = true) (h2 : s.lacks = 0) (h3 : txtL s.txt ≤ 2000000) (h4 : ∀ b, s.txt = some b → 0 < slen b) :
  CallOk E 60 [.pointer (some ⟨0, 0, none⟩)] [some (.obj (enc s))] (.tuple #[.agg #[.int .i64 (endF s).1, .string (endF s).2.1], .bool (endF s).2.2.1, .int .i64 (endF s).2.2.2.1]) [some (.obj (enc (endF s).2.2.2.2))] := by
 obtain ⟨lim, op, sum, bad, lacks, begun, last, chk, txt⟩ := s
 dsimp only at h0 h1 h2 hc h3 h4
 subst h0 h1 h2
 unfold endF
 dsimp only
 cases last with
 | false => exact jobj [0, 1, 2] (je0_w0_0 lim op sum (vaJ txt) (vbJ txt) (vcJ chk)) rfl rfl (ren_id ⟨lim, op, sum, 0, 0, false, false, chk, txt⟩ [_]) (by rw [apart2]; rfl)
 | true =>
  cases chk with
  | none => exact absurd (hc rfl) (by simp)
  | some c =>
   obtain ⟨⟨left, low, high, x⟩, at', cbad⟩ := c
   dsimp only [chkG]
   cases txt with
   | none =>
    cases c1 : op == 1 with
    | true => cases c2 : cbad with
     | true => 
      have w := je1_w0_2 lim op sum (vaJ none) left low high x at' true rfl c1
      rw [Bool.or_true, Bool.and_true]
      exact jobjA [0, 1, 2] w rfl rfl (ren_id ⟨lim, op, sum, 1007, 0, true, true, some ((left, low, high, x), at', true), none⟩ [_]) rfl
     | false => cases c3 : (!left == 0) with
      | true => exact jobjA [0, 1, 2] (je1_w0_0 lim op sum (vaJ none) left low high x at' false c3 rfl c1) rfl rfl (ren_id ⟨lim, op, sum, 1007, 0, true, true, some ((left, low, high, x), at', false), none⟩ [_]) rfl
      | false => exact jobjA [0, 1, 2] (je1_w0_1 lim op sum (vaJ none) left low high x at' false c3 rfl c1) rfl rfl (ren_id ⟨lim, 0, 0, 0, 0, false, true, some ((left, low, high, x), at', false), none⟩ [_]) rfl
    | false => exact jobjA [0, 1, 2] (je1_w0_3 lim op sum (vaJ none) left low high x at' cbad c1) rfl rfl (ren_id ⟨lim, 0, 0, 0, 0, false, true, some ((left, low, high, x), at', cbad), none⟩ [_]) rfl
   | some b =>
    have hb := h4 b rfl
    have h3 : slen b ≤ 2000000 := h3
    have hn : ((slen b : Int)).toNat = slen b := Int.toNat_natCast _
    have ht : List.take (slen b : Int).toNat (List.drop 0 (ofBytes b)) = ofBytes b := by rw [hn, List.drop_zero, take_ob]
    have hi : (List.take (slen b : Int).toNat (List.drop 0 (ofBytes b))).all (isInt .u8) = true := by rw [ht]; simp [ofBytes, isInt]
    cases c1 : op == 1 with
    | true => cases c2 : cbad with
     | true =>
      have w := je2_w0_2 lim op sum (vaJ (some b)) (slen b) (ofBytes b) left low high x at' true rfl c1
      rw [Bool.or_true, Bool.and_true]
      exact jobjA [0, 1, 2] w rfl rfl (ren_id ⟨lim, op, sum, 1007, 0, true, true, some ((left, low, high, x), at', true), some b⟩ [_]) rfl
     | false => cases c3 : (!left == 0) with
      | true => exact jobjA [0, 1, 2] (je2_w0_0 lim op sum (vaJ (some b)) (slen b) (ofBytes b) left low high x at' false c3 rfl c1) rfl rfl (ren_id ⟨lim, op, sum, 1007, 0, true, true, some ((left, low, high, x), at', false), some b⟩ [_]) rfl
      | false =>
       have w := je2_w0_1 lim op sum (vaJ (some b)) (slen b) (ofBytes b) left low high x at' false (by omega) (by omega) (by rw [ob_len]; omega) hi hb c3 rfl c1
       rw [ht, ob_back] at w
       exact jobjA [0, 1, 2] w rfl rfl (ren_id ⟨lim, 0, 0, 0, 0, false, true, some ((left, low, high, x), at', false), none⟩ [_]) rfl
    | false =>
     have w := je2_w0_3 lim op sum (vaJ (some b)) (slen b) (ofBytes b) left low high x at' cbad (by omega) (by omega) (by rw [ob_len]; omega) hi hb c1
     rw [ht, ob_back] at w
     exact jobjA [0, 1, 2] w rfl rfl (ren_id ⟨lim, 0, 0, 0, 0, false, true, some ((left, low, high, x), at', cbad), none⟩ [_]) rfl
theorem open_call (s : JS) : CallOk E 42 [.pointer (some ⟨0, 0, none⟩)] [some (.obj (enc s))] (.bool ((s.bad == 0) && (s.op != 0))) [some (.obj (enc s))] := by
 obtain ⟨lim, op, sum, bad, lacks, begun, last, chk, txt⟩ := s
 dsimp only
 cases c1 : bad == 0 with
 | true => exact jobj [0, 1, 2] (jo_w0_0 lim bad op sum (vaJ txt) (vbJ txt) (vcJ chk) begun last lacks c1) rfl rfl (ren_id ⟨lim, op, sum, bad, lacks, begun, last, chk, txt⟩ []) (by rw [apart1]; rfl)
 | false => exact jobj [0, 1, 2] (jo_w0_1 lim bad op sum (vaJ txt) (vbJ txt) (vcJ chk) begun last lacks c1) rfl rfl (ren_id ⟨lim, op, sum, bad, lacks, begun, last, chk, txt⟩ []) (by rw [apart1]; rfl)
noncomputable def js0 (lim : Int) : JS := ⟨lim, 0, 0, 0, 0, false, false, none, none⟩
theorem new_call (lim : Int) (h0 : 0 ≤ lim) (h1 : lim ≤ 1099511627776) : CallOk E 28 [.int .i64 lim] [] (.tuple #[.pointer (some ⟨0, 0, none⟩), .int .i64 0]) [some (.obj (enc (js0 lim)))] := by
 have w := callOk_pad (callOk_way (jn_w0_2 lim (decide_eq_false (by omega)) (decide_eq_false (by omega)))) 2
 exact callOk_newObj w rfl rfl rfl
end Go.Proofs.Ytfpnjpbdaniomaa

/-
  A joiner of frames as one packed block: the contracts.
-/
set_option linter.unusedVariables false
set_option linter.unusedSimpArgs false
open Go Go.Am
namespace Go.Proofs.Ytfpnjpbdaniomaa

def JI (J : Heap) : Prop := J = enc (dec J)
theorem JI_enc (s : JS) : JI (enc s) := by unfold JI; rw [dec_enc]

def jbg_pre (J : Heap) (l : Bool) (o n : Int) : Prop := JI J ∧ (dec J).bad = 0 ∧ (dec J).begun = false ∧ (o = 0 ∨ o = 1 ∨ o = 2)
noncomputable def jbgV (J : Heap) (l : Bool) (o n : Int) : Int := (beginF (dec J) l o n).1
noncomputable def jbgJ (J : Heap) (l : Bool) (o n : Int) : Heap := enc (beginF (dec J) l o n).2
noncomputable def jbg_v (J : Heap) (l : Bool) (o n : Int) : Value := .int .i64 (jbgV J l o n)
noncomputable def jbg_h (J : Heap) (l : Bool) (o n : Int) : Heap := [some (.obj (jbgJ J l o n))]
theorem jbg_call (J : Heap) (l : Bool) (o n : Int) (h : jbg_pre J l o n) : CallOk E 58 [.pointer (some ⟨0, 0, none⟩), .bool l, .int .i64 o, .int .i64 n] [some (.obj J)] (jbg_v J l o n) (jbg_h J l o n) := by
 have w := begin_call (dec J) l o n h.2.1 h.2.2.1 h.2.2.2
 rw [← h.1] at w
 exact w

def jbg_ex (a : List Value) (h : Heap) : Heap × Bool × Int × Int := ((objOf h 0), (toBool (a.getD 1 undef)), (toInt (a.getD 2 undef)), (toInt (a.getD 3 undef)))
noncomputable def jbg_k : Ct := kS jbg_ex [.ptr 0 0, .bool, .int .i64, .int .i64] [.obj] (fun (a0, a1, a2, a3) => jbg_pre a0 a1 a2 a3) (fun (a0, a1, a2, a3) => jbg_v a0 a1 a2 a3) (fun (a0, a1, a2, a3) => jbg_h a0 a1 a2 a3)
theorem jbg_k_ok : KFor E 58 jbg_k := kS_ok (fun x hx => jbg_call (x.1) (x.2.1) (x.2.2.1) (x.2.2.2) hx) (fun _ _ => rfl) (fun _ _ => rfl)


def jpc_pre (J : Heap) (t : ByteArray) : Prop := JI J ∧ (dec J).chk.isSome = true ∧ (dec J).bad = 0 ∧ (dec J).begun = true ∧ 0 < slen t ∧ txtL (dec J).txt + slen t ≤ 1000000 ∧ 0 ≤ (chkG (dec J).chk).2.1 ∧ (chkG (dec J).chk).2.1 ≤ 1000000 * 1000000
noncomputable def jpcV (J : Heap) (t : ByteArray) : Int := (pieceF (dec J) t).1
noncomputable def jpcJ (J : Heap) (t : ByteArray) : Heap := enc (pieceF (dec J) t).2
noncomputable def jpc_v (J : Heap) (t : ByteArray) : Value := .int .i64 (jpcV J t)
noncomputable def jpc_h (J : Heap) (t : ByteArray) : Heap := [some (.obj (jpcJ J t))]
theorem jpc_call (J : Heap) (t : ByteArray) (h : jpc_pre J t) : CallOk E 59 [.pointer (some ⟨0, 0, none⟩), .string t] [some (.obj J)] (jpc_v J t) (jpc_h J t) := by
 obtain ⟨h1, h2, h3, h4, h5, h6, h7, h8⟩ := h
 obtain ⟨c, hc⟩ := Option.isSome_iff_exists.1 h2
 rw [hc] at h7 h8
 have w := piece_call (dec J) t c hc h3 h4 h5 h6 ⟨by omega, h7, h8⟩
 rw [← h1] at w
 exact w

def jpc_ex (a : List Value) (h : Heap) : Heap × ByteArray := ((objOf h 0), (toStr (a.getD 1 undef)))
noncomputable def jpc_k : Ct := kS jpc_ex [.ptr 0 0, .str] [.obj] (fun (a0, a1) => jpc_pre a0 a1) (fun (a0, a1) => jpc_v a0 a1) (fun (a0, a1) => jpc_h a0 a1)
theorem jpc_k_ok : KFor E 59 jpc_k := kS_ok (fun x hx => jpc_call (x.1) (x.2) hx) (fun _ _ => rfl) (fun _ _ => rfl)


def jen_pre (J : Heap) : Prop := JI J ∧ ((dec J).last = true → (dec J).chk.isSome = true) ∧ (dec J).bad = 0 ∧ (dec J).begun = true ∧ (dec J).lacks = 0 ∧ txtL (dec J).txt ≤ 2000000 ∧ ∀ b, (dec J).txt = some b → 0 < slen b
noncomputable def jenE (J : Heap) : Int × ByteArray × Bool × Int := seal1 ((endF (dec J)).1, (endF (dec J)).2.1, (endF (dec J)).2.2.1, (endF (dec J)).2.2.2.1)
theorem jenE_eq (J : Heap) : jenE J = ((endF (dec J)).1, (endF (dec J)).2.1, (endF (dec J)).2.2.1, (endF (dec J)).2.2.2.1) := seal1_eq _
noncomputable def jenJ (J : Heap) : Heap := enc (endF (dec J)).2.2.2.2
noncomputable def jen_v (J : Heap) : Value := .tuple #[.agg #[.int .i64 (jenE J).1, .string (jenE J).2.1], .bool (jenE J).2.2.1, .int .i64 (jenE J).2.2.2]
noncomputable def jen_h (J : Heap) : Heap := [some (.obj (jenJ J))]
theorem jen_call (J : Heap) (h : jen_pre J) : CallOk E 60 [.pointer (some ⟨0, 0, none⟩)] [some (.obj J)] (jen_v J) (jen_h J) := by
 unfold jen_v
 rw [jenE_eq]
 have w := end_call (dec J) h.2.1 h.2.2.1 h.2.2.2.1 h.2.2.2.2.1 h.2.2.2.2.2.1 h.2.2.2.2.2.2
 rw [← h.1] at w
 exact w

def jen_ex (a : List Value) (h : Heap) : Heap := (objOf h 0)
noncomputable def jen_k : Ct := kS jen_ex [.ptr 0 0] [.obj] (fun x => jen_pre x) (fun x => jen_v x) (fun x => jen_h x)
theorem jen_k_ok : KFor E 60 jen_k := kS_ok (fun x hx => jen_call x hx) (fun _ _ => rfl) (fun _ _ => rfl)


def jop_pre (J : Heap) : Prop := JI J
noncomputable def jopV (J : Heap) : Bool := ((dec J).bad == 0) && ((dec J).op != 0)
noncomputable def jop_v (J : Heap) : Value := .bool (jopV J)
noncomputable def jop_h (J : Heap) : Heap := [some (.obj J)]
theorem jop_call (J : Heap) (h : jop_pre J) : CallOk E 42 [.pointer (some ⟨0, 0, none⟩)] [some (.obj J)] (jop_v J) (jop_h J) := by
 have w := open_call (dec J)
 rw [← show J = enc (dec J) from h] at w
 exact w

def jop_ex (a : List Value) (h : Heap) : Heap := (objOf h 0)
noncomputable def jop_k : Ct := kS jop_ex [.ptr 0 0] [.obj] (fun x => jop_pre x) (fun x => jop_v x) (fun x => jop_h x)
theorem jop_k_ok : KFor E 42 jop_k := kS_ok (fun x hx => jop_call x hx) (fun _ _ => rfl) (fun _ _ => rfl)


def jnw_pre (lim : Int) : Prop := 0 ≤ lim ∧ lim ≤ 1099511627776
noncomputable def jnwJ (lim : Int) : Heap := seal1 (enc (js0 lim))
theorem jnwJ_eq (lim : Int) : jnwJ lim = enc (js0 lim) := seal1_eq _
noncomputable def jnw_v (lim : Int) : Value := .tuple #[.pointer (some ⟨0, 0, none⟩), .int .i64 0]
noncomputable def jnw_h (lim : Int) : Heap := [some (.obj (jnwJ lim))]
theorem jnw_call (lim : Int) (h : jnw_pre lim) : CallOk E 28 [.int .i64 lim] [] (jnw_v lim) (jnw_h lim) := by
 have w := new_call lim h.1 h.2
 rw [← jnwJ_eq] at w
 exact w

def jnw_ex (a : List Value) (h : Heap) : Int := (toInt (a.getD 0 undef))
noncomputable def jnw_k : Ct := kS jnw_ex [.int .i64] [] (fun x => jnw_pre x) (fun x => jnw_v x) (fun x => jnw_h x)
theorem jnw_k_ok : KFor E 28 jnw_k := kS_ok (fun x hx => jnw_call x hx) (fun _ _ => rfl) (fun _ _ => rfl)


end Go.Proofs.Ytfpnjpbdaniomaa
