/-
  The tables of the abstract machine over this seat's loaded program: which functions and types it knows, each proved to be the program's own.
-/
import Derived.Test.YtfmcohbagbafmaaProg
import Derived.Test.YtfmcohbagbafmaaAmDef
import Derived.KernelRfl
namespace Go.Proofs.Ytfmcohbagbafmaa
open Go.Am
noncomputable def fnT : Nat → Option Func
  | 3 => some Try.f3
  | 4 => some Try.f4
  | 5 => some Try.f5
  | 6 => some Try.f6
  | 7 => some Try.f7
  | 8 => some Try.f8
  | 9 => some Try.f9
  | 10 => some Try.f10
  | 11 => some Try.f11
  | 12 => some Try.f12
  | 13 => some Try.f13
  | 14 => some Try.f14
  | 15 => some Try.f15
  | 16 => some Try.f16
  | 17 => some Try.f17
  | 18 => some Try.f18
  | 19 => some Try.f19
  | 20 => some Try.f20
  | 21 => some Try.f21
  | 22 => some Try.f22
  | 23 => some Try.f23
  | 24 => some Try.f24
  | 25 => some Try.f25
  | 26 => some Try.f26
  | 27 => some Try.f27
  | 28 => some Try.f28
  | 29 => some Try.f29
  | 30 => some Try.f30
  | 31 => some Try.f31
  | 32 => some Try.f32
  | 33 => some Try.f33
  | 34 => some Try.f34
  | _ => none
theorem fnT_ok : ∀ f F, fnT f = some F → Try.prog.funcs[f]? = some F ∧ (F.name == "runtime.NumGoroutine") = false := by
  intro f F h
  unfold fnT at h
  split at h
  · cases h; exact ⟨Try.func3, by kernel_rfl⟩
  · cases h; exact ⟨Try.func4, by kernel_rfl⟩
  · cases h; exact ⟨Try.func5, by kernel_rfl⟩
  · cases h; exact ⟨Try.func6, by kernel_rfl⟩
  · cases h; exact ⟨Try.func7, by kernel_rfl⟩
  · cases h; exact ⟨Try.func8, by kernel_rfl⟩
  · cases h; exact ⟨Try.func9, by kernel_rfl⟩
  · cases h; exact ⟨Try.func10, by kernel_rfl⟩
  · cases h; exact ⟨Try.func11, by kernel_rfl⟩
  · cases h; exact ⟨Try.func12, by kernel_rfl⟩
  · cases h; exact ⟨Try.func13, by kernel_rfl⟩
  · cases h; exact ⟨Try.func14, by kernel_rfl⟩
  · cases h; exact ⟨Try.func15, by kernel_rfl⟩
  · cases h; exact ⟨Try.func16, by kernel_rfl⟩
  · cases h; exact ⟨Try.func17, by kernel_rfl⟩
  · cases h; exact ⟨Try.func18, by kernel_rfl⟩
  · cases h; exact ⟨Try.func19, by kernel_rfl⟩
  · cases h; exact ⟨Try.func20, by kernel_rfl⟩
  · cases h; exact ⟨Try.func21, by kernel_rfl⟩
  · cases h; exact ⟨Try.func22, by kernel_rfl⟩
  · cases h; exact ⟨Try.func23, by kernel_rfl⟩
  · cases h; exact ⟨Try.func24, by kernel_rfl⟩
  · cases h; exact ⟨Try.func25, by kernel_rfl⟩
  · cases h; exact ⟨Try.func26, by kernel_rfl⟩
  · cases h; exact ⟨Try.func27, by kernel_rfl⟩
  · cases h; exact ⟨Try.func28, by kernel_rfl⟩
  · cases h; exact ⟨Try.func29, by kernel_rfl⟩
  · cases h; exact ⟨Try.func30, by kernel_rfl⟩
  · cases h; exact ⟨Try.func31, by kernel_rfl⟩
  · cases h; exact ⟨Try.func32, by kernel_rfl⟩
  · cases h; exact ⟨Try.func33, by kernel_rfl⟩
  · cases h; exact ⟨Try.func34, by kernel_rfl⟩
  · cases h
noncomputable def ti1 : TI := { und := Try.t1.desc, size := 1, bytes := 8, zero := (Try.t1.zero.getD undef), leaves := [.other] }
noncomputable def ti2 : TI := { und := .int .i64, size := 1, bytes := 8, zero := (Try.t2.zero.getD undef), leaves := [.int .i64] }
noncomputable def ti3 : TI := { und := .int .i64, size := 1, bytes := 8, zero := (Try.t3.zero.getD undef), leaves := [.int .i64] }
noncomputable def ti4 : TI := { und := .bool, size := 1, bytes := 1, zero := (Try.t4.zero.getD undef), leaves := [.bool] }
noncomputable def ti5 : TI := { und := .int .u8, size := 1, bytes := 1, zero := (Try.t5.zero.getD undef), leaves := [.int .u8] }
noncomputable def ti6 : TI := { und := .int .u8, size := 1, bytes := 1, zero := (Try.t6.zero.getD undef), leaves := [.int .u8] }
noncomputable def ti7 : TI := { und := Try.t7.desc, size := 4, bytes := 24, zero := (Try.t7.zero.getD undef), leaves := [.int .i64, .int .i64, .bool, .int .u8] }
noncomputable def ti8 : TI := { und := Try.t7.desc, size := 4, bytes := 24, zero := (Try.t8.zero.getD undef), leaves := [.int .i64, .int .i64, .bool, .int .u8] }
noncomputable def ti9 : TI := { und := .string, size := 1, bytes := 16, zero := (Try.t9.zero.getD undef), leaves := [.str] }
noncomputable def ti10 : TI := { und := .string, size := 1, bytes := 16, zero := (Try.t10.zero.getD undef), leaves := [.str] }
noncomputable def ti11 : TI := { und := .string, size := 1, bytes := 16, zero := (Try.t11.zero.getD undef), leaves := [.str] }
noncomputable def ti12 : TI := { und := .int .u64, size := 1, bytes := 8, zero := (Try.t12.zero.getD undef), leaves := [.int .u64] }
noncomputable def ti13 : TI := { und := Try.t13.desc, size := 2, bytes := 24, zero := (Try.t13.zero.getD undef), leaves := [.str, .int .u64] }
noncomputable def ti14 : TI := { und := Try.t13.desc, size := 2, bytes := 24, zero := (Try.t14.zero.getD undef), leaves := [.str, .int .u64] }
noncomputable def ti15 : TI := { und := .pointer 77, size := 1, bytes := 8, zero := (Try.t15.zero.getD undef), leaves := [.other] }
noncomputable def ti16 : TI := { und := .pointer 80, size := 1, bytes := 8, zero := (Try.t16.zero.getD undef), leaves := [.other] }
noncomputable def ti17 : TI := { und := .pointer 90, size := 1, bytes := 8, zero := (Try.t17.zero.getD undef), leaves := [.other] }
noncomputable def ti18 : TI := { und := Try.t18.desc, size := 1, bytes := 8, zero := (Try.t18.zero.getD undef), leaves := [.other] }
noncomputable def ti19 : TI := { und := Try.t18.desc, size := 1, bytes := 8, zero := (Try.t19.zero.getD undef), leaves := [.other] }
noncomputable def ti21 : TI := { und := .int .i32, size := 1, bytes := 4, zero := (Try.t21.zero.getD undef), leaves := [.int .i32] }
noncomputable def ti22 : TI := { und := Try.t22.desc, size := 1, bytes := 8, zero := (Try.t22.zero.getD undef), leaves := [.other] }
noncomputable def ti23 : TI := { und := .pointer 48, size := 1, bytes := 8, zero := (Try.t23.zero.getD undef), leaves := [.other] }
noncomputable def ti24 : TI := { und := Try.t24.desc, size := 1, bytes := 8, zero := (Try.t24.zero.getD undef), leaves := [.other] }
noncomputable def ti25 : TI := { und := Try.t25.desc, size := 1, bytes := 8, zero := (Try.t25.zero.getD undef), leaves := [.other] }
noncomputable def ti26 : TI := { und := Try.t26.desc, size := 1, bytes := 8, zero := (Try.t26.zero.getD undef), leaves := [.other] }
noncomputable def ti27 : TI := { und := Try.t26.desc, size := 1, bytes := 8, zero := (Try.t27.zero.getD undef), leaves := [.other] }
noncomputable def ti28 : TI := { und := Try.t28.desc, size := 1, bytes := 8, zero := (Try.t28.zero.getD undef), leaves := [.other] }
noncomputable def ti29 : TI := { und := Try.t29.desc, size := 5, bytes := 48, zero := (Try.t29.zero.getD undef), leaves := [.int .i64, .int .i64, .bool, .int .i64, .str] }
noncomputable def ti30 : TI := { und := Try.t29.desc, size := 5, bytes := 48, zero := (Try.t30.zero.getD undef), leaves := [.int .i64, .int .i64, .bool, .int .i64, .str] }
noncomputable def ti32 : TI := { und := Try.t32.desc, size := 1, bytes := 8, zero := (Try.t32.zero.getD undef), leaves := [.other] }
noncomputable def ti33 : TI := { und := Try.t33.desc, size := 1, bytes := 8, zero := (Try.t33.zero.getD undef), leaves := [.other] }
noncomputable def ti34 : TI := { und := .slice 30, size := 1, bytes := 24, zero := (Try.t34.zero.getD undef), leaves := [.other] }
noncomputable def ti35 : TI := { und := Try.t35.desc, size := 1, bytes := 8, zero := (Try.t35.zero.getD undef), leaves := [.other] }
noncomputable def ti36 : TI := { und := .slice 9, size := 1, bytes := 24, zero := (Try.t36.zero.getD undef), leaves := [.other] }
noncomputable def ti37 : TI := { und := .slice 65, size := 1, bytes := 24, zero := (Try.t37.zero.getD undef), leaves := [.other] }
noncomputable def ti39 : TI := { und := Try.t39.desc, size := 1, bytes := 8, zero := (Try.t39.zero.getD undef), leaves := [.other] }
noncomputable def ti40 : TI := { und := Try.t40.desc, size := 1, bytes := 8, zero := (Try.t40.zero.getD undef), leaves := [.other] }
noncomputable def ti41 : TI := { und := .slice 5, size := 1, bytes := 24, zero := (Try.t41.zero.getD undef), leaves := [.other] }
noncomputable def ti42 : TI := { und := Try.t42.desc, size := 1, bytes := 8, zero := (Try.t42.zero.getD undef), leaves := [.other] }
noncomputable def ti43 : TI := { und := .array 4 5, size := 4, bytes := 4, zero := (Try.t43.zero.getD undef), leaves := [.int .u8, .int .u8, .int .u8, .int .u8] }
noncomputable def ti44 : TI := { und := .int .u64, size := 1, bytes := 8, zero := (Try.t44.zero.getD undef), leaves := [.int .u64] }
noncomputable def ti45 : TI := { und := Try.t45.desc, size := 10, bytes := 48, zero := (Try.t45.zero.getD undef), leaves := [.bool, .int .i64, .int .i64, .bool, .int .u8, .int .u8, .int .u8, .int .u8, .int .u64, .bool] }
noncomputable def ti46 : TI := { und := Try.t45.desc, size := 10, bytes := 48, zero := (Try.t46.zero.getD undef), leaves := [.bool, .int .i64, .int .i64, .bool, .int .u8, .int .u8, .int .u8, .int .u8, .int .u64, .bool] }
noncomputable def ti47 : TI := { und := Try.t47.desc, size := 14, bytes := 88, zero := (Try.t47.zero.getD undef), leaves := [.bool, .int .i64, .str, .bool, .int .i64, .int .i64, .bool, .int .u8, .int .u8, .int .u8, .int .u8, .int .u64, .bool, .int .i64] }
noncomputable def ti48 : TI := { und := Try.t47.desc, size := 14, bytes := 88, zero := (Try.t48.zero.getD undef), leaves := [.bool, .int .i64, .str, .bool, .int .i64, .int .i64, .bool, .int .u8, .int .u8, .int .u8, .int .u8, .int .u64, .bool, .int .i64] }
noncomputable def ti49 : TI := { und := Try.t49.desc, size := 1, bytes := 8, zero := (Try.t49.zero.getD undef), leaves := [.other] }
noncomputable def ti50 : TI := { und := Try.t50.desc, size := 1, bytes := 8, zero := (Try.t50.zero.getD undef), leaves := [.other] }
noncomputable def ti51 : TI := { und := .slice 54, size := 1, bytes := 24, zero := (Try.t51.zero.getD undef), leaves := [.other] }
noncomputable def ti52 : TI := { und := .slice 3, size := 1, bytes := 24, zero := (Try.t52.zero.getD undef), leaves := [.other] }
noncomputable def ti53 : TI := { und := Try.t53.desc, size := 9, bytes := 48, zero := (Try.t53.zero.getD undef), leaves := [.bool, .int .i64, .int .i64, .bool, .int .u8, .int .u8, .int .u8, .int .u8, .str] }
noncomputable def ti54 : TI := { und := Try.t53.desc, size := 9, bytes := 48, zero := (Try.t54.zero.getD undef), leaves := [.bool, .int .i64, .int .i64, .bool, .int .u8, .int .u8, .int .u8, .int .u8, .str] }
noncomputable def ti55 : TI := { und := .int .i64, size := 1, bytes := 8, zero := (Try.t55.zero.getD undef), leaves := [.int .i64] }
noncomputable def ti57 : TI := { und := Try.t57.desc, size := 1, bytes := 8, zero := (Try.t57.zero.getD undef), leaves := [.other] }
noncomputable def ti58 : TI := { und := Try.t58.desc, size := 1, bytes := 8, zero := (Try.t58.zero.getD undef), leaves := [.other] }
noncomputable def ti59 : TI := { und := Try.t59.desc, size := 1, bytes := 8, zero := (Try.t59.zero.getD undef), leaves := [.other] }
noncomputable def ti60 : TI := { und := Try.t60.desc, size := 10, bytes := 40, zero := (Try.t60.zero.getD undef), leaves := [.bool, .bool, .bool, .int .i64, .int .i64, .int .u8, .int .u8, .int .u8, .int .u8, .int .u64] }
noncomputable def ti61 : TI := { und := Try.t60.desc, size := 10, bytes := 40, zero := (Try.t61.zero.getD undef), leaves := [.bool, .bool, .bool, .int .i64, .int .i64, .int .u8, .int .u8, .int .u8, .int .u8, .int .u64] }
noncomputable def ti63 : TI := { und := Try.t63.desc, size := 1, bytes := 8, zero := (Try.t63.zero.getD undef), leaves := [.other] }
noncomputable def ti64 : TI := { und := Try.t64.desc, size := 1, bytes := 8, zero := (Try.t64.zero.getD undef), leaves := [.other] }
noncomputable def ti65 : TI := { und := Try.t29.desc, size := 5, bytes := 48, zero := (Try.t65.zero.getD undef), leaves := [.int .i64, .int .i64, .bool, .int .i64, .str] }
noncomputable def ti66 : TI := { und := Try.t66.desc, size := 1, bytes := 8, zero := (Try.t66.zero.getD undef), leaves := [.other] }
noncomputable def ti67 : TI := { und := .int .u64, size := 1, bytes := 8, zero := (Try.t67.zero.getD undef), leaves := [.int .u64] }
noncomputable def ti68 : TI := { und := Try.t68.desc, size := 1, bytes := 8, zero := (Try.t68.zero.getD undef), leaves := [.other] }
noncomputable def ti70 : TI := { und := Try.t70.desc, size := 1, bytes := 8, zero := (Try.t70.zero.getD undef), leaves := [.other] }
noncomputable def ti71 : TI := { und := Try.t71.desc, size := 1, bytes := 8, zero := (Try.t71.zero.getD undef), leaves := [.other] }
noncomputable def ti72 : TI := { und := Try.t72.desc, size := 1, bytes := 8, zero := (Try.t72.zero.getD undef), leaves := [.other] }
noncomputable def ti73 : TI := { und := Try.t73.desc, size := 1, bytes := 8, zero := (Try.t73.zero.getD undef), leaves := [.other] }
noncomputable def ti74 : TI := { und := Try.t74.desc, size := 1, bytes := 8, zero := (Try.t74.zero.getD undef), leaves := [.other] }
noncomputable def ti75 : TI := { und := Try.t75.desc, size := 1, bytes := 8, zero := (Try.t75.zero.getD undef), leaves := [.other] }
noncomputable def ti76 : TI := { und := Try.t76.desc, size := 4, bytes := 40, zero := (Try.t76.zero.getD undef), leaves := [.other, .other, .other, .str] }
noncomputable def ti77 : TI := { und := Try.t76.desc, size := 4, bytes := 40, zero := (Try.t77.zero.getD undef), leaves := [.other, .other, .other, .str] }
noncomputable def ti78 : TI := { und := .array 0 16, size := 0, bytes := 0, zero := (Try.t78.zero.getD undef), leaves := [] }
noncomputable def ti79 : TI := { und := Try.t79.desc, size := 0, bytes := 0, zero := (Try.t79.zero.getD undef), leaves := [] }
noncomputable def ti80 : TI := { und := Try.t79.desc, size := 0, bytes := 0, zero := (Try.t80.zero.getD undef), leaves := [] }
noncomputable def ti81 : TI := { und := Try.t81.desc, size := 1, bytes := 8, zero := (Try.t81.zero.getD undef), leaves := [.other] }
noncomputable def ti82 : TI := { und := .int .u32, size := 1, bytes := 4, zero := (Try.t82.zero.getD undef), leaves := [.int .u32] }
noncomputable def ti83 : TI := { und := .int .u8, size := 1, bytes := 1, zero := (Try.t83.zero.getD undef), leaves := [.int .u8] }
noncomputable def ti84 : TI := { und := .int .u8, size := 1, bytes := 1, zero := (Try.t84.zero.getD undef), leaves := [.int .u8] }
noncomputable def ti85 : TI := { und := Try.t85.desc, size := 1, bytes := 8, zero := (Try.t85.zero.getD undef), leaves := [.other] }
noncomputable def ti86 : TI := { und := .pointer 5, size := 1, bytes := 8, zero := (Try.t86.zero.getD undef), leaves := [.other] }
noncomputable def ti87 : TI := { und := .int .i32, size := 1, bytes := 4, zero := (Try.t87.zero.getD undef), leaves := [.int .i32] }
noncomputable def ti88 : TI := { und := .int .i32, size := 1, bytes := 4, zero := (Try.t88.zero.getD undef), leaves := [.int .i32] }
noncomputable def ti89 : TI := { und := Try.t89.desc, size := 11, bytes := 48, zero := (Try.t89.zero.getD undef), leaves := [.int .u64, .int .u64, .int .u32, .int .u8, .int .u8, .int .u8, .int .u8, .other, .other, .int .i32, .int .i32] }
noncomputable def ti90 : TI := { und := Try.t89.desc, size := 11, bytes := 48, zero := (Try.t90.zero.getD undef), leaves := [.int .u64, .int .u64, .int .u32, .int .u8, .int .u8, .int .u8, .int .u8, .other, .other, .int .i32, .int .i32] }
noncomputable def tyT : Nat → Option TI
  | 1 => some ti1
  | 2 => some ti2
  | 3 => some ti3
  | 4 => some ti4
  | 5 => some ti5
  | 6 => some ti6
  | 7 => some ti7
  | 8 => some ti8
  | 9 => some ti9
  | 10 => some ti10
  | 11 => some ti11
  | 12 => some ti12
  | 13 => some ti13
  | 14 => some ti14
  | 15 => some ti15
  | 16 => some ti16
  | 17 => some ti17
  | 18 => some ti18
  | 19 => some ti19
  | 21 => some ti21
  | 22 => some ti22
  | 23 => some ti23
  | 24 => some ti24
  | 25 => some ti25
  | 26 => some ti26
  | 27 => some ti27
  | 28 => some ti28
  | 29 => some ti29
  | 30 => some ti30
  | 32 => some ti32
  | 33 => some ti33
  | 34 => some ti34
  | 35 => some ti35
  | 36 => some ti36
  | 37 => some ti37
  | 39 => some ti39
  | 40 => some ti40
  | 41 => some ti41
  | 42 => some ti42
  | 43 => some ti43
  | 44 => some ti44
  | 45 => some ti45
  | 46 => some ti46
  | 47 => some ti47
  | 48 => some ti48
  | 49 => some ti49
  | 50 => some ti50
  | 51 => some ti51
  | 52 => some ti52
  | 53 => some ti53
  | 54 => some ti54
  | 55 => some ti55
  | 57 => some ti57
  | 58 => some ti58
  | 59 => some ti59
  | 60 => some ti60
  | 61 => some ti61
  | 63 => some ti63
  | 64 => some ti64
  | 65 => some ti65
  | 66 => some ti66
  | 67 => some ti67
  | 68 => some ti68
  | 70 => some ti70
  | 71 => some ti71
  | 72 => some ti72
  | 73 => some ti73
  | 74 => some ti74
  | 75 => some ti75
  | 76 => some ti76
  | 77 => some ti77
  | 78 => some ti78
  | 79 => some ti79
  | 80 => some ti80
  | 81 => some ti81
  | 82 => some ti82
  | 83 => some ti83
  | 84 => some ti84
  | 85 => some ti85
  | 86 => some ti86
  | 87 => some ti87
  | 88 => some ti88
  | 89 => some ti89
  | 90 => some ti90
  | _ => none
theorem tyT_ok : ∀ t i, tyT t = some i → Try.prog.underlying t = some i.und ∧ ∃ inf, Try.prog.info? t = some inf ∧ inf.size = i.size ∧ inf.bytes = i.bytes ∧ inf.zero = some i.zero := by
  intro t i h
  unfold tyT at h
  split at h
  · cases h; exact ⟨by kernel_rfl, Try.t1, by kernel_rfl, by kernel_rfl, by kernel_rfl, by kernel_rfl⟩
  · cases h; exact ⟨by kernel_rfl, Try.t2, by kernel_rfl, by kernel_rfl, by kernel_rfl, by kernel_rfl⟩
  · cases h; exact ⟨by kernel_rfl, Try.t3, by kernel_rfl, by kernel_rfl, by kernel_rfl, by kernel_rfl⟩
  · cases h; exact ⟨by kernel_rfl, Try.t4, by kernel_rfl, by kernel_rfl, by kernel_rfl, by kernel_rfl⟩
  · cases h; exact ⟨by kernel_rfl, Try.t5, by kernel_rfl, by kernel_rfl, by kernel_rfl, by kernel_rfl⟩
  · cases h; exact ⟨by kernel_rfl, Try.t6, by kernel_rfl, by kernel_rfl, by kernel_rfl, by kernel_rfl⟩
  · cases h; exact ⟨by kernel_rfl, Try.t7, by kernel_rfl, by kernel_rfl, by kernel_rfl, by kernel_rfl⟩
  · cases h; exact ⟨by kernel_rfl, Try.t8, by kernel_rfl, by kernel_rfl, by kernel_rfl, by kernel_rfl⟩
  · cases h; exact ⟨by kernel_rfl, Try.t9, by kernel_rfl, by kernel_rfl, by kernel_rfl, by kernel_rfl⟩
  · cases h; exact ⟨by kernel_rfl, Try.t10, by kernel_rfl, by kernel_rfl, by kernel_rfl, by kernel_rfl⟩
  · cases h; exact ⟨by kernel_rfl, Try.t11, by kernel_rfl, by kernel_rfl, by kernel_rfl, by kernel_rfl⟩
  · cases h; exact ⟨by kernel_rfl, Try.t12, by kernel_rfl, by kernel_rfl, by kernel_rfl, by kernel_rfl⟩
  · cases h; exact ⟨by kernel_rfl, Try.t13, by kernel_rfl, by kernel_rfl, by kernel_rfl, by kernel_rfl⟩
  · cases h; exact ⟨by kernel_rfl, Try.t14, by kernel_rfl, by kernel_rfl, by kernel_rfl, by kernel_rfl⟩
  · cases h; exact ⟨by kernel_rfl, Try.t15, by kernel_rfl, by kernel_rfl, by kernel_rfl, by kernel_rfl⟩
  · cases h; exact ⟨by kernel_rfl, Try.t16, by kernel_rfl, by kernel_rfl, by kernel_rfl, by kernel_rfl⟩
  · cases h; exact ⟨by kernel_rfl, Try.t17, by kernel_rfl, by kernel_rfl, by kernel_rfl, by kernel_rfl⟩
  · cases h; exact ⟨by kernel_rfl, Try.t18, by kernel_rfl, by kernel_rfl, by kernel_rfl, by kernel_rfl⟩
  · cases h; exact ⟨by kernel_rfl, Try.t19, by kernel_rfl, by kernel_rfl, by kernel_rfl, by kernel_rfl⟩
  · cases h; exact ⟨by kernel_rfl, Try.t21, by kernel_rfl, by kernel_rfl, by kernel_rfl, by kernel_rfl⟩
  · cases h; exact ⟨by kernel_rfl, Try.t22, by kernel_rfl, by kernel_rfl, by kernel_rfl, by kernel_rfl⟩
  · cases h; exact ⟨by kernel_rfl, Try.t23, by kernel_rfl, by kernel_rfl, by kernel_rfl, by kernel_rfl⟩
  · cases h; exact ⟨by kernel_rfl, Try.t24, by kernel_rfl, by kernel_rfl, by kernel_rfl, by kernel_rfl⟩
  · cases h; exact ⟨by kernel_rfl, Try.t25, by kernel_rfl, by kernel_rfl, by kernel_rfl, by kernel_rfl⟩
  · cases h; exact ⟨by kernel_rfl, Try.t26, by kernel_rfl, by kernel_rfl, by kernel_rfl, by kernel_rfl⟩
  · cases h; exact ⟨by kernel_rfl, Try.t27, by kernel_rfl, by kernel_rfl, by kernel_rfl, by kernel_rfl⟩
  · cases h; exact ⟨by kernel_rfl, Try.t28, by kernel_rfl, by kernel_rfl, by kernel_rfl, by kernel_rfl⟩
  · cases h; exact ⟨by kernel_rfl, Try.t29, by kernel_rfl, by kernel_rfl, by kernel_rfl, by kernel_rfl⟩
  · cases h; exact ⟨by kernel_rfl, Try.t30, by kernel_rfl, by kernel_rfl, by kernel_rfl, by kernel_rfl⟩
  · cases h; exact ⟨by kernel_rfl, Try.t32, by kernel_rfl, by kernel_rfl, by kernel_rfl, by kernel_rfl⟩
  · cases h; exact ⟨by kernel_rfl, Try.t33, by kernel_rfl, by kernel_rfl, by kernel_rfl, by kernel_rfl⟩
  · cases h; exact ⟨by kernel_rfl, Try.t34, by kernel_rfl, by kernel_rfl, by kernel_rfl, by kernel_rfl⟩
  · cases h; exact ⟨by kernel_rfl, Try.t35, by kernel_rfl, by kernel_rfl, by kernel_rfl, by kernel_rfl⟩
  · cases h; exact ⟨by kernel_rfl, Try.t36, by kernel_rfl, by kernel_rfl, by kernel_rfl, by kernel_rfl⟩
  · cases h; exact ⟨by kernel_rfl, Try.t37, by kernel_rfl, by kernel_rfl, by kernel_rfl, by kernel_rfl⟩
  · cases h; exact ⟨by kernel_rfl, Try.t39, by kernel_rfl, by kernel_rfl, by kernel_rfl, by kernel_rfl⟩
  · cases h; exact ⟨by kernel_rfl, Try.t40, by kernel_rfl, by kernel_rfl, by kernel_rfl, by kernel_rfl⟩
  · cases h; exact ⟨by kernel_rfl, Try.t41, by kernel_rfl, by kernel_rfl, by kernel_rfl, by kernel_rfl⟩
  · cases h; exact ⟨by kernel_rfl, Try.t42, by kernel_rfl, by kernel_rfl, by kernel_rfl, by kernel_rfl⟩
  · cases h; exact ⟨by kernel_rfl, Try.t43, by kernel_rfl, by kernel_rfl, by kernel_rfl, by kernel_rfl⟩
  · cases h; exact ⟨by kernel_rfl, Try.t44, by kernel_rfl, by kernel_rfl, by kernel_rfl, by kernel_rfl⟩
  · cases h; exact ⟨by kernel_rfl, Try.t45, by kernel_rfl, by kernel_rfl, by kernel_rfl, by kernel_rfl⟩
  · cases h; exact ⟨by kernel_rfl, Try.t46, by kernel_rfl, by kernel_rfl, by kernel_rfl, by kernel_rfl⟩
  · cases h; exact ⟨by kernel_rfl, Try.t47, by kernel_rfl, by kernel_rfl, by kernel_rfl, by kernel_rfl⟩
  · cases h; exact ⟨by kernel_rfl, Try.t48, by kernel_rfl, by kernel_rfl, by kernel_rfl, by kernel_rfl⟩
  · cases h; exact ⟨by kernel_rfl, Try.t49, by kernel_rfl, by kernel_rfl, by kernel_rfl, by kernel_rfl⟩
  · cases h; exact ⟨by kernel_rfl, Try.t50, by kernel_rfl, by kernel_rfl, by kernel_rfl, by kernel_rfl⟩
  · cases h; exact ⟨by kernel_rfl, Try.t51, by kernel_rfl, by kernel_rfl, by kernel_rfl, by kernel_rfl⟩
  · cases h; exact ⟨by kernel_rfl, Try.t52, by kernel_rfl, by kernel_rfl, by kernel_rfl, by kernel_rfl⟩
  · cases h; exact ⟨by kernel_rfl, Try.t53, by kernel_rfl, by kernel_rfl, by kernel_rfl, by kernel_rfl⟩
  · cases h; exact ⟨by kernel_rfl, Try.t54, by kernel_rfl, by kernel_rfl, by kernel_rfl, by kernel_rfl⟩
  · cases h; exact ⟨by kernel_rfl, Try.t55, by kernel_rfl, by kernel_rfl, by kernel_rfl, by kernel_rfl⟩
  · cases h; exact ⟨by kernel_rfl, Try.t57, by kernel_rfl, by kernel_rfl, by kernel_rfl, by kernel_rfl⟩
  · cases h; exact ⟨by kernel_rfl, Try.t58, by kernel_rfl, by kernel_rfl, by kernel_rfl, by kernel_rfl⟩
  · cases h; exact ⟨by kernel_rfl, Try.t59, by kernel_rfl, by kernel_rfl, by kernel_rfl, by kernel_rfl⟩
  · cases h; exact ⟨by kernel_rfl, Try.t60, by kernel_rfl, by kernel_rfl, by kernel_rfl, by kernel_rfl⟩
  · cases h; exact ⟨by kernel_rfl, Try.t61, by kernel_rfl, by kernel_rfl, by kernel_rfl, by kernel_rfl⟩
  · cases h; exact ⟨by kernel_rfl, Try.t63, by kernel_rfl, by kernel_rfl, by kernel_rfl, by kernel_rfl⟩
  · cases h; exact ⟨by kernel_rfl, Try.t64, by kernel_rfl, by kernel_rfl, by kernel_rfl, by kernel_rfl⟩
  · cases h; exact ⟨by kernel_rfl, Try.t65, by kernel_rfl, by kernel_rfl, by kernel_rfl, by kernel_rfl⟩
  · cases h; exact ⟨by kernel_rfl, Try.t66, by kernel_rfl, by kernel_rfl, by kernel_rfl, by kernel_rfl⟩
  · cases h; exact ⟨by kernel_rfl, Try.t67, by kernel_rfl, by kernel_rfl, by kernel_rfl, by kernel_rfl⟩
  · cases h; exact ⟨by kernel_rfl, Try.t68, by kernel_rfl, by kernel_rfl, by kernel_rfl, by kernel_rfl⟩
  · cases h; exact ⟨by kernel_rfl, Try.t70, by kernel_rfl, by kernel_rfl, by kernel_rfl, by kernel_rfl⟩
  · cases h; exact ⟨by kernel_rfl, Try.t71, by kernel_rfl, by kernel_rfl, by kernel_rfl, by kernel_rfl⟩
  · cases h; exact ⟨by kernel_rfl, Try.t72, by kernel_rfl, by kernel_rfl, by kernel_rfl, by kernel_rfl⟩
  · cases h; exact ⟨by kernel_rfl, Try.t73, by kernel_rfl, by kernel_rfl, by kernel_rfl, by kernel_rfl⟩
  · cases h; exact ⟨by kernel_rfl, Try.t74, by kernel_rfl, by kernel_rfl, by kernel_rfl, by kernel_rfl⟩
  · cases h; exact ⟨by kernel_rfl, Try.t75, by kernel_rfl, by kernel_rfl, by kernel_rfl, by kernel_rfl⟩
  · cases h; exact ⟨by kernel_rfl, Try.t76, by kernel_rfl, by kernel_rfl, by kernel_rfl, by kernel_rfl⟩
  · cases h; exact ⟨by kernel_rfl, Try.t77, by kernel_rfl, by kernel_rfl, by kernel_rfl, by kernel_rfl⟩
  · cases h; exact ⟨by kernel_rfl, Try.t78, by kernel_rfl, by kernel_rfl, by kernel_rfl, by kernel_rfl⟩
  · cases h; exact ⟨by kernel_rfl, Try.t79, by kernel_rfl, by kernel_rfl, by kernel_rfl, by kernel_rfl⟩
  · cases h; exact ⟨by kernel_rfl, Try.t80, by kernel_rfl, by kernel_rfl, by kernel_rfl, by kernel_rfl⟩
  · cases h; exact ⟨by kernel_rfl, Try.t81, by kernel_rfl, by kernel_rfl, by kernel_rfl, by kernel_rfl⟩
  · cases h; exact ⟨by kernel_rfl, Try.t82, by kernel_rfl, by kernel_rfl, by kernel_rfl, by kernel_rfl⟩
  · cases h; exact ⟨by kernel_rfl, Try.t83, by kernel_rfl, by kernel_rfl, by kernel_rfl, by kernel_rfl⟩
  · cases h; exact ⟨by kernel_rfl, Try.t84, by kernel_rfl, by kernel_rfl, by kernel_rfl, by kernel_rfl⟩
  · cases h; exact ⟨by kernel_rfl, Try.t85, by kernel_rfl, by kernel_rfl, by kernel_rfl, by kernel_rfl⟩
  · cases h; exact ⟨by kernel_rfl, Try.t86, by kernel_rfl, by kernel_rfl, by kernel_rfl, by kernel_rfl⟩
  · cases h; exact ⟨by kernel_rfl, Try.t87, by kernel_rfl, by kernel_rfl, by kernel_rfl, by kernel_rfl⟩
  · cases h; exact ⟨by kernel_rfl, Try.t88, by kernel_rfl, by kernel_rfl, by kernel_rfl, by kernel_rfl⟩
  · cases h; exact ⟨by kernel_rfl, Try.t89, by kernel_rfl, by kernel_rfl, by kernel_rfl, by kernel_rfl⟩
  · cases h; exact ⟨by kernel_rfl, Try.t90, by kernel_rfl, by kernel_rfl, by kernel_rfl, by kernel_rfl⟩
  · cases h
def eqT : Nat → Bool
  | 30 => true
  | 43 => true
  | 65 => true
  | _ => false
theorem eqT_ok : ∀ t, eqT t = true → Try.prog.stoodInHeld t = false ∧ Try.prog.eqGuardType Try.prog.depth t = false := by
  intro t h
  unfold eqT at h
  split at h
  · exact ⟨by kernel_rfl, by kernel_rfl⟩
  · exact ⟨by kernel_rfl, by kernel_rfl⟩
  · exact ⟨by kernel_rfl, by kernel_rfl⟩
  · cases h
noncomputable def E : Env := { P := Try.prog, fn := fnT, ty := tyT, fnOk := fun f F h => (fnT_ok f F h).1, fnName := fun f F h => (fnT_ok f F h).2, tyOk := tyT_ok, mixed := by kernel_rfl, eqT := eqT, eqOk := eqT_ok }
end Go.Proofs.Ytfmcohbagbafmaa
