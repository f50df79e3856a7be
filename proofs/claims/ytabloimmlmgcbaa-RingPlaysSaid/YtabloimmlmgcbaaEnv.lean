/-
  The tables of the abstract machine over this seat's loaded program: which functions and types it knows, each proved to be the program's own.
-/
import Derived.Test.YtabloimmlmgcbaaProg
import Derived.Test.YtabloimmlmgcbaaAmDef
import Derived.KernelRfl
namespace Go.Proofs.Ytabloimmlmgcbaa
open Go.Am
def fnP (f : Nat) (F : Func) : Prop := Try.prog.funcs[f]? = some F ∧ (F.name == "runtime.NumGoroutine") = false
theorem fn3 : fnP 3 Try.f3 := ⟨Try.func3, by kernel_rfl⟩
theorem fn4 : fnP 4 Try.f4 := ⟨Try.func4, by kernel_rfl⟩
theorem fn5 : fnP 5 Try.f5 := ⟨Try.func5, by kernel_rfl⟩
theorem fn6 : fnP 6 Try.f6 := ⟨Try.func6, by kernel_rfl⟩
theorem fn7 : fnP 7 Try.f7 := ⟨Try.func7, by kernel_rfl⟩
theorem fn8 : fnP 8 Try.f8 := ⟨Try.func8, by kernel_rfl⟩
theorem fn9 : fnP 9 Try.f9 := ⟨Try.func9, by kernel_rfl⟩
theorem fn10 : fnP 10 Try.f10 := ⟨Try.func10, by kernel_rfl⟩
theorem fn11 : fnP 11 Try.f11 := ⟨Try.func11, by kernel_rfl⟩
theorem fn12 : fnP 12 Try.f12 := ⟨Try.func12, by kernel_rfl⟩
theorem fn13 : fnP 13 Try.f13 := ⟨Try.func13, by kernel_rfl⟩
theorem fn14 : fnP 14 Try.f14 := ⟨Try.func14, by kernel_rfl⟩
theorem fn15 : fnP 15 Try.f15 := ⟨Try.func15, by kernel_rfl⟩
theorem fn16 : fnP 16 Try.f16 := ⟨Try.func16, by kernel_rfl⟩
theorem fn17 : fnP 17 Try.f17 := ⟨Try.func17, by kernel_rfl⟩
theorem fn18 : fnP 18 Try.f18 := ⟨Try.func18, by kernel_rfl⟩
theorem fn19 : fnP 19 Try.f19 := ⟨Try.func19, by kernel_rfl⟩
theorem fn20 : fnP 20 Try.f20 := ⟨Try.func20, by kernel_rfl⟩
theorem fn21 : fnP 21 Try.f21 := ⟨Try.func21, by kernel_rfl⟩
theorem fn22 : fnP 22 Try.f22 := ⟨Try.func22, by kernel_rfl⟩
theorem fn23 : fnP 23 Try.f23 := ⟨Try.func23, by kernel_rfl⟩
theorem fn24 : fnP 24 Try.f24 := ⟨Try.func24, by kernel_rfl⟩
theorem fn25 : fnP 25 Try.f25 := ⟨Try.func25, by kernel_rfl⟩
theorem fn26 : fnP 26 Try.f26 := ⟨Try.func26, by kernel_rfl⟩
theorem fn27 : fnP 27 Try.f27 := ⟨Try.func27, by kernel_rfl⟩
theorem fn28 : fnP 28 Try.f28 := ⟨Try.func28, by kernel_rfl⟩
theorem fn29 : fnP 29 Try.f29 := ⟨Try.func29, by kernel_rfl⟩
theorem fn30 : fnP 30 Try.f30 := ⟨Try.func30, by kernel_rfl⟩
theorem fn31 : fnP 31 Try.f31 := ⟨Try.func31, by kernel_rfl⟩
theorem fn32 : fnP 32 Try.f32 := ⟨Try.func32, by kernel_rfl⟩
theorem fn33 : fnP 33 Try.f33 := ⟨Try.func33, by kernel_rfl⟩
theorem fn34 : fnP 34 Try.f34 := ⟨Try.func34, by kernel_rfl⟩
theorem fn35 : fnP 35 Try.f35 := ⟨Try.func35, by kernel_rfl⟩
theorem fn36 : fnP 36 Try.f36 := ⟨Try.func36, by kernel_rfl⟩
theorem fn37 : fnP 37 Try.f37 := ⟨Try.func37, by kernel_rfl⟩
theorem fn38 : fnP 38 Try.f38 := ⟨Try.func38, by kernel_rfl⟩
theorem fn39 : fnP 39 Try.f39 := ⟨Try.func39, by kernel_rfl⟩
theorem fn40 : fnP 40 Try.f40 := ⟨Try.func40, by kernel_rfl⟩
theorem fn41 : fnP 41 Try.f41 := ⟨Try.func41, by kernel_rfl⟩
theorem fn42 : fnP 42 Try.f42 := ⟨Try.func42, by kernel_rfl⟩
theorem fn43 : fnP 43 Try.f43 := ⟨Try.func43, by kernel_rfl⟩
theorem fn44 : fnP 44 Try.f44 := ⟨Try.func44, by kernel_rfl⟩
theorem fn45 : fnP 45 Try.f45 := ⟨Try.func45, by kernel_rfl⟩
theorem fn46 : fnP 46 Try.f46 := ⟨Try.func46, by kernel_rfl⟩
theorem fn47 : fnP 47 Try.f47 := ⟨Try.func47, by kernel_rfl⟩
theorem fn48 : fnP 48 Try.f48 := ⟨Try.func48, by kernel_rfl⟩
theorem fn49 : fnP 49 Try.f49 := ⟨Try.func49, by kernel_rfl⟩
theorem fn50 : fnP 50 Try.f50 := ⟨Try.func50, by kernel_rfl⟩
theorem fn51 : fnP 51 Try.f51 := ⟨Try.func51, by kernel_rfl⟩
theorem fn52 : fnP 52 Try.f52 := ⟨Try.func52, by kernel_rfl⟩
theorem fn53 : fnP 53 Try.f53 := ⟨Try.func53, by kernel_rfl⟩
theorem fn54 : fnP 54 Try.f54 := ⟨Try.func54, by kernel_rfl⟩
theorem fn55 : fnP 55 Try.f55 := ⟨Try.func55, by kernel_rfl⟩
noncomputable def fnTTree : Tr Func := (.node none (.node none (.node (some Try.f3) (.node (some Try.f7) (.node (some Try.f15) (.node (some Try.f31) .leaf .leaf) (.node (some Try.f47) .leaf .leaf)) (.node (some Try.f23) (.node (some Try.f39) .leaf .leaf) (.node (some Try.f55) .leaf .leaf))) (.node (some Try.f11) (.node (some Try.f19) (.node (some Try.f35) .leaf .leaf) (.node (some Try.f51) .leaf .leaf)) (.node (some Try.f27) (.node (some Try.f43) .leaf .leaf) .leaf))) (.node (some Try.f5) (.node (some Try.f9) (.node (some Try.f17) (.node (some Try.f33) .leaf .leaf) (.node (some Try.f49) .leaf .leaf)) (.node (some Try.f25) (.node (some Try.f41) .leaf .leaf) .leaf)) (.node (some Try.f13) (.node (some Try.f21) (.node (some Try.f37) .leaf .leaf) (.node (some Try.f53) .leaf .leaf)) (.node (some Try.f29) (.node (some Try.f45) .leaf .leaf) .leaf)))) (.node none (.node (some Try.f4) (.node (some Try.f8) (.node (some Try.f16) (.node (some Try.f32) .leaf .leaf) (.node (some Try.f48) .leaf .leaf)) (.node (some Try.f24) (.node (some Try.f40) .leaf .leaf) .leaf)) (.node (some Try.f12) (.node (some Try.f20) (.node (some Try.f36) .leaf .leaf) (.node (some Try.f52) .leaf .leaf)) (.node (some Try.f28) (.node (some Try.f44) .leaf .leaf) .leaf))) (.node (some Try.f6) (.node (some Try.f10) (.node (some Try.f18) (.node (some Try.f34) .leaf .leaf) (.node (some Try.f50) .leaf .leaf)) (.node (some Try.f26) (.node (some Try.f42) .leaf .leaf) .leaf)) (.node (some Try.f14) (.node (some Try.f22) (.node (some Try.f38) .leaf .leaf) (.node (some Try.f54) .leaf .leaf)) (.node (some Try.f30) (.node (some Try.f46) .leaf .leaf) .leaf)))))
noncomputable def fnT : Nat → Option Func := fnTTree.get
theorem fnT_all : fnTTree.All fnP := ⟨Tr.all0, ⟨Tr.all0, ⟨Tr.all1 (fn3), ⟨Tr.all1 (fn7), ⟨Tr.all1 (fn15), ⟨Tr.all1 (fn31), trivial, trivial⟩, ⟨Tr.all1 (fn47), trivial, trivial⟩⟩, ⟨Tr.all1 (fn23), ⟨Tr.all1 (fn39), trivial, trivial⟩, ⟨Tr.all1 (fn55), trivial, trivial⟩⟩⟩, ⟨Tr.all1 (fn11), ⟨Tr.all1 (fn19), ⟨Tr.all1 (fn35), trivial, trivial⟩, ⟨Tr.all1 (fn51), trivial, trivial⟩⟩, ⟨Tr.all1 (fn27), ⟨Tr.all1 (fn43), trivial, trivial⟩, trivial⟩⟩⟩, ⟨Tr.all1 (fn5), ⟨Tr.all1 (fn9), ⟨Tr.all1 (fn17), ⟨Tr.all1 (fn33), trivial, trivial⟩, ⟨Tr.all1 (fn49), trivial, trivial⟩⟩, ⟨Tr.all1 (fn25), ⟨Tr.all1 (fn41), trivial, trivial⟩, trivial⟩⟩, ⟨Tr.all1 (fn13), ⟨Tr.all1 (fn21), ⟨Tr.all1 (fn37), trivial, trivial⟩, ⟨Tr.all1 (fn53), trivial, trivial⟩⟩, ⟨Tr.all1 (fn29), ⟨Tr.all1 (fn45), trivial, trivial⟩, trivial⟩⟩⟩⟩, ⟨Tr.all0, ⟨Tr.all1 (fn4), ⟨Tr.all1 (fn8), ⟨Tr.all1 (fn16), ⟨Tr.all1 (fn32), trivial, trivial⟩, ⟨Tr.all1 (fn48), trivial, trivial⟩⟩, ⟨Tr.all1 (fn24), ⟨Tr.all1 (fn40), trivial, trivial⟩, trivial⟩⟩, ⟨Tr.all1 (fn12), ⟨Tr.all1 (fn20), ⟨Tr.all1 (fn36), trivial, trivial⟩, ⟨Tr.all1 (fn52), trivial, trivial⟩⟩, ⟨Tr.all1 (fn28), ⟨Tr.all1 (fn44), trivial, trivial⟩, trivial⟩⟩⟩, ⟨Tr.all1 (fn6), ⟨Tr.all1 (fn10), ⟨Tr.all1 (fn18), ⟨Tr.all1 (fn34), trivial, trivial⟩, ⟨Tr.all1 (fn50), trivial, trivial⟩⟩, ⟨Tr.all1 (fn26), ⟨Tr.all1 (fn42), trivial, trivial⟩, trivial⟩⟩, ⟨Tr.all1 (fn14), ⟨Tr.all1 (fn22), ⟨Tr.all1 (fn38), trivial, trivial⟩, ⟨Tr.all1 (fn54), trivial, trivial⟩⟩, ⟨Tr.all1 (fn30), ⟨Tr.all1 (fn46), trivial, trivial⟩, trivial⟩⟩⟩⟩⟩
theorem fnT_ok : ∀ n a, fnT n = some a → fnP n a := Tr.get_all fnT_all
noncomputable def ti1 : TI := { und := Try.t1.desc, size := 1, bytes := 8, zero := (Try.t1.zero.getD undef), leaves := [.other] }
noncomputable def ti2 : TI := { und := .int .i64, size := 1, bytes := 8, zero := (Try.t2.zero.getD undef), leaves := [.int .i64] }
noncomputable def ti3 : TI := { und := .int .i64, size := 1, bytes := 8, zero := (Try.t3.zero.getD undef), leaves := [.int .i64] }
noncomputable def ti4 : TI := { und := .bool, size := 1, bytes := 1, zero := (Try.t4.zero.getD undef), leaves := [.bool] }
noncomputable def ti5 : TI := { und := .int .u8, size := 1, bytes := 1, zero := (Try.t5.zero.getD undef), leaves := [.int .u8] }
noncomputable def ti6 : TI := { und := .int .u8, size := 1, bytes := 1, zero := (Try.t6.zero.getD undef), leaves := [.int .u8] }
noncomputable def ti7 : TI := { und := Try.t7.desc, size := 4, bytes := 24, zero := (Try.t7.zero.getD undef), leaves := [.int .i64, .int .i64, .bool, .int .u8] }
noncomputable def ti8 : TI := { und := Try.t7.desc, size := 4, bytes := 24, zero := (Try.t8.zero.getD undef), leaves := [.int .i64, .int .i64, .bool, .int .u8] }
noncomputable def ti9 : TI := { und := .string, size := 1, bytes := 16, zero := (Try.t9.zero.getD undef), leaves := [.str] }
noncomputable def ti10 : TI := { und := .string, size := 1, bytes := 16, zero := (Try.t10.zero.getD undef), leaves := [.str] }
noncomputable def ti11 : TI := { und := .string, size := 1, bytes := 16, zero := (Try.t11.zero.getD undef), leaves := [.str] }
noncomputable def ti12 : TI := { und := .int .u64, size := 1, bytes := 8, zero := (Try.t12.zero.getD undef), leaves := [.int .u64] }
noncomputable def ti13 : TI := { und := Try.t13.desc, size := 2, bytes := 24, zero := (Try.t13.zero.getD undef), leaves := [.str, .int .u64] }
noncomputable def ti14 : TI := { und := Try.t13.desc, size := 2, bytes := 24, zero := (Try.t14.zero.getD undef), leaves := [.str, .int .u64] }
noncomputable def ti15 : TI := { und := .pointer 98, size := 1, bytes := 8, zero := (Try.t15.zero.getD undef), leaves := [.other] }
noncomputable def ti16 : TI := { und := .pointer 101, size := 1, bytes := 8, zero := (Try.t16.zero.getD undef), leaves := [.other] }
noncomputable def ti17 : TI := { und := .pointer 110, size := 1, bytes := 8, zero := (Try.t17.zero.getD undef), leaves := [.other] }
noncomputable def ti18 : TI := { und := Try.t18.desc, size := 1, bytes := 8, zero := (Try.t18.zero.getD undef), leaves := [.other] }
noncomputable def ti19 : TI := { und := Try.t18.desc, size := 1, bytes := 8, zero := (Try.t19.zero.getD undef), leaves := [.other] }
noncomputable def ti21 : TI := { und := .int .i32, size := 1, bytes := 4, zero := (Try.t21.zero.getD undef), leaves := [.int .i32] }
noncomputable def ti22 : TI := { und := .slice 28, size := 1, bytes := 24, zero := (Try.t22.zero.getD undef), leaves := [.other] }
noncomputable def ti23 : TI := { und := Try.t23.desc, size := 1, bytes := 8, zero := (Try.t23.zero.getD undef), leaves := [.other] }
noncomputable def ti24 : TI := { und := .pointer 84, size := 1, bytes := 8, zero := (Try.t24.zero.getD undef), leaves := [.other] }
noncomputable def ti25 : TI := { und := .int .i64, size := 1, bytes := 8, zero := (Try.t25.zero.getD undef), leaves := [.int .i64] }
noncomputable def ti27 : TI := { und := Try.t27.desc, size := 1, bytes := 8, zero := (Try.t27.zero.getD undef), leaves := [.other] }
noncomputable def ti28 : TI := { und := .int .u16, size := 1, bytes := 2, zero := (Try.t28.zero.getD undef), leaves := [.int .u16] }
noncomputable def ti29 : TI := { und := Try.t29.desc, size := 1, bytes := 8, zero := (Try.t29.zero.getD undef), leaves := [.other] }
noncomputable def ti31 : TI := { und := Try.t31.desc, size := 1, bytes := 8, zero := (Try.t31.zero.getD undef), leaves := [.other] }
noncomputable def ti32 : TI := { und := Try.t32.desc, size := 1, bytes := 8, zero := (Try.t32.zero.getD undef), leaves := [.other] }
noncomputable def ti33 : TI := { und := Try.t32.desc, size := 1, bytes := 8, zero := (Try.t33.zero.getD undef), leaves := [.other] }
noncomputable def ti34 : TI := { und := Try.t34.desc, size := 1, bytes := 8, zero := (Try.t34.zero.getD undef), leaves := [.other] }
noncomputable def ti35 : TI := { und := Try.t35.desc, size := 1, bytes := 8, zero := (Try.t35.zero.getD undef), leaves := [.other] }
noncomputable def ti36 : TI := { und := Try.t36.desc, size := 1, bytes := 8, zero := (Try.t36.zero.getD undef), leaves := [.other] }
noncomputable def ti37 : TI := { und := Try.t37.desc, size := 1, bytes := 8, zero := (Try.t37.zero.getD undef), leaves := [.other] }
noncomputable def ti38 : TI := { und := .pointer 89, size := 1, bytes := 8, zero := (Try.t38.zero.getD undef), leaves := [.other] }
noncomputable def ti40 : TI := { und := Try.t40.desc, size := 1, bytes := 8, zero := (Try.t40.zero.getD undef), leaves := [.other] }
noncomputable def ti41 : TI := { und := Try.t41.desc, size := 2, bytes := 32, zero := (Try.t41.zero.getD undef), leaves := [.str, .str] }
noncomputable def ti42 : TI := { und := Try.t41.desc, size := 2, bytes := 32, zero := (Try.t42.zero.getD undef), leaves := [.str, .str] }
noncomputable def ti43 : TI := { und := Try.t43.desc, size := 1, bytes := 8, zero := (Try.t43.zero.getD undef), leaves := [.other] }
noncomputable def ti45 : TI := { und := Try.t45.desc, size := 1, bytes := 8, zero := (Try.t45.zero.getD undef), leaves := [.other] }
noncomputable def ti46 : TI := { und := Try.t46.desc, size := 1, bytes := 8, zero := (Try.t46.zero.getD undef), leaves := [.other] }
noncomputable def ti47 : TI := { und := Try.t46.desc, size := 1, bytes := 8, zero := (Try.t47.zero.getD undef), leaves := [.other] }
noncomputable def ti48 : TI := { und := Try.t48.desc, size := 1, bytes := 8, zero := (Try.t48.zero.getD undef), leaves := [.other] }
noncomputable def ti49 : TI := { und := Try.t49.desc, size := 1, bytes := 8, zero := (Try.t49.zero.getD undef), leaves := [.other] }
noncomputable def ti50 : TI := { und := .pointer 70, size := 1, bytes := 8, zero := (Try.t50.zero.getD undef), leaves := [.other] }
noncomputable def ti52 : TI := { und := Try.t52.desc, size := 1, bytes := 8, zero := (Try.t52.zero.getD undef), leaves := [.other] }
noncomputable def ti53 : TI := { und := .slice 64, size := 1, bytes := 24, zero := (Try.t53.zero.getD undef), leaves := [.other] }
noncomputable def ti54 : TI := { und := Try.t54.desc, size := 1, bytes := 8, zero := (Try.t54.zero.getD undef), leaves := [.other] }
noncomputable def ti55 : TI := { und := .pointer 92, size := 1, bytes := 8, zero := (Try.t55.zero.getD undef), leaves := [.other] }
noncomputable def ti57 : TI := { und := Try.t57.desc, size := 1, bytes := 8, zero := (Try.t57.zero.getD undef), leaves := [.other] }
noncomputable def ti58 : TI := { und := .pointer 61, size := 1, bytes := 8, zero := (Try.t58.zero.getD undef), leaves := [.other] }
noncomputable def ti59 : TI := { und := .slice 9, size := 1, bytes := 24, zero := (Try.t59.zero.getD undef), leaves := [.other] }
noncomputable def ti60 : TI := { und := Try.t60.desc, size := 2, bytes := 32, zero := (Try.t60.zero.getD undef), leaves := [.int .i64, .other] }
noncomputable def ti61 : TI := { und := Try.t60.desc, size := 2, bytes := 32, zero := (Try.t61.zero.getD undef), leaves := [.int .i64, .other] }
noncomputable def ti62 : TI := { und := Try.t62.desc, size := 1, bytes := 8, zero := (Try.t62.zero.getD undef), leaves := [.other] }
noncomputable def ti63 : TI := { und := Try.t63.desc, size := 3, bytes := 32, zero := (Try.t63.zero.getD undef), leaves := [.int .i64, .int .i64, .str] }
noncomputable def ti64 : TI := { und := Try.t63.desc, size := 3, bytes := 32, zero := (Try.t64.zero.getD undef), leaves := [.int .i64, .int .i64, .str] }
noncomputable def ti66 : TI := { und := Try.t66.desc, size := 1, bytes := 8, zero := (Try.t66.zero.getD undef), leaves := [.other] }
noncomputable def ti67 : TI := { und := Try.t67.desc, size := 1, bytes := 8, zero := (Try.t67.zero.getD undef), leaves := [.other] }
noncomputable def ti68 : TI := { und := .slice 3, size := 1, bytes := 24, zero := (Try.t68.zero.getD undef), leaves := [.other] }
noncomputable def ti69 : TI := { und := Try.t69.desc, size := 4, bytes := 48, zero := (Try.t69.zero.getD undef), leaves := [.int .i64, .int .i64, .int .i64, .other] }
noncomputable def ti70 : TI := { und := Try.t69.desc, size := 4, bytes := 48, zero := (Try.t70.zero.getD undef), leaves := [.int .i64, .int .i64, .int .i64, .other] }
noncomputable def ti72 : TI := { und := Try.t72.desc, size := 1, bytes := 8, zero := (Try.t72.zero.getD undef), leaves := [.other] }
noncomputable def ti73 : TI := { und := Try.t73.desc, size := 1, bytes := 8, zero := (Try.t73.zero.getD undef), leaves := [.other] }
noncomputable def ti74 : TI := { und := Try.t74.desc, size := 1, bytes := 8, zero := (Try.t74.zero.getD undef), leaves := [.other] }
noncomputable def ti75 : TI := { und := Try.t74.desc, size := 1, bytes := 8, zero := (Try.t75.zero.getD undef), leaves := [.other] }
noncomputable def ti76 : TI := { und := Try.t76.desc, size := 1, bytes := 8, zero := (Try.t76.zero.getD undef), leaves := [.other] }
noncomputable def ti77 : TI := { und := Try.t77.desc, size := 1, bytes := 8, zero := (Try.t77.zero.getD undef), leaves := [.other] }
noncomputable def ti78 : TI := { und := Try.t78.desc, size := 1, bytes := 8, zero := (Try.t78.zero.getD undef), leaves := [.other] }
noncomputable def ti79 : TI := { und := Try.t79.desc, size := 1, bytes := 8, zero := (Try.t79.zero.getD undef), leaves := [.other] }
noncomputable def ti80 : TI := { und := Try.t80.desc, size := 1, bytes := 8, zero := (Try.t80.zero.getD undef), leaves := [.other] }
noncomputable def ti81 : TI := { und := Try.t81.desc, size := 1, bytes := 8, zero := (Try.t81.zero.getD undef), leaves := [.other] }
noncomputable def ti82 : TI := { und := Try.t82.desc, size := 1, bytes := 8, zero := (Try.t82.zero.getD undef), leaves := [.other] }
noncomputable def ti83 : TI := { und := Try.t83.desc, size := 4, bytes := 48, zero := (Try.t83.zero.getD undef), leaves := [.int .i64, .int .i64, .int .i64, .other] }
noncomputable def ti84 : TI := { und := Try.t83.desc, size := 4, bytes := 48, zero := (Try.t84.zero.getD undef), leaves := [.int .i64, .int .i64, .int .i64, .other] }
noncomputable def ti85 : TI := { und := Try.t85.desc, size := 1, bytes := 8, zero := (Try.t85.zero.getD undef), leaves := [.other] }
noncomputable def ti86 : TI := { und := Try.t86.desc, size := 1, bytes := 8, zero := (Try.t86.zero.getD undef), leaves := [.other] }
noncomputable def ti87 : TI := { und := .slice 42, size := 1, bytes := 24, zero := (Try.t87.zero.getD undef), leaves := [.other] }
noncomputable def ti88 : TI := { und := Try.t88.desc, size := 4, bytes := 48, zero := (Try.t88.zero.getD undef), leaves := [.int .i64, .int .i64, .int .i64, .other] }
noncomputable def ti89 : TI := { und := Try.t88.desc, size := 4, bytes := 48, zero := (Try.t89.zero.getD undef), leaves := [.int .i64, .int .i64, .int .i64, .other] }
noncomputable def ti90 : TI := { und := Try.t90.desc, size := 1, bytes := 8, zero := (Try.t90.zero.getD undef), leaves := [.other] }
noncomputable def ti91 : TI := { und := Try.t91.desc, size := 4, bytes := 48, zero := (Try.t91.zero.getD undef), leaves := [.int .i64, .int .i64, .int .i64, .other] }
noncomputable def ti92 : TI := { und := Try.t91.desc, size := 4, bytes := 48, zero := (Try.t92.zero.getD undef), leaves := [.int .i64, .int .i64, .int .i64, .other] }
noncomputable def ti93 : TI := { und := Try.t93.desc, size := 1, bytes := 8, zero := (Try.t93.zero.getD undef), leaves := [.other] }
noncomputable def ti94 : TI := { und := Try.t93.desc, size := 1, bytes := 8, zero := (Try.t94.zero.getD undef), leaves := [.other] }
noncomputable def ti95 : TI := { und := Try.t95.desc, size := 1, bytes := 8, zero := (Try.t95.zero.getD undef), leaves := [.other] }
noncomputable def ti96 : TI := { und := Try.t96.desc, size := 1, bytes := 8, zero := (Try.t96.zero.getD undef), leaves := [.other] }
noncomputable def ti97 : TI := { und := Try.t97.desc, size := 4, bytes := 40, zero := (Try.t97.zero.getD undef), leaves := [.other, .other, .other, .str] }
noncomputable def ti98 : TI := { und := Try.t97.desc, size := 4, bytes := 40, zero := (Try.t98.zero.getD undef), leaves := [.other, .other, .other, .str] }
noncomputable def ti99 : TI := { und := .array 0 16, size := 0, bytes := 0, zero := (Try.t99.zero.getD undef), leaves := [] }
noncomputable def ti100 : TI := { und := Try.t100.desc, size := 0, bytes := 0, zero := (Try.t100.zero.getD undef), leaves := [] }
noncomputable def ti101 : TI := { und := Try.t100.desc, size := 0, bytes := 0, zero := (Try.t101.zero.getD undef), leaves := [] }
noncomputable def ti102 : TI := { und := .int .u32, size := 1, bytes := 4, zero := (Try.t102.zero.getD undef), leaves := [.int .u32] }
noncomputable def ti103 : TI := { und := .int .u8, size := 1, bytes := 1, zero := (Try.t103.zero.getD undef), leaves := [.int .u8] }
noncomputable def ti104 : TI := { und := .int .u8, size := 1, bytes := 1, zero := (Try.t104.zero.getD undef), leaves := [.int .u8] }
noncomputable def ti105 : TI := { und := Try.t105.desc, size := 1, bytes := 8, zero := (Try.t105.zero.getD undef), leaves := [.other] }
noncomputable def ti106 : TI := { und := .pointer 5, size := 1, bytes := 8, zero := (Try.t106.zero.getD undef), leaves := [.other] }
noncomputable def ti107 : TI := { und := .int .i32, size := 1, bytes := 4, zero := (Try.t107.zero.getD undef), leaves := [.int .i32] }
noncomputable def ti108 : TI := { und := .int .i32, size := 1, bytes := 4, zero := (Try.t108.zero.getD undef), leaves := [.int .i32] }
noncomputable def ti109 : TI := { und := Try.t109.desc, size := 11, bytes := 48, zero := (Try.t109.zero.getD undef), leaves := [.int .u64, .int .u64, .int .u32, .int .u8, .int .u8, .int .u8, .int .u8, .other, .other, .int .i32, .int .i32] }
noncomputable def ti110 : TI := { und := Try.t109.desc, size := 11, bytes := 48, zero := (Try.t110.zero.getD undef), leaves := [.int .u64, .int .u64, .int .u32, .int .u8, .int .u8, .int .u8, .int .u8, .other, .other, .int .i32, .int .i32] }
noncomputable def ti111 : TI := { und := .unsafePointer, size := 1, bytes := 8, zero := (Try.t111.zero.getD undef), leaves := [.other] }
def tyP (t : Nat) (i : TI) : Prop := Try.prog.underlying t = some i.und ∧ ∃ inf, Try.prog.info? t = some inf ∧ inf.size = i.size ∧ inf.bytes = i.bytes ∧ inf.zero = some i.zero
theorem ty1 : tyP 1 ti1 := ⟨by kernel_rfl, Try.t1, by kernel_rfl, by kernel_rfl, by kernel_rfl, by kernel_rfl⟩
theorem ty2 : tyP 2 ti2 := ⟨by kernel_rfl, Try.t2, by kernel_rfl, by kernel_rfl, by kernel_rfl, by kernel_rfl⟩
theorem ty3 : tyP 3 ti3 := ⟨by kernel_rfl, Try.t3, by kernel_rfl, by kernel_rfl, by kernel_rfl, by kernel_rfl⟩
theorem ty4 : tyP 4 ti4 := ⟨by kernel_rfl, Try.t4, by kernel_rfl, by kernel_rfl, by kernel_rfl, by kernel_rfl⟩
theorem ty5 : tyP 5 ti5 := ⟨by kernel_rfl, Try.t5, by kernel_rfl, by kernel_rfl, by kernel_rfl, by kernel_rfl⟩
theorem ty6 : tyP 6 ti6 := ⟨by kernel_rfl, Try.t6, by kernel_rfl, by kernel_rfl, by kernel_rfl, by kernel_rfl⟩
theorem ty7 : tyP 7 ti7 := ⟨by kernel_rfl, Try.t7, by kernel_rfl, by kernel_rfl, by kernel_rfl, by kernel_rfl⟩
theorem ty8 : tyP 8 ti8 := ⟨by kernel_rfl, Try.t8, by kernel_rfl, by kernel_rfl, by kernel_rfl, by kernel_rfl⟩
theorem ty9 : tyP 9 ti9 := ⟨by kernel_rfl, Try.t9, by kernel_rfl, by kernel_rfl, by kernel_rfl, by kernel_rfl⟩
theorem ty10 : tyP 10 ti10 := ⟨by kernel_rfl, Try.t10, by kernel_rfl, by kernel_rfl, by kernel_rfl, by kernel_rfl⟩
theorem ty11 : tyP 11 ti11 := ⟨by kernel_rfl, Try.t11, by kernel_rfl, by kernel_rfl, by kernel_rfl, by kernel_rfl⟩
theorem ty12 : tyP 12 ti12 := ⟨by kernel_rfl, Try.t12, by kernel_rfl, by kernel_rfl, by kernel_rfl, by kernel_rfl⟩
theorem ty13 : tyP 13 ti13 := ⟨by kernel_rfl, Try.t13, by kernel_rfl, by kernel_rfl, by kernel_rfl, by kernel_rfl⟩
theorem ty14 : tyP 14 ti14 := ⟨by kernel_rfl, Try.t14, by kernel_rfl, by kernel_rfl, by kernel_rfl, by kernel_rfl⟩
theorem ty15 : tyP 15 ti15 := ⟨by kernel_rfl, Try.t15, by kernel_rfl, by kernel_rfl, by kernel_rfl, by kernel_rfl⟩
theorem ty16 : tyP 16 ti16 := ⟨by kernel_rfl, Try.t16, by kernel_rfl, by kernel_rfl, by kernel_rfl, by kernel_rfl⟩
theorem ty17 : tyP 17 ti17 := ⟨by kernel_rfl, Try.t17, by kernel_rfl, by kernel_rfl, by kernel_rfl, by kernel_rfl⟩
theorem ty18 : tyP 18 ti18 := ⟨by kernel_rfl, Try.t18, by kernel_rfl, by kernel_rfl, by kernel_rfl, by kernel_rfl⟩
theorem ty19 : tyP 19 ti19 := ⟨by kernel_rfl, Try.t19, by kernel_rfl, by kernel_rfl, by kernel_rfl, by kernel_rfl⟩
theorem ty21 : tyP 21 ti21 := ⟨by kernel_rfl, Try.t21, by kernel_rfl, by kernel_rfl, by kernel_rfl, by kernel_rfl⟩
theorem ty22 : tyP 22 ti22 := ⟨by kernel_rfl, Try.t22, by kernel_rfl, by kernel_rfl, by kernel_rfl, by kernel_rfl⟩
theorem ty23 : tyP 23 ti23 := ⟨by kernel_rfl, Try.t23, by kernel_rfl, by kernel_rfl, by kernel_rfl, by kernel_rfl⟩
theorem ty24 : tyP 24 ti24 := ⟨by kernel_rfl, Try.t24, by kernel_rfl, by kernel_rfl, by kernel_rfl, by kernel_rfl⟩
theorem ty25 : tyP 25 ti25 := ⟨by kernel_rfl, Try.t25, by kernel_rfl, by kernel_rfl, by kernel_rfl, by kernel_rfl⟩
theorem ty27 : tyP 27 ti27 := ⟨by kernel_rfl, Try.t27, by kernel_rfl, by kernel_rfl, by kernel_rfl, by kernel_rfl⟩
theorem ty28 : tyP 28 ti28 := ⟨by kernel_rfl, Try.t28, by kernel_rfl, by kernel_rfl, by kernel_rfl, by kernel_rfl⟩
theorem ty29 : tyP 29 ti29 := ⟨by kernel_rfl, Try.t29, by kernel_rfl, by kernel_rfl, by kernel_rfl, by kernel_rfl⟩
theorem ty31 : tyP 31 ti31 := ⟨by kernel_rfl, Try.t31, by kernel_rfl, by kernel_rfl, by kernel_rfl, by kernel_rfl⟩
theorem ty32 : tyP 32 ti32 := ⟨by kernel_rfl, Try.t32, by kernel_rfl, by kernel_rfl, by kernel_rfl, by kernel_rfl⟩
theorem ty33 : tyP 33 ti33 := ⟨by kernel_rfl, Try.t33, by kernel_rfl, by kernel_rfl, by kernel_rfl, by kernel_rfl⟩
theorem ty34 : tyP 34 ti34 := ⟨by kernel_rfl, Try.t34, by kernel_rfl, by kernel_rfl, by kernel_rfl, by kernel_rfl⟩
theorem ty35 : tyP 35 ti35 := ⟨by kernel_rfl, Try.t35, by kernel_rfl, by kernel_rfl, by kernel_rfl, by kernel_rfl⟩
theorem ty36 : tyP 36 ti36 := ⟨by kernel_rfl, Try.t36, by kernel_rfl, by kernel_rfl, by kernel_rfl, by kernel_rfl⟩
theorem ty37 : tyP 37 ti37 := ⟨by kernel_rfl, Try.t37, by kernel_rfl, by kernel_rfl, by kernel_rfl, by kernel_rfl⟩
theorem ty38 : tyP 38 ti38 := ⟨by kernel_rfl, Try.t38, by kernel_rfl, by kernel_rfl, by kernel_rfl, by kernel_rfl⟩
theorem ty40 : tyP 40 ti40 := ⟨by kernel_rfl, Try.t40, by kernel_rfl, by kernel_rfl, by kernel_rfl, by kernel_rfl⟩
theorem ty41 : tyP 41 ti41 := ⟨by kernel_rfl, Try.t41, by kernel_rfl, by kernel_rfl, by kernel_rfl, by kernel_rfl⟩
theorem ty42 : tyP 42 ti42 := ⟨by kernel_rfl, Try.t42, by kernel_rfl, by kernel_rfl, by kernel_rfl, by kernel_rfl⟩
theorem ty43 : tyP 43 ti43 := ⟨by kernel_rfl, Try.t43, by kernel_rfl, by kernel_rfl, by kernel_rfl, by kernel_rfl⟩
theorem ty45 : tyP 45 ti45 := ⟨by kernel_rfl, Try.t45, by kernel_rfl, by kernel_rfl, by kernel_rfl, by kernel_rfl⟩
theorem ty46 : tyP 46 ti46 := ⟨by kernel_rfl, Try.t46, by kernel_rfl, by kernel_rfl, by kernel_rfl, by kernel_rfl⟩
theorem ty47 : tyP 47 ti47 := ⟨by kernel_rfl, Try.t47, by kernel_rfl, by kernel_rfl, by kernel_rfl, by kernel_rfl⟩
theorem ty48 : tyP 48 ti48 := ⟨by kernel_rfl, Try.t48, by kernel_rfl, by kernel_rfl, by kernel_rfl, by kernel_rfl⟩
theorem ty49 : tyP 49 ti49 := ⟨by kernel_rfl, Try.t49, by kernel_rfl, by kernel_rfl, by kernel_rfl, by kernel_rfl⟩
theorem ty50 : tyP 50 ti50 := ⟨by kernel_rfl, Try.t50, by kernel_rfl, by kernel_rfl, by kernel_rfl, by kernel_rfl⟩
theorem ty52 : tyP 52 ti52 := ⟨by kernel_rfl, Try.t52, by kernel_rfl, by kernel_rfl, by kernel_rfl, by kernel_rfl⟩
theorem ty53 : tyP 53 ti53 := ⟨by kernel_rfl, Try.t53, by kernel_rfl, by kernel_rfl, by kernel_rfl, by kernel_rfl⟩
theorem ty54 : tyP 54 ti54 := ⟨by kernel_rfl, Try.t54, by kernel_rfl, by kernel_rfl, by kernel_rfl, by kernel_rfl⟩
theorem ty55 : tyP 55 ti55 := ⟨by kernel_rfl, Try.t55, by kernel_rfl, by kernel_rfl, by kernel_rfl, by kernel_rfl⟩
theorem ty57 : tyP 57 ti57 := ⟨by kernel_rfl, Try.t57, by kernel_rfl, by kernel_rfl, by kernel_rfl, by kernel_rfl⟩
theorem ty58 : tyP 58 ti58 := ⟨by kernel_rfl, Try.t58, by kernel_rfl, by kernel_rfl, by kernel_rfl, by kernel_rfl⟩
theorem ty59 : tyP 59 ti59 := ⟨by kernel_rfl, Try.t59, by kernel_rfl, by kernel_rfl, by kernel_rfl, by kernel_rfl⟩
theorem ty60 : tyP 60 ti60 := ⟨by kernel_rfl, Try.t60, by kernel_rfl, by kernel_rfl, by kernel_rfl, by kernel_rfl⟩
theorem ty61 : tyP 61 ti61 := ⟨by kernel_rfl, Try.t61, by kernel_rfl, by kernel_rfl, by kernel_rfl, by kernel_rfl⟩
theorem ty62 : tyP 62 ti62 := ⟨by kernel_rfl, Try.t62, by kernel_rfl, by kernel_rfl, by kernel_rfl, by kernel_rfl⟩
theorem ty63 : tyP 63 ti63 := ⟨by kernel_rfl, Try.t63, by kernel_rfl, by kernel_rfl, by kernel_rfl, by kernel_rfl⟩
theorem ty64 : tyP 64 ti64 := ⟨by kernel_rfl, Try.t64, by kernel_rfl, by kernel_rfl, by kernel_rfl, by kernel_rfl⟩
theorem ty66 : tyP 66 ti66 := ⟨by kernel_rfl, Try.t66, by kernel_rfl, by kernel_rfl, by kernel_rfl, by kernel_rfl⟩
theorem ty67 : tyP 67 ti67 := ⟨by kernel_rfl, Try.t67, by kernel_rfl, by kernel_rfl, by kernel_rfl, by kernel_rfl⟩
theorem ty68 : tyP 68 ti68 := ⟨by kernel_rfl, Try.t68, by kernel_rfl, by kernel_rfl, by kernel_rfl, by kernel_rfl⟩
theorem ty69 : tyP 69 ti69 := ⟨by kernel_rfl, Try.t69, by kernel_rfl, by kernel_rfl, by kernel_rfl, by kernel_rfl⟩
theorem ty70 : tyP 70 ti70 := ⟨by kernel_rfl, Try.t70, by kernel_rfl, by kernel_rfl, by kernel_rfl, by kernel_rfl⟩
theorem ty72 : tyP 72 ti72 := ⟨by kernel_rfl, Try.t72, by kernel_rfl, by kernel_rfl, by kernel_rfl, by kernel_rfl⟩
theorem ty73 : tyP 73 ti73 := ⟨by kernel_rfl, Try.t73, by kernel_rfl, by kernel_rfl, by kernel_rfl, by kernel_rfl⟩
theorem ty74 : tyP 74 ti74 := ⟨by kernel_rfl, Try.t74, by kernel_rfl, by kernel_rfl, by kernel_rfl, by kernel_rfl⟩
theorem ty75 : tyP 75 ti75 := ⟨by kernel_rfl, Try.t75, by kernel_rfl, by kernel_rfl, by kernel_rfl, by kernel_rfl⟩
theorem ty76 : tyP 76 ti76 := ⟨by kernel_rfl, Try.t76, by kernel_rfl, by kernel_rfl, by kernel_rfl, by kernel_rfl⟩
theorem ty77 : tyP 77 ti77 := ⟨by kernel_rfl, Try.t77, by kernel_rfl, by kernel_rfl, by kernel_rfl, by kernel_rfl⟩
theorem ty78 : tyP 78 ti78 := ⟨by kernel_rfl, Try.t78, by kernel_rfl, by kernel_rfl, by kernel_rfl, by kernel_rfl⟩
theorem ty79 : tyP 79 ti79 := ⟨by kernel_rfl, Try.t79, by kernel_rfl, by kernel_rfl, by kernel_rfl, by kernel_rfl⟩
theorem ty80 : tyP 80 ti80 := ⟨by kernel_rfl, Try.t80, by kernel_rfl, by kernel_rfl, by kernel_rfl, by kernel_rfl⟩
theorem ty81 : tyP 81 ti81 := ⟨by kernel_rfl, Try.t81, by kernel_rfl, by kernel_rfl, by kernel_rfl, by kernel_rfl⟩
theorem ty82 : tyP 82 ti82 := ⟨by kernel_rfl, Try.t82, by kernel_rfl, by kernel_rfl, by kernel_rfl, by kernel_rfl⟩
theorem ty83 : tyP 83 ti83 := ⟨by kernel_rfl, Try.t83, by kernel_rfl, by kernel_rfl, by kernel_rfl, by kernel_rfl⟩
theorem ty84 : tyP 84 ti84 := ⟨by kernel_rfl, Try.t84, by kernel_rfl, by kernel_rfl, by kernel_rfl, by kernel_rfl⟩
theorem ty85 : tyP 85 ti85 := ⟨by kernel_rfl, Try.t85, by kernel_rfl, by kernel_rfl, by kernel_rfl, by kernel_rfl⟩
theorem ty86 : tyP 86 ti86 := ⟨by kernel_rfl, Try.t86, by kernel_rfl, by kernel_rfl, by kernel_rfl, by kernel_rfl⟩
theorem ty87 : tyP 87 ti87 := ⟨by kernel_rfl, Try.t87, by kernel_rfl, by kernel_rfl, by kernel_rfl, by kernel_rfl⟩
theorem ty88 : tyP 88 ti88 := ⟨by kernel_rfl, Try.t88, by kernel_rfl, by kernel_rfl, by kernel_rfl, by kernel_rfl⟩
theorem ty89 : tyP 89 ti89 := ⟨by kernel_rfl, Try.t89, by kernel_rfl, by kernel_rfl, by kernel_rfl, by kernel_rfl⟩
theorem ty90 : tyP 90 ti90 := ⟨by kernel_rfl, Try.t90, by kernel_rfl, by kernel_rfl, by kernel_rfl, by kernel_rfl⟩
theorem ty91 : tyP 91 ti91 := ⟨by kernel_rfl, Try.t91, by kernel_rfl, by kernel_rfl, by kernel_rfl, by kernel_rfl⟩
theorem ty92 : tyP 92 ti92 := ⟨by kernel_rfl, Try.t92, by kernel_rfl, by kernel_rfl, by kernel_rfl, by kernel_rfl⟩
theorem ty93 : tyP 93 ti93 := ⟨by kernel_rfl, Try.t93, by kernel_rfl, by kernel_rfl, by kernel_rfl, by kernel_rfl⟩
theorem ty94 : tyP 94 ti94 := ⟨by kernel_rfl, Try.t94, by kernel_rfl, by kernel_rfl, by kernel_rfl, by kernel_rfl⟩
theorem ty95 : tyP 95 ti95 := ⟨by kernel_rfl, Try.t95, by kernel_rfl, by kernel_rfl, by kernel_rfl, by kernel_rfl⟩
theorem ty96 : tyP 96 ti96 := ⟨by kernel_rfl, Try.t96, by kernel_rfl, by kernel_rfl, by kernel_rfl, by kernel_rfl⟩
theorem ty97 : tyP 97 ti97 := ⟨by kernel_rfl, Try.t97, by kernel_rfl, by kernel_rfl, by kernel_rfl, by kernel_rfl⟩
theorem ty98 : tyP 98 ti98 := ⟨by kernel_rfl, Try.t98, by kernel_rfl, by kernel_rfl, by kernel_rfl, by kernel_rfl⟩
theorem ty99 : tyP 99 ti99 := ⟨by kernel_rfl, Try.t99, by kernel_rfl, by kernel_rfl, by kernel_rfl, by kernel_rfl⟩
theorem ty100 : tyP 100 ti100 := ⟨by kernel_rfl, Try.t100, by kernel_rfl, by kernel_rfl, by kernel_rfl, by kernel_rfl⟩
theorem ty101 : tyP 101 ti101 := ⟨by kernel_rfl, Try.t101, by kernel_rfl, by kernel_rfl, by kernel_rfl, by kernel_rfl⟩
theorem ty102 : tyP 102 ti102 := ⟨by kernel_rfl, Try.t102, by kernel_rfl, by kernel_rfl, by kernel_rfl, by kernel_rfl⟩
theorem ty103 : tyP 103 ti103 := ⟨by kernel_rfl, Try.t103, by kernel_rfl, by kernel_rfl, by kernel_rfl, by kernel_rfl⟩
theorem ty104 : tyP 104 ti104 := ⟨by kernel_rfl, Try.t104, by kernel_rfl, by kernel_rfl, by kernel_rfl, by kernel_rfl⟩
theorem ty105 : tyP 105 ti105 := ⟨by kernel_rfl, Try.t105, by kernel_rfl, by kernel_rfl, by kernel_rfl, by kernel_rfl⟩
theorem ty106 : tyP 106 ti106 := ⟨by kernel_rfl, Try.t106, by kernel_rfl, by kernel_rfl, by kernel_rfl, by kernel_rfl⟩
theorem ty107 : tyP 107 ti107 := ⟨by kernel_rfl, Try.t107, by kernel_rfl, by kernel_rfl, by kernel_rfl, by kernel_rfl⟩
theorem ty108 : tyP 108 ti108 := ⟨by kernel_rfl, Try.t108, by kernel_rfl, by kernel_rfl, by kernel_rfl, by kernel_rfl⟩
theorem ty109 : tyP 109 ti109 := ⟨by kernel_rfl, Try.t109, by kernel_rfl, by kernel_rfl, by kernel_rfl, by kernel_rfl⟩
theorem ty110 : tyP 110 ti110 := ⟨by kernel_rfl, Try.t110, by kernel_rfl, by kernel_rfl, by kernel_rfl, by kernel_rfl⟩
theorem ty111 : tyP 111 ti111 := ⟨by kernel_rfl, Try.t111, by kernel_rfl, by kernel_rfl, by kernel_rfl, by kernel_rfl⟩
noncomputable def tyTTree : Tr TI := (.node none (.node (some ti1) (.node (some ti3) (.node (some ti7) (.node (some ti15) (.node (some ti31) (.node (some ti63) .leaf .leaf) (.node (some ti95) .leaf .leaf)) (.node (some ti47) (.node (some ti79) .leaf .leaf) (.node (some ti111) .leaf .leaf))) (.node (some ti23) (.node none .leaf (.node (some ti103) .leaf .leaf)) (.node (some ti55) (.node (some ti87) .leaf .leaf) .leaf))) (.node (some ti11) (.node (some ti19) (.node (some ti35) (.node (some ti67) .leaf .leaf) (.node (some ti99) .leaf .leaf)) (.node none (.node (some ti83) .leaf .leaf) .leaf)) (.node (some ti27) (.node (some ti43) (.node (some ti75) .leaf .leaf) (.node (some ti107) .leaf .leaf)) (.node (some ti59) (.node (some ti91) .leaf .leaf) .leaf)))) (.node (some ti5) (.node (some ti9) (.node (some ti17) (.node (some ti33) .leaf (.node (some ti97) .leaf .leaf)) (.node (some ti49) (.node (some ti81) .leaf .leaf) .leaf)) (.node (some ti25) (.node (some ti41) (.node (some ti73) .leaf .leaf) (.node (some ti105) .leaf .leaf)) (.node (some ti57) (.node (some ti89) .leaf .leaf) .leaf))) (.node (some ti13) (.node (some ti21) (.node (some ti37) (.node (some ti69) .leaf .leaf) (.node (some ti101) .leaf .leaf)) (.node (some ti53) (.node (some ti85) .leaf .leaf) .leaf)) (.node (some ti29) (.node (some ti45) (.node (some ti77) .leaf .leaf) (.node (some ti109) .leaf .leaf)) (.node (some ti61) (.node (some ti93) .leaf .leaf) .leaf))))) (.node (some ti2) (.node (some ti4) (.node (some ti8) (.node (some ti16) (.node (some ti32) (.node (some ti64) .leaf .leaf) (.node (some ti96) .leaf .leaf)) (.node (some ti48) (.node (some ti80) .leaf .leaf) .leaf)) (.node (some ti24) (.node (some ti40) (.node (some ti72) .leaf .leaf) (.node (some ti104) .leaf .leaf)) (.node none (.node (some ti88) .leaf .leaf) .leaf))) (.node (some ti12) (.node none (.node (some ti36) (.node (some ti68) .leaf .leaf) (.node (some ti100) .leaf .leaf)) (.node (some ti52) (.node (some ti84) .leaf .leaf) .leaf)) (.node (some ti28) (.node none (.node (some ti76) .leaf .leaf) (.node (some ti108) .leaf .leaf)) (.node (some ti60) (.node (some ti92) .leaf .leaf) .leaf)))) (.node (some ti6) (.node (some ti10) (.node (some ti18) (.node (some ti34) (.node (some ti66) .leaf .leaf) (.node (some ti98) .leaf .leaf)) (.node (some ti50) (.node (some ti82) .leaf .leaf) .leaf)) (.node none (.node (some ti42) (.node (some ti74) .leaf .leaf) (.node (some ti106) .leaf .leaf)) (.node (some ti58) (.node (some ti90) .leaf .leaf) .leaf))) (.node (some ti14) (.node (some ti22) (.node (some ti38) (.node (some ti70) .leaf .leaf) (.node (some ti102) .leaf .leaf)) (.node (some ti54) (.node (some ti86) .leaf .leaf) .leaf)) (.node none (.node (some ti46) (.node (some ti78) .leaf .leaf) (.node (some ti110) .leaf .leaf)) (.node (some ti62) (.node (some ti94) .leaf .leaf) .leaf))))))
noncomputable def tyT : Nat → Option TI := tyTTree.get
theorem tyT_all : tyTTree.All tyP := ⟨Tr.all0, ⟨Tr.all1 (ty1), ⟨Tr.all1 (ty3), ⟨Tr.all1 (ty7), ⟨Tr.all1 (ty15), ⟨Tr.all1 (ty31), ⟨Tr.all1 (ty63), trivial, trivial⟩, ⟨Tr.all1 (ty95), trivial, trivial⟩⟩, ⟨Tr.all1 (ty47), ⟨Tr.all1 (ty79), trivial, trivial⟩, ⟨Tr.all1 (ty111), trivial, trivial⟩⟩⟩, ⟨Tr.all1 (ty23), ⟨Tr.all0, trivial, ⟨Tr.all1 (ty103), trivial, trivial⟩⟩, ⟨Tr.all1 (ty55), ⟨Tr.all1 (ty87), trivial, trivial⟩, trivial⟩⟩⟩, ⟨Tr.all1 (ty11), ⟨Tr.all1 (ty19), ⟨Tr.all1 (ty35), ⟨Tr.all1 (ty67), trivial, trivial⟩, ⟨Tr.all1 (ty99), trivial, trivial⟩⟩, ⟨Tr.all0, ⟨Tr.all1 (ty83), trivial, trivial⟩, trivial⟩⟩, ⟨Tr.all1 (ty27), ⟨Tr.all1 (ty43), ⟨Tr.all1 (ty75), trivial, trivial⟩, ⟨Tr.all1 (ty107), trivial, trivial⟩⟩, ⟨Tr.all1 (ty59), ⟨Tr.all1 (ty91), trivial, trivial⟩, trivial⟩⟩⟩⟩, ⟨Tr.all1 (ty5), ⟨Tr.all1 (ty9), ⟨Tr.all1 (ty17), ⟨Tr.all1 (ty33), trivial, ⟨Tr.all1 (ty97), trivial, trivial⟩⟩, ⟨Tr.all1 (ty49), ⟨Tr.all1 (ty81), trivial, trivial⟩, trivial⟩⟩, ⟨Tr.all1 (ty25), ⟨Tr.all1 (ty41), ⟨Tr.all1 (ty73), trivial, trivial⟩, ⟨Tr.all1 (ty105), trivial, trivial⟩⟩, ⟨Tr.all1 (ty57), ⟨Tr.all1 (ty89), trivial, trivial⟩, trivial⟩⟩⟩, ⟨Tr.all1 (ty13), ⟨Tr.all1 (ty21), ⟨Tr.all1 (ty37), ⟨Tr.all1 (ty69), trivial, trivial⟩, ⟨Tr.all1 (ty101), trivial, trivial⟩⟩, ⟨Tr.all1 (ty53), ⟨Tr.all1 (ty85), trivial, trivial⟩, trivial⟩⟩, ⟨Tr.all1 (ty29), ⟨Tr.all1 (ty45), ⟨Tr.all1 (ty77), trivial, trivial⟩, ⟨Tr.all1 (ty109), trivial, trivial⟩⟩, ⟨Tr.all1 (ty61), ⟨Tr.all1 (ty93), trivial, trivial⟩, trivial⟩⟩⟩⟩⟩, ⟨Tr.all1 (ty2), ⟨Tr.all1 (ty4), ⟨Tr.all1 (ty8), ⟨Tr.all1 (ty16), ⟨Tr.all1 (ty32), ⟨Tr.all1 (ty64), trivial, trivial⟩, ⟨Tr.all1 (ty96), trivial, trivial⟩⟩, ⟨Tr.all1 (ty48), ⟨Tr.all1 (ty80), trivial, trivial⟩, trivial⟩⟩, ⟨Tr.all1 (ty24), ⟨Tr.all1 (ty40), ⟨Tr.all1 (ty72), trivial, trivial⟩, ⟨Tr.all1 (ty104), trivial, trivial⟩⟩, ⟨Tr.all0, ⟨Tr.all1 (ty88), trivial, trivial⟩, trivial⟩⟩⟩, ⟨Tr.all1 (ty12), ⟨Tr.all0, ⟨Tr.all1 (ty36), ⟨Tr.all1 (ty68), trivial, trivial⟩, ⟨Tr.all1 (ty100), trivial, trivial⟩⟩, ⟨Tr.all1 (ty52), ⟨Tr.all1 (ty84), trivial, trivial⟩, trivial⟩⟩, ⟨Tr.all1 (ty28), ⟨Tr.all0, ⟨Tr.all1 (ty76), trivial, trivial⟩, ⟨Tr.all1 (ty108), trivial, trivial⟩⟩, ⟨Tr.all1 (ty60), ⟨Tr.all1 (ty92), trivial, trivial⟩, trivial⟩⟩⟩⟩, ⟨Tr.all1 (ty6), ⟨Tr.all1 (ty10), ⟨Tr.all1 (ty18), ⟨Tr.all1 (ty34), ⟨Tr.all1 (ty66), trivial, trivial⟩, ⟨Tr.all1 (ty98), trivial, trivial⟩⟩, ⟨Tr.all1 (ty50), ⟨Tr.all1 (ty82), trivial, trivial⟩, trivial⟩⟩, ⟨Tr.all0, ⟨Tr.all1 (ty42), ⟨Tr.all1 (ty74), trivial, trivial⟩, ⟨Tr.all1 (ty106), trivial, trivial⟩⟩, ⟨Tr.all1 (ty58), ⟨Tr.all1 (ty90), trivial, trivial⟩, trivial⟩⟩⟩, ⟨Tr.all1 (ty14), ⟨Tr.all1 (ty22), ⟨Tr.all1 (ty38), ⟨Tr.all1 (ty70), trivial, trivial⟩, ⟨Tr.all1 (ty102), trivial, trivial⟩⟩, ⟨Tr.all1 (ty54), ⟨Tr.all1 (ty86), trivial, trivial⟩, trivial⟩⟩, ⟨Tr.all0, ⟨Tr.all1 (ty46), ⟨Tr.all1 (ty78), trivial, trivial⟩, ⟨Tr.all1 (ty110), trivial, trivial⟩⟩, ⟨Tr.all1 (ty62), ⟨Tr.all1 (ty94), trivial, trivial⟩, trivial⟩⟩⟩⟩⟩⟩
theorem tyT_ok : ∀ n a, tyT n = some a → tyP n a := Tr.get_all tyT_all
def eqT : Nat → Bool
  | 42 => true
  | _ => false
theorem eqT_ok : ∀ t, eqT t = true → Try.prog.stoodInHeld t = false ∧ Try.prog.eqGuardType Try.prog.depth t = false := by
  intro t h
  unfold eqT at h
  split at h
  · exact ⟨by kernel_rfl, by kernel_rfl⟩
  · cases h
def extT : Nat → Option Ext
  | _ => none
theorem extT_ok : ∀ f x, extT f = some x → ∃ F, Try.prog.funcs[f]? = some F ∧ (F.name == "runtime.NumGoroutine") = false ∧ F.body = none ∧ Extern.findNext F = none ∧ ExtIs Try.prog F x := by
  intro f x h
  unfold extT at h
  split at h
  · cases h
noncomputable def E : Env := { P := Try.prog, fn := fnT, ty := tyT, fnOk := fun f F h => (fnT_ok f F h).1, fnName := fun f F h => (fnT_ok f F h).2, tyOk := tyT_ok, ext := extT, extOk := extT_ok, mixed := by kernel_rfl, eqT := eqT, eqOk := eqT_ok }
end Go.Proofs.Ytabloimmlmgcbaa
