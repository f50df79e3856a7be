/-
  The tables of the abstract machine over this seat's loaded program: which functions and types it knows, each proved to be the program's own.
-/
import Derived.Test.YtfpnjpbdaniomaaProg
import Derived.Test.YtfpnjpbdaniomaaAmDef
import Derived.KernelRfl
namespace Go.Proofs.Ytfpnjpbdaniomaa
open Go.Am
def fnP (f : Nat) (F : Func) : Prop := Try.prog.funcs[f]? = some F ∧ (F.name == "runtime.NumGoroutine") = false
theorem fn3 : fnP 3 Try.f3 := ⟨Try.func3, by kernel_rfl⟩
theorem fn4 : fnP 4 Try.f4 := ⟨Try.func4, by kernel_rfl⟩
theorem fn5 : fnP 5 Try.f5 := ⟨Try.func5, by kernel_rfl⟩
theorem fn6 : fnP 6 Try.f6 := ⟨Try.func6, by kernel_rfl⟩
theorem fn7 : fnP 7 Try.f7 := ⟨Try.func7, by kernel_rfl⟩
theorem fn8 : fnP 8 Try.f8 := ⟨Try.func8, by kernel_rfl⟩
theorem fn9 : fnP 9 Try.f9 := ⟨Try.func9, by kernel_rfl⟩
theorem fn10 : fnP 10 Try.f10 := ⟨Try.func10, by kernel_rfl⟩
theorem fn11 : fnP 11 Try.f11 := ⟨Try.func11, by kernel_rfl⟩
theorem fn12 : fnP 12 Try.f12 := ⟨Try.func12, by kernel_rfl⟩
theorem fn13 : fnP 13 Try.f13 := ⟨Try.func13, by kernel_rfl⟩
theorem fn14 : fnP 14 Try.f14 := ⟨Try.func14, by kernel_rfl⟩
theorem fn15 : fnP 15 Try.f15 := ⟨Try.func15, by kernel_rfl⟩
theorem fn16 : fnP 16 Try.f16 := ⟨Try.func16, by kernel_rfl⟩
theorem fn17 : fnP 17 Try.f17 := ⟨Try.func17, by kernel_rfl⟩
theorem fn18 : fnP 18 Try.f18 := ⟨Try.func18, by kernel_rfl⟩
theorem fn19 : fnP 19 Try.f19 := ⟨Try.func19, by kernel_rfl⟩
theorem fn20 : fnP 20 Try.f20 := ⟨Try.func20, by kernel_rfl⟩
theorem fn21 : fnP 21 Try.f21 := ⟨Try.func21, by kernel_rfl⟩
theorem fn22 : fnP 22 Try.f22 := ⟨Try.func22, by kernel_rfl⟩
theorem fn23 : fnP 23 Try.f23 := ⟨Try.func23, by kernel_rfl⟩
theorem fn24 : fnP 24 Try.f24 := ⟨Try.func24, by kernel_rfl⟩
theorem fn25 : fnP 25 Try.f25 := ⟨Try.func25, by kernel_rfl⟩
theorem fn26 : fnP 26 Try.f26 := ⟨Try.func26, by kernel_rfl⟩
theorem fn27 : fnP 27 Try.f27 := ⟨Try.func27, by kernel_rfl⟩
theorem fn28 : fnP 28 Try.f28 := ⟨Try.func28, by kernel_rfl⟩
theorem fn29 : fnP 29 Try.f29 := ⟨Try.func29, by kernel_rfl⟩
theorem fn30 : fnP 30 Try.f30 := ⟨Try.func30, by kernel_rfl⟩
theorem fn31 : fnP 31 Try.f31 := ⟨Try.func31, by kernel_rfl⟩
theorem fn32 : fnP 32 Try.f32 := ⟨Try.func32, by kernel_rfl⟩
theorem fn33 : fnP 33 Try.f33 := ⟨Try.func33, by kernel_rfl⟩
theorem fn34 : fnP 34 Try.f34 := ⟨Try.func34, by kernel_rfl⟩
theorem fn35 : fnP 35 Try.f35 := ⟨Try.func35, by kernel_rfl⟩
theorem fn36 : fnP 36 Try.f36 := ⟨Try.func36, by kernel_rfl⟩
theorem fn37 : fnP 37 Try.f37 := ⟨Try.func37, by kernel_rfl⟩
theorem fn38 : fnP 38 Try.f38 := ⟨Try.func38, by kernel_rfl⟩
theorem fn39 : fnP 39 Try.f39 := ⟨Try.func39, by kernel_rfl⟩
theorem fn40 : fnP 40 Try.f40 := ⟨Try.func40, by kernel_rfl⟩
theorem fn41 : fnP 41 Try.f41 := ⟨Try.func41, by kernel_rfl⟩
theorem fn42 : fnP 42 Try.f42 := ⟨Try.func42, by kernel_rfl⟩
theorem fn43 : fnP 43 Try.f43 := ⟨Try.func43, by kernel_rfl⟩
theorem fn44 : fnP 44 Try.f44 := ⟨Try.func44, by kernel_rfl⟩
theorem fn45 : fnP 45 Try.f45 := ⟨Try.func45, by kernel_rfl⟩
theorem fn46 : fnP 46 Try.f46 := ⟨Try.func46, by kernel_rfl⟩
theorem fn47 : fnP 47 Try.f47 := ⟨Try.func47, by kernel_rfl⟩
theorem fn48 : fnP 48 Try.f48 := ⟨Try.func48, by kernel_rfl⟩
theorem fn49 : fnP 49 Try.f49 := ⟨Try.func49, by kernel_rfl⟩
theorem fn50 : fnP 50 Try.f50 := ⟨Try.func50, by kernel_rfl⟩
theorem fn51 : fnP 51 Try.f51 := ⟨Try.func51, by kernel_rfl⟩
theorem fn52 : fnP 52 Try.f52 := ⟨Try.func52, by kernel_rfl⟩
theorem fn53 : fnP 53 Try.f53 := ⟨Try.func53, by kernel_rfl⟩
theorem fn54 : fnP 54 Try.f54 := ⟨Try.func54, by kernel_rfl⟩
theorem fn55 : fnP 55 Try.f55 := ⟨Try.func55, by kernel_rfl⟩
theorem fn56 : fnP 56 Try.f56 := ⟨Try.func56, by kernel_rfl⟩
theorem fn57 : fnP 57 Try.f57 := ⟨Try.func57, by kernel_rfl⟩
theorem fn58 : fnP 58 Try.f58 := ⟨Try.func58, by kernel_rfl⟩
theorem fn59 : fnP 59 Try.f59 := ⟨Try.func59, by kernel_rfl⟩
theorem fn60 : fnP 60 Try.f60 := ⟨Try.func60, by kernel_rfl⟩
theorem fn61 : fnP 61 Try.f61 := ⟨Try.func61, by kernel_rfl⟩
theorem fn62 : fnP 62 Try.f62 := ⟨Try.func62, by kernel_rfl⟩
theorem fn63 : fnP 63 Try.f63 := ⟨Try.func63, by kernel_rfl⟩
theorem fn64 : fnP 64 Try.f64 := ⟨Try.func64, by kernel_rfl⟩
theorem fn65 : fnP 65 Try.f65 := ⟨Try.func65, by kernel_rfl⟩
theorem fn66 : fnP 66 Try.f66 := ⟨Try.func66, by kernel_rfl⟩
theorem fn67 : fnP 67 Try.f67 := ⟨Try.func67, by kernel_rfl⟩
theorem fn68 : fnP 68 Try.f68 := ⟨Try.func68, by kernel_rfl⟩
theorem fn69 : fnP 69 Try.f69 := ⟨Try.func69, by kernel_rfl⟩
theorem fn70 : fnP 70 Try.f70 := ⟨Try.func70, by kernel_rfl⟩
theorem fn71 : fnP 71 Try.f71 := ⟨Try.func71, by kernel_rfl⟩
theorem fn72 : fnP 72 Try.f72 := ⟨Try.func72, by kernel_rfl⟩
theorem fn73 : fnP 73 Try.f73 := ⟨Try.func73, by kernel_rfl⟩
theorem fn74 : fnP 74 Try.f74 := ⟨Try.func74, by kernel_rfl⟩
theorem fn75 : fnP 75 Try.f75 := ⟨Try.func75, by kernel_rfl⟩
theorem fn76 : fnP 76 Try.f76 := ⟨Try.func76, by kernel_rfl⟩
theorem fn77 : fnP 77 Try.f77 := ⟨Try.func77, by kernel_rfl⟩
theorem fn78 : fnP 78 Try.f78 := ⟨Try.func78, by kernel_rfl⟩
theorem fn79 : fnP 79 Try.f79 := ⟨Try.func79, by kernel_rfl⟩
theorem fn80 : fnP 80 Try.f80 := ⟨Try.func80, by kernel_rfl⟩
theorem fn81 : fnP 81 Try.f81 := ⟨Try.func81, by kernel_rfl⟩
noncomputable def fnTTree : Tr Func := (.node none (.node none (.node (some Try.f3) (.node (some Try.f7) (.node (some Try.f15) (.node (some Try.f31) (.node (some Try.f63) .leaf .leaf) .leaf) (.node (some Try.f47) (.node (some Try.f79) .leaf .leaf) .leaf)) (.node (some Try.f23) (.node (some Try.f39) (.node (some Try.f71) .leaf .leaf) .leaf) (.node (some Try.f55) .leaf .leaf))) (.node (some Try.f11) (.node (some Try.f19) (.node (some Try.f35) (.node (some Try.f67) .leaf .leaf) .leaf) (.node (some Try.f51) .leaf .leaf)) (.node (some Try.f27) (.node (some Try.f43) (.node (some Try.f75) .leaf .leaf) .leaf) (.node (some Try.f59) .leaf .leaf)))) (.node (some Try.f5) (.node (some Try.f9) (.node (some Try.f17) (.node (some Try.f33) (.node (some Try.f65) .leaf .leaf) .leaf) (.node (some Try.f49) (.node (some Try.f81) .leaf .leaf) .leaf)) (.node (some Try.f25) (.node (some Try.f41) (.node (some Try.f73) .leaf .leaf) .leaf) (.node (some Try.f57) .leaf .leaf))) (.node (some Try.f13) (.node (some Try.f21) (.node (some Try.f37) (.node (some Try.f69) .leaf .leaf) .leaf) (.node (some Try.f53) .leaf .leaf)) (.node (some Try.f29) (.node (some Try.f45) (.node (some Try.f77) .leaf .leaf) .leaf) (.node (some Try.f61) .leaf .leaf))))) (.node none (.node (some Try.f4) (.node (some Try.f8) (.node (some Try.f16) (.node (some Try.f32) (.node (some Try.f64) .leaf .leaf) .leaf) (.node (some Try.f48) (.node (some Try.f80) .leaf .leaf) .leaf)) (.node (some Try.f24) (.node (some Try.f40) (.node (some Try.f72) .leaf .leaf) .leaf) (.node (some Try.f56) .leaf .leaf))) (.node (some Try.f12) (.node (some Try.f20) (.node (some Try.f36) (.node (some Try.f68) .leaf .leaf) .leaf) (.node (some Try.f52) .leaf .leaf)) (.node (some Try.f28) (.node (some Try.f44) (.node (some Try.f76) .leaf .leaf) .leaf) (.node (some Try.f60) .leaf .leaf)))) (.node (some Try.f6) (.node (some Try.f10) (.node (some Try.f18) (.node (some Try.f34) (.node (some Try.f66) .leaf .leaf) .leaf) (.node (some Try.f50) .leaf .leaf)) (.node (some Try.f26) (.node (some Try.f42) (.node (some Try.f74) .leaf .leaf) .leaf) (.node (some Try.f58) .leaf .leaf))) (.node (some Try.f14) (.node (some Try.f22) (.node (some Try.f38) (.node (some Try.f70) .leaf .leaf) .leaf) (.node (some Try.f54) .leaf .leaf)) (.node (some Try.f30) (.node (some Try.f46) (.node (some Try.f78) .leaf .leaf) .leaf) (.node (some Try.f62) .leaf .leaf))))))
noncomputable def fnT : Nat → Option Func := fnTTree.get
theorem fnT_all : fnTTree.All fnP := ⟨Tr.all0, ⟨Tr.all0, ⟨Tr.all1 (fn3), ⟨Tr.all1 (fn7), ⟨Tr.all1 (fn15), ⟨Tr.all1 (fn31), ⟨Tr.all1 (fn63), trivial, trivial⟩, trivial⟩, ⟨Tr.all1 (fn47), ⟨Tr.all1 (fn79), trivial, trivial⟩, trivial⟩⟩, ⟨Tr.all1 (fn23), ⟨Tr.all1 (fn39), ⟨Tr.all1 (fn71), trivial, trivial⟩, trivial⟩, ⟨Tr.all1 (fn55), trivial, trivial⟩⟩⟩, ⟨Tr.all1 (fn11), ⟨Tr.all1 (fn19), ⟨Tr.all1 (fn35), ⟨Tr.all1 (fn67), trivial, trivial⟩, trivial⟩, ⟨Tr.all1 (fn51), trivial, trivial⟩⟩, ⟨Tr.all1 (fn27), ⟨Tr.all1 (fn43), ⟨Tr.all1 (fn75), trivial, trivial⟩, trivial⟩, ⟨Tr.all1 (fn59), trivial, trivial⟩⟩⟩⟩, ⟨Tr.all1 (fn5), ⟨Tr.all1 (fn9), ⟨Tr.all1 (fn17), ⟨Tr.all1 (fn33), ⟨Tr.all1 (fn65), trivial, trivial⟩, trivial⟩, ⟨Tr.all1 (fn49), ⟨Tr.all1 (fn81), trivial, trivial⟩, trivial⟩⟩, ⟨Tr.all1 (fn25), ⟨Tr.all1 (fn41), ⟨Tr.all1 (fn73), trivial, trivial⟩, trivial⟩, ⟨Tr.all1 (fn57), trivial, trivial⟩⟩⟩, ⟨Tr.all1 (fn13), ⟨Tr.all1 (fn21), ⟨Tr.all1 (fn37), ⟨Tr.all1 (fn69), trivial, trivial⟩, trivial⟩, ⟨Tr.all1 (fn53), trivial, trivial⟩⟩, ⟨Tr.all1 (fn29), ⟨Tr.all1 (fn45), ⟨Tr.all1 (fn77), trivial, trivial⟩, trivial⟩, ⟨Tr.all1 (fn61), trivial, trivial⟩⟩⟩⟩⟩, ⟨Tr.all0, ⟨Tr.all1 (fn4), ⟨Tr.all1 (fn8), ⟨Tr.all1 (fn16), ⟨Tr.all1 (fn32), ⟨Tr.all1 (fn64), trivial, trivial⟩, trivial⟩, ⟨Tr.all1 (fn48), ⟨Tr.all1 (fn80), trivial, trivial⟩, trivial⟩⟩, ⟨Tr.all1 (fn24), ⟨Tr.all1 (fn40), ⟨Tr.all1 (fn72), trivial, trivial⟩, trivial⟩, ⟨Tr.all1 (fn56), trivial, trivial⟩⟩⟩, ⟨Tr.all1 (fn12), ⟨Tr.all1 (fn20), ⟨Tr.all1 (fn36), ⟨Tr.all1 (fn68), trivial, trivial⟩, trivial⟩, ⟨Tr.all1 (fn52), trivial, trivial⟩⟩, ⟨Tr.all1 (fn28), ⟨Tr.all1 (fn44), ⟨Tr.all1 (fn76), trivial, trivial⟩, trivial⟩, ⟨Tr.all1 (fn60), trivial, trivial⟩⟩⟩⟩, ⟨Tr.all1 (fn6), ⟨Tr.all1 (fn10), ⟨Tr.all1 (fn18), ⟨Tr.all1 (fn34), ⟨Tr.all1 (fn66), trivial, trivial⟩, trivial⟩, ⟨Tr.all1 (fn50), trivial, trivial⟩⟩, ⟨Tr.all1 (fn26), ⟨Tr.all1 (fn42), ⟨Tr.all1 (fn74), trivial, trivial⟩, trivial⟩, ⟨Tr.all1 (fn58), trivial, trivial⟩⟩⟩, ⟨Tr.all1 (fn14), ⟨Tr.all1 (fn22), ⟨Tr.all1 (fn38), ⟨Tr.all1 (fn70), trivial, trivial⟩, trivial⟩, ⟨Tr.all1 (fn54), trivial, trivial⟩⟩, ⟨Tr.all1 (fn30), ⟨Tr.all1 (fn46), ⟨Tr.all1 (fn78), trivial, trivial⟩, trivial⟩, ⟨Tr.all1 (fn62), trivial, trivial⟩⟩⟩⟩⟩⟩
theorem fnT_ok : ∀ n a, fnT n = some a → fnP n a := Tr.get_all fnT_all
noncomputable def ti1 : TI := { und := Try.t1.desc, size := 1, bytes := 8, zero := (Try.t1.zero.getD undef), leaves := [.other] }
noncomputable def ti2 : TI := { und := .int .i64, size := 1, bytes := 8, zero := (Try.t2.zero.getD undef), leaves := [.int .i64] }
noncomputable def ti3 : TI := { und := .int .i64, size := 1, bytes := 8, zero := (Try.t3.zero.getD undef), leaves := [.int .i64] }
noncomputable def ti4 : TI := { und := .bool, size := 1, bytes := 1, zero := (Try.t4.zero.getD undef), leaves := [.bool] }
noncomputable def ti5 : TI := { und := .int .u8, size := 1, bytes := 1, zero := (Try.t5.zero.getD undef), leaves := [.int .u8] }
noncomputable def ti6 : TI := { und := .int .u8, size := 1, bytes := 1, zero := (Try.t6.zero.getD undef), leaves := [.int .u8] }
noncomputable def ti7 : TI := { und := Try.t7.desc, size := 4, bytes := 24, zero := (Try.t7.zero.getD undef), leaves := [.int .i64, .int .i64, .bool, .int .u8] }
noncomputable def ti8 : TI := { und := Try.t7.desc, size := 4, bytes := 24, zero := (Try.t8.zero.getD undef), leaves := [.int .i64, .int .i64, .bool, .int .u8] }
noncomputable def ti9 : TI := { und := .string, size := 1, bytes := 16, zero := (Try.t9.zero.getD undef), leaves := [.str] }
noncomputable def ti10 : TI := { und := .string, size := 1, bytes := 16, zero := (Try.t10.zero.getD undef), leaves := [.str] }
noncomputable def ti11 : TI := { und := .string, size := 1, bytes := 16, zero := (Try.t11.zero.getD undef), leaves := [.str] }
noncomputable def ti12 : TI := { und := .int .u64, size := 1, bytes := 8, zero := (Try.t12.zero.getD undef), leaves := [.int .u64] }
noncomputable def ti13 : TI := { und := Try.t13.desc, size := 2, bytes := 24, zero := (Try.t13.zero.getD undef), leaves := [.str, .int .u64] }
noncomputable def ti14 : TI := { und := Try.t13.desc, size := 2, bytes := 24, zero := (Try.t14.zero.getD undef), leaves := [.str, .int .u64] }
noncomputable def ti15 : TI := { und := .pointer 152, size := 1, bytes := 8, zero := (Try.t15.zero.getD undef), leaves := [.other] }
noncomputable def ti16 : TI := { und := .pointer 155, size := 1, bytes := 8, zero := (Try.t16.zero.getD undef), leaves := [.other] }
noncomputable def ti17 : TI := { und := .pointer 163, size := 1, bytes := 8, zero := (Try.t17.zero.getD undef), leaves := [.other] }
noncomputable def ti18 : TI := { und := Try.t18.desc, size := 1, bytes := 8, zero := (Try.t18.zero.getD undef), leaves := [.other] }
noncomputable def ti19 : TI := { und := Try.t18.desc, size := 1, bytes := 8, zero := (Try.t19.zero.getD undef), leaves := [.other] }
noncomputable def ti21 : TI := { und := .int .i32, size := 1, bytes := 4, zero := (Try.t21.zero.getD undef), leaves := [.int .i32] }
noncomputable def ti22 : TI := { und := .slice 3, size := 1, bytes := 24, zero := (Try.t22.zero.getD undef), leaves := [.other] }
noncomputable def ti23 : TI := { und := Try.t23.desc, size := 1, bytes := 8, zero := (Try.t23.zero.getD undef), leaves := [.other] }
noncomputable def ti24 : TI := { und := .slice 28, size := 1, bytes := 24, zero := (Try.t24.zero.getD undef), leaves := [.other] }
noncomputable def ti26 : TI := { und := Try.t26.desc, size := 1, bytes := 8, zero := (Try.t26.zero.getD undef), leaves := [.other] }
noncomputable def ti27 : TI := { und := Try.t27.desc, size := 4, bytes := 40, zero := (Try.t27.zero.getD undef), leaves := [.int .i64, .int .i64, .int .i64, .str] }
noncomputable def ti28 : TI := { und := Try.t27.desc, size := 4, bytes := 40, zero := (Try.t28.zero.getD undef), leaves := [.int .i64, .int .i64, .int .i64, .str] }
noncomputable def ti29 : TI := { und := Try.t29.desc, size := 1, bytes := 8, zero := (Try.t29.zero.getD undef), leaves := [.other] }
noncomputable def ti30 : TI := { und := .slice 33, size := 1, bytes := 24, zero := (Try.t30.zero.getD undef), leaves := [.other] }
noncomputable def ti31 : TI := { und := .int .u16, size := 1, bytes := 2, zero := (Try.t31.zero.getD undef), leaves := [.int .u16] }
noncomputable def ti32 : TI := { und := Try.t32.desc, size := 6, bytes := 64, zero := (Try.t32.zero.getD undef), leaves := [.str, .str, .bool, .int .i64, .int .i64, .bool] }
noncomputable def ti33 : TI := { und := Try.t32.desc, size := 6, bytes := 64, zero := (Try.t33.zero.getD undef), leaves := [.str, .str, .bool, .int .i64, .int .i64, .bool] }
noncomputable def ti34 : TI := { und := Try.t34.desc, size := 1, bytes := 8, zero := (Try.t34.zero.getD undef), leaves := [.other] }
noncomputable def ti35 : TI := { und := Try.t35.desc, size := 1, bytes := 8, zero := (Try.t35.zero.getD undef), leaves := [.other] }
noncomputable def ti36 : TI := { und := Try.t36.desc, size := 1, bytes := 8, zero := (Try.t36.zero.getD undef), leaves := [.other] }
noncomputable def ti37 : TI := { und := .int .u64, size := 1, bytes := 8, zero := (Try.t37.zero.getD undef), leaves := [.int .u64] }
noncomputable def ti38 : TI := { und := .slice 5, size := 1, bytes := 24, zero := (Try.t38.zero.getD undef), leaves := [.other] }
noncomputable def ti39 : TI := { und := Try.t39.desc, size := 1, bytes := 8, zero := (Try.t39.zero.getD undef), leaves := [.other] }
noncomputable def ti40 : TI := { und := .slice 49, size := 1, bytes := 24, zero := (Try.t40.zero.getD undef), leaves := [.other] }
noncomputable def ti41 : TI := { und := Try.t41.desc, size := 1, bytes := 8, zero := (Try.t41.zero.getD undef), leaves := [.other] }
noncomputable def ti42 : TI := { und := .pointer 71, size := 1, bytes := 8, zero := (Try.t42.zero.getD undef), leaves := [.other] }
noncomputable def ti43 : TI := { und := .int .i64, size := 1, bytes := 8, zero := (Try.t43.zero.getD undef), leaves := [.int .i64] }
noncomputable def ti45 : TI := { und := Try.t45.desc, size := 1, bytes := 8, zero := (Try.t45.zero.getD undef), leaves := [.other] }
noncomputable def ti46 : TI := { und := .pointer 57, size := 1, bytes := 8, zero := (Try.t46.zero.getD undef), leaves := [.other] }
noncomputable def ti47 : TI := { und := Try.t47.desc, size := 1, bytes := 8, zero := (Try.t47.zero.getD undef), leaves := [.other] }
noncomputable def ti48 : TI := { und := Try.t48.desc, size := 2, bytes := 24, zero := (Try.t48.zero.getD undef), leaves := [.int .u8, .str] }
noncomputable def ti49 : TI := { und := Try.t48.desc, size := 2, bytes := 24, zero := (Try.t49.zero.getD undef), leaves := [.int .u8, .str] }
noncomputable def ti50 : TI := { und := Try.t50.desc, size := 1, bytes := 8, zero := (Try.t50.zero.getD undef), leaves := [.other] }
noncomputable def ti51 : TI := { und := .pointer 66, size := 1, bytes := 8, zero := (Try.t51.zero.getD undef), leaves := [.other] }
noncomputable def ti52 : TI := { und := .array 4 5, size := 4, bytes := 4, zero := (Try.t52.zero.getD undef), leaves := [.int .u8, .int .u8, .int .u8, .int .u8] }
noncomputable def ti53 : TI := { und := .int .u64, size := 1, bytes := 8, zero := (Try.t53.zero.getD undef), leaves := [.int .u64] }
noncomputable def ti54 : TI := { und := Try.t54.desc, size := 10, bytes := 40, zero := (Try.t54.zero.getD undef), leaves := [.bool, .bool, .bool, .int .i64, .int .i64, .int .u8, .int .u8, .int .u8, .int .u8, .int .u64] }
noncomputable def ti55 : TI := { und := Try.t54.desc, size := 10, bytes := 40, zero := (Try.t55.zero.getD undef), leaves := [.bool, .bool, .bool, .int .i64, .int .i64, .int .u8, .int .u8, .int .u8, .int .u8, .int .u64] }
noncomputable def ti56 : TI := { und := Try.t56.desc, size := 16, bytes := 104, zero := (Try.t56.zero.getD undef), leaves := [.str, .other, .int .i64, .bool, .bool, .bool, .bool, .int .i64, .int .i64, .int .u8, .int .u8, .int .u8, .int .u8, .int .u64, .int .i64, .str] }
noncomputable def ti57 : TI := { und := Try.t56.desc, size := 16, bytes := 104, zero := (Try.t57.zero.getD undef), leaves := [.str, .other, .int .i64, .bool, .bool, .bool, .bool, .int .i64, .int .i64, .int .u8, .int .u8, .int .u8, .int .u8, .int .u64, .int .i64, .str] }
noncomputable def ti58 : TI := { und := Try.t58.desc, size := 1, bytes := 8, zero := (Try.t58.zero.getD undef), leaves := [.other] }
noncomputable def ti60 : TI := { und := Try.t60.desc, size := 1, bytes := 8, zero := (Try.t60.zero.getD undef), leaves := [.other] }
noncomputable def ti61 : TI := { und := Try.t27.desc, size := 4, bytes := 40, zero := (Try.t61.zero.getD undef), leaves := [.int .i64, .int .i64, .int .i64, .str] }
noncomputable def ti63 : TI := { und := Try.t63.desc, size := 1, bytes := 8, zero := (Try.t63.zero.getD undef), leaves := [.other] }
noncomputable def ti64 : TI := { und := Try.t64.desc, size := 1, bytes := 8, zero := (Try.t64.zero.getD undef), leaves := [.other] }
noncomputable def ti65 : TI := { und := Try.t65.desc, size := 8, bytes := 64, zero := (Try.t65.zero.getD undef), leaves := [.int .i64, .int .i64, .int .i64, .int .i64, .str, .bool, .bool, .int .i64] }
noncomputable def ti66 : TI := { und := Try.t65.desc, size := 8, bytes := 64, zero := (Try.t66.zero.getD undef), leaves := [.int .i64, .int .i64, .int .i64, .int .i64, .str, .bool, .bool, .int .i64] }
noncomputable def ti67 : TI := { und := Try.t67.desc, size := 1, bytes := 8, zero := (Try.t67.zero.getD undef), leaves := [.other] }
noncomputable def ti68 : TI := { und := .pointer 117, size := 1, bytes := 8, zero := (Try.t68.zero.getD undef), leaves := [.other] }
noncomputable def ti69 : TI := { und := .pointer 113, size := 1, bytes := 8, zero := (Try.t69.zero.getD undef), leaves := [.other] }
noncomputable def ti70 : TI := { und := Try.t70.desc, size := 5, bytes := 48, zero := (Try.t70.zero.getD undef), leaves := [.other, .other, .int .i64, .int .i64, .str] }
noncomputable def ti71 : TI := { und := Try.t70.desc, size := 5, bytes := 48, zero := (Try.t71.zero.getD undef), leaves := [.other, .other, .int .i64, .int .i64, .str] }
noncomputable def ti72 : TI := { und := Try.t72.desc, size := 1, bytes := 8, zero := (Try.t72.zero.getD undef), leaves := [.other] }
noncomputable def ti74 : TI := { und := Try.t74.desc, size := 1, bytes := 8, zero := (Try.t74.zero.getD undef), leaves := [.other] }
noncomputable def ti75 : TI := { und := Try.t75.desc, size := 9, bytes := 48, zero := (Try.t75.zero.getD undef), leaves := [.bool, .int .i64, .int .i64, .bool, .int .u8, .int .u8, .int .u8, .int .u8, .str] }
noncomputable def ti76 : TI := { und := Try.t75.desc, size := 9, bytes := 48, zero := (Try.t76.zero.getD undef), leaves := [.bool, .int .i64, .int .i64, .bool, .int .u8, .int .u8, .int .u8, .int .u8, .str] }
noncomputable def ti77 : TI := { und := Try.t77.desc, size := 5, bytes := 56, zero := (Try.t77.zero.getD undef), leaves := [.str, .int .i64, .int .i64, .int .i64, .str] }
noncomputable def ti78 : TI := { und := .slice 77, size := 1, bytes := 24, zero := (Try.t78.zero.getD undef), leaves := [.other] }
noncomputable def ti79 : TI := { und := Try.t79.desc, size := 1, bytes := 8, zero := (Try.t79.zero.getD undef), leaves := [.other] }
noncomputable def ti80 : TI := { und := Try.t79.desc, size := 1, bytes := 8, zero := (Try.t80.zero.getD undef), leaves := [.other] }
noncomputable def ti81 : TI := { und := Try.t81.desc, size := 1, bytes := 8, zero := (Try.t81.zero.getD undef), leaves := [.other] }
noncomputable def ti82 : TI := { und := Try.t82.desc, size := 1, bytes := 8, zero := (Try.t82.zero.getD undef), leaves := [.other] }
noncomputable def ti84 : TI := { und := Try.t84.desc, size := 1, bytes := 8, zero := (Try.t84.zero.getD undef), leaves := [.other] }
noncomputable def ti85 : TI := { und := Try.t85.desc, size := 1, bytes := 8, zero := (Try.t85.zero.getD undef), leaves := [.other] }
noncomputable def ti86 : TI := { und := Try.t86.desc, size := 5, bytes := 48, zero := (Try.t86.zero.getD undef), leaves := [.int .i64, .int .i64, .bool, .int .i64, .str] }
noncomputable def ti87 : TI := { und := Try.t86.desc, size := 5, bytes := 48, zero := (Try.t87.zero.getD undef), leaves := [.int .i64, .int .i64, .bool, .int .i64, .str] }
noncomputable def ti89 : TI := { und := Try.t89.desc, size := 1, bytes := 8, zero := (Try.t89.zero.getD undef), leaves := [.other] }
noncomputable def ti90 : TI := { und := Try.t90.desc, size := 1, bytes := 8, zero := (Try.t90.zero.getD undef), leaves := [.other] }
noncomputable def ti92 : TI := { und := Try.t92.desc, size := 1, bytes := 8, zero := (Try.t92.zero.getD undef), leaves := [.other] }
noncomputable def ti93 : TI := { und := Try.t93.desc, size := 1, bytes := 8, zero := (Try.t93.zero.getD undef), leaves := [.other] }
noncomputable def ti94 : TI := { und := Try.t94.desc, size := 1, bytes := 8, zero := (Try.t94.zero.getD undef), leaves := [.other] }
noncomputable def ti95 : TI := { und := Try.t95.desc, size := 1, bytes := 8, zero := (Try.t95.zero.getD undef), leaves := [.other] }
noncomputable def ti96 : TI := { und := Try.t96.desc, size := 1, bytes := 8, zero := (Try.t96.zero.getD undef), leaves := [.other] }
noncomputable def ti97 : TI := { und := Try.t97.desc, size := 1, bytes := 8, zero := (Try.t97.zero.getD undef), leaves := [.other] }
noncomputable def ti99 : TI := { und := Try.t99.desc, size := 1, bytes := 8, zero := (Try.t99.zero.getD undef), leaves := [.other] }
noncomputable def ti100 : TI := { und := Try.t100.desc, size := 2, bytes := 24, zero := (Try.t100.zero.getD undef), leaves := [.int .i64, .str] }
noncomputable def ti101 : TI := { und := Try.t100.desc, size := 2, bytes := 24, zero := (Try.t101.zero.getD undef), leaves := [.int .i64, .str] }
noncomputable def ti103 : TI := { und := Try.t103.desc, size := 1, bytes := 8, zero := (Try.t103.zero.getD undef), leaves := [.other] }
noncomputable def ti104 : TI := { und := Try.t104.desc, size := 1, bytes := 8, zero := (Try.t104.zero.getD undef), leaves := [.other] }
noncomputable def ti105 : TI := { und := Try.t105.desc, size := 6, bytes := 32, zero := (Try.t105.zero.getD undef), leaves := [.int .i64, .int .u8, .int .u8, .int .i32, .int .i64, .bool] }
noncomputable def ti106 : TI := { und := Try.t105.desc, size := 6, bytes := 32, zero := (Try.t106.zero.getD undef), leaves := [.int .i64, .int .u8, .int .u8, .int .i32, .int .i64, .bool] }
noncomputable def ti107 : TI := { und := Try.t107.desc, size := 1, bytes := 8, zero := (Try.t107.zero.getD undef), leaves := [.other] }
noncomputable def ti108 : TI := { und := .pointer 110, size := 1, bytes := 8, zero := (Try.t108.zero.getD undef), leaves := [.other] }
noncomputable def ti109 : TI := { und := Try.t109.desc, size := 2, bytes := 32, zero := (Try.t109.zero.getD undef), leaves := [.other, .other] }
noncomputable def ti110 : TI := { und := Try.t109.desc, size := 2, bytes := 32, zero := (Try.t110.zero.getD undef), leaves := [.other, .other] }
noncomputable def ti111 : TI := { und := .pointer 106, size := 1, bytes := 8, zero := (Try.t111.zero.getD undef), leaves := [.other] }
noncomputable def ti112 : TI := { und := Try.t112.desc, size := 11, bytes := 96, zero := (Try.t112.zero.getD undef), leaves := [.int .i64, .bool, .int .i64, .int .i64, .int .i64, .other, .other, .other, .bool, .bool, .int .i64] }
noncomputable def ti113 : TI := { und := Try.t112.desc, size := 11, bytes := 96, zero := (Try.t113.zero.getD undef), leaves := [.int .i64, .bool, .int .i64, .int .i64, .int .i64, .other, .other, .other, .bool, .bool, .int .i64] }
noncomputable def ti114 : TI := { und := Try.t114.desc, size := 10, bytes := 48, zero := (Try.t114.zero.getD undef), leaves := [.bool, .int .i64, .int .i64, .bool, .int .u8, .int .u8, .int .u8, .int .u8, .int .u64, .bool] }
noncomputable def ti115 : TI := { und := Try.t114.desc, size := 10, bytes := 48, zero := (Try.t115.zero.getD undef), leaves := [.bool, .int .i64, .int .i64, .bool, .int .u8, .int .u8, .int .u8, .int .u8, .int .u64, .bool] }
noncomputable def ti116 : TI := { und := Try.t116.desc, size := 14, bytes := 88, zero := (Try.t116.zero.getD undef), leaves := [.bool, .int .i64, .str, .bool, .int .i64, .int .i64, .bool, .int .u8, .int .u8, .int .u8, .int .u8, .int .u64, .bool, .int .i64] }
noncomputable def ti117 : TI := { und := Try.t116.desc, size := 14, bytes := 88, zero := (Try.t117.zero.getD undef), leaves := [.bool, .int .i64, .str, .bool, .int .i64, .int .i64, .bool, .int .u8, .int .u8, .int .u8, .int .u8, .int .u64, .bool, .int .i64] }
noncomputable def ti118 : TI := { und := Try.t118.desc, size := 1, bytes := 8, zero := (Try.t118.zero.getD undef), leaves := [.other] }
noncomputable def ti119 : TI := { und := Try.t118.desc, size := 1, bytes := 8, zero := (Try.t119.zero.getD undef), leaves := [.other] }
noncomputable def ti120 : TI := { und := Try.t120.desc, size := 1, bytes := 8, zero := (Try.t120.zero.getD undef), leaves := [.other] }
noncomputable def ti121 : TI := { und := Try.t121.desc, size := 1, bytes := 8, zero := (Try.t121.zero.getD undef), leaves := [.other] }
noncomputable def ti122 : TI := { und := Try.t122.desc, size := 1, bytes := 8, zero := (Try.t122.zero.getD undef), leaves := [.other] }
noncomputable def ti124 : TI := { und := Try.t124.desc, size := 1, bytes := 8, zero := (Try.t124.zero.getD undef), leaves := [.other] }
noncomputable def ti125 : TI := { und := Try.t125.desc, size := 1, bytes := 8, zero := (Try.t125.zero.getD undef), leaves := [.other] }
noncomputable def ti127 : TI := { und := Try.t127.desc, size := 1, bytes := 8, zero := (Try.t127.zero.getD undef), leaves := [.other] }
noncomputable def ti128 : TI := { und := Try.t128.desc, size := 1, bytes := 8, zero := (Try.t128.zero.getD undef), leaves := [.other] }
noncomputable def ti129 : TI := { und := Try.t100.desc, size := 2, bytes := 24, zero := (Try.t129.zero.getD undef), leaves := [.int .i64, .str] }
noncomputable def ti131 : TI := { und := Try.t131.desc, size := 1, bytes := 8, zero := (Try.t131.zero.getD undef), leaves := [.other] }
noncomputable def ti132 : TI := { und := Try.t132.desc, size := 1, bytes := 8, zero := (Try.t132.zero.getD undef), leaves := [.other] }
noncomputable def ti133 : TI := { und := Try.t133.desc, size := 1, bytes := 8, zero := (Try.t133.zero.getD undef), leaves := [.other] }
noncomputable def ti137 : TI := { und := Try.t137.desc, size := 1, bytes := 8, zero := (Try.t137.zero.getD undef), leaves := [.other] }
noncomputable def ti138 : TI := { und := Try.t138.desc, size := 1, bytes := 8, zero := (Try.t138.zero.getD undef), leaves := [.other] }
noncomputable def ti139 : TI := { und := .slice 141, size := 1, bytes := 24, zero := (Try.t139.zero.getD undef), leaves := [.other] }
noncomputable def ti140 : TI := { und := Try.t140.desc, size := 1, bytes := 8, zero := (Try.t140.zero.getD undef), leaves := [.other] }
noncomputable def ti141 : TI := { und := .slice 142, size := 1, bytes := 24, zero := (Try.t141.zero.getD undef), leaves := [.other] }
noncomputable def ti142 : TI := { und := .array 2 5, size := 2, bytes := 2, zero := (Try.t142.zero.getD undef), leaves := [.int .u8, .int .u8] }
noncomputable def ti144 : TI := { und := Try.t144.desc, size := 1, bytes := 8, zero := (Try.t144.zero.getD undef), leaves := [.other] }
noncomputable def ti145 : TI := { und := Try.t145.desc, size := 1, bytes := 8, zero := (Try.t145.zero.getD undef), leaves := [.other] }
noncomputable def ti146 : TI := { und := .pointer 5, size := 1, bytes := 8, zero := (Try.t146.zero.getD undef), leaves := [.other] }
noncomputable def ti147 : TI := { und := Try.t147.desc, size := 1, bytes := 8, zero := (Try.t147.zero.getD undef), leaves := [.other] }
noncomputable def ti148 : TI := { und := Try.t148.desc, size := 1, bytes := 8, zero := (Try.t148.zero.getD undef), leaves := [.other] }
noncomputable def ti149 : TI := { und := .unsafePointer, size := 1, bytes := 8, zero := (Try.t149.zero.getD undef), leaves := [.other] }
noncomputable def ti150 : TI := { und := Try.t150.desc, size := 1, bytes := 8, zero := (Try.t150.zero.getD undef), leaves := [.other] }
noncomputable def ti151 : TI := { und := Try.t151.desc, size := 4, bytes := 40, zero := (Try.t151.zero.getD undef), leaves := [.other, .other, .other, .str] }
noncomputable def ti152 : TI := { und := Try.t151.desc, size := 4, bytes := 40, zero := (Try.t152.zero.getD undef), leaves := [.other, .other, .other, .str] }
noncomputable def ti153 : TI := { und := .array 0 16, size := 0, bytes := 0, zero := (Try.t153.zero.getD undef), leaves := [] }
noncomputable def ti154 : TI := { und := Try.t154.desc, size := 0, bytes := 0, zero := (Try.t154.zero.getD undef), leaves := [] }
noncomputable def ti155 : TI := { und := Try.t154.desc, size := 0, bytes := 0, zero := (Try.t155.zero.getD undef), leaves := [] }
noncomputable def ti156 : TI := { und := .int .u32, size := 1, bytes := 4, zero := (Try.t156.zero.getD undef), leaves := [.int .u32] }
noncomputable def ti157 : TI := { und := .int .u8, size := 1, bytes := 1, zero := (Try.t157.zero.getD undef), leaves := [.int .u8] }
noncomputable def ti158 : TI := { und := .int .u8, size := 1, bytes := 1, zero := (Try.t158.zero.getD undef), leaves := [.int .u8] }
noncomputable def ti159 : TI := { und := Try.t159.desc, size := 1, bytes := 8, zero := (Try.t159.zero.getD undef), leaves := [.other] }
noncomputable def ti160 : TI := { und := .int .i32, size := 1, bytes := 4, zero := (Try.t160.zero.getD undef), leaves := [.int .i32] }
noncomputable def ti161 : TI := { und := .int .i32, size := 1, bytes := 4, zero := (Try.t161.zero.getD undef), leaves := [.int .i32] }
noncomputable def ti162 : TI := { und := Try.t162.desc, size := 11, bytes := 48, zero := (Try.t162.zero.getD undef), leaves := [.int .u64, .int .u64, .int .u32, .int .u8, .int .u8, .int .u8, .int .u8, .other, .other, .int .i32, .int .i32] }
noncomputable def ti163 : TI := { und := Try.t162.desc, size := 11, bytes := 48, zero := (Try.t163.zero.getD undef), leaves := [.int .u64, .int .u64, .int .u32, .int .u8, .int .u8, .int .u8, .int .u8, .other, .other, .int .i32, .int .i32] }
def tyP (t : Nat) (i : TI) : Prop := Try.prog.underlying t = some i.und ∧ ∃ inf, Try.prog.info? t = some inf ∧ inf.size = i.size ∧ inf.bytes = i.bytes ∧ inf.zero = some i.zero
theorem ty1 : tyP 1 ti1 := ⟨by kernel_rfl, Try.t1, by kernel_rfl, by kernel_rfl, by kernel_rfl, by kernel_rfl⟩
theorem ty2 : tyP 2 ti2 := ⟨by kernel_rfl, Try.t2, by kernel_rfl, by kernel_rfl, by kernel_rfl, by kernel_rfl⟩
theorem ty3 : tyP 3 ti3 := ⟨by kernel_rfl, Try.t3, by kernel_rfl, by kernel_rfl, by kernel_rfl, by kernel_rfl⟩
theorem ty4 : tyP 4 ti4 := ⟨by kernel_rfl, Try.t4, by kernel_rfl, by kernel_rfl, by kernel_rfl, by kernel_rfl⟩
theorem ty5 : tyP 5 ti5 := ⟨by kernel_rfl, Try.t5, by kernel_rfl, by kernel_rfl, by kernel_rfl, by kernel_rfl⟩
theorem ty6 : tyP 6 ti6 := ⟨by kernel_rfl, Try.t6, by kernel_rfl, by kernel_rfl, by kernel_rfl, by kernel_rfl⟩
theorem ty7 : tyP 7 ti7 := ⟨by kernel_rfl, Try.t7, by kernel_rfl, by kernel_rfl, by kernel_rfl, by kernel_rfl⟩
theorem ty8 : tyP 8 ti8 := ⟨by kernel_rfl, Try.t8, by kernel_rfl, by kernel_rfl, by kernel_rfl, by kernel_rfl⟩
theorem ty9 : tyP 9 ti9 := ⟨by kernel_rfl, Try.t9, by kernel_rfl, by kernel_rfl, by kernel_rfl, by kernel_rfl⟩
theorem ty10 : tyP 10 ti10 := ⟨by kernel_rfl, Try.t10, by kernel_rfl, by kernel_rfl, by kernel_rfl, by kernel_rfl⟩
theorem ty11 : tyP 11 ti11 := ⟨by kernel_rfl, Try.t11, by kernel_rfl, by kernel_rfl, by kernel_rfl, by kernel_rfl⟩
theorem ty12 : tyP 12 ti12 := ⟨by kernel_rfl, Try.t12, by kernel_rfl, by kernel_rfl, by kernel_rfl, by kernel_rfl⟩
theorem ty13 : tyP 13 ti13 := ⟨by kernel_rfl, Try.t13, by kernel_rfl, by kernel_rfl, by kernel_rfl, by kernel_rfl⟩
theorem ty14 : tyP 14 ti14 := ⟨by kernel_rfl, Try.t14, by kernel_rfl, by kernel_rfl, by kernel_rfl, by kernel_rfl⟩
theorem ty15 : tyP 15 ti15 := ⟨by kernel_rfl, Try.t15, by kernel_rfl, by kernel_rfl, by kernel_rfl, by kernel_rfl⟩
theorem ty16 : tyP 16 ti16 := ⟨by kernel_rfl, Try.t16, by kernel_rfl, by kernel_rfl, by kernel_rfl, by kernel_rfl⟩
theorem ty17 : tyP 17 ti17 := ⟨by kernel_rfl, Try.t17, by kernel_rfl, by kernel_rfl, by kernel_rfl, by kernel_rfl⟩
theorem ty18 : tyP 18 ti18 := ⟨by kernel_rfl, Try.t18, by kernel_rfl, by kernel_rfl, by kernel_rfl, by kernel_rfl⟩
theorem ty19 : tyP 19 ti19 := ⟨by kernel_rfl, Try.t19, by kernel_rfl, by kernel_rfl, by kernel_rfl, by kernel_rfl⟩
theorem ty21 : tyP 21 ti21 := ⟨by kernel_rfl, Try.t21, by kernel_rfl, by kernel_rfl, by kernel_rfl, by kernel_rfl⟩
theorem ty22 : tyP 22 ti22 := ⟨by kernel_rfl, Try.t22, by kernel_rfl, by kernel_rfl, by kernel_rfl, by kernel_rfl⟩
theorem ty23 : tyP 23 ti23 := ⟨by kernel_rfl, Try.t23, by kernel_rfl, by kernel_rfl, by kernel_rfl, by kernel_rfl⟩
theorem ty24 : tyP 24 ti24 := ⟨by kernel_rfl, Try.t24, by kernel_rfl, by kernel_rfl, by kernel_rfl, by kernel_rfl⟩
theorem ty26 : tyP 26 ti26 := ⟨by kernel_rfl, Try.t26, by kernel_rfl, by kernel_rfl, by kernel_rfl, by kernel_rfl⟩
theorem ty27 : tyP 27 ti27 := ⟨by kernel_rfl, Try.t27, by kernel_rfl, by kernel_rfl, by kernel_rfl, by kernel_rfl⟩
theorem ty28 : tyP 28 ti28 := ⟨by kernel_rfl, Try.t28, by kernel_rfl, by kernel_rfl, by kernel_rfl, by kernel_rfl⟩
theorem ty29 : tyP 29 ti29 := ⟨by kernel_rfl, Try.t29, by kernel_rfl, by kernel_rfl, by kernel_rfl, by kernel_rfl⟩
theorem ty30 : tyP 30 ti30 := ⟨by kernel_rfl, Try.t30, by kernel_rfl, by kernel_rfl, by kernel_rfl, by kernel_rfl⟩
theorem ty31 : tyP 31 ti31 := ⟨by kernel_rfl, Try.t31, by kernel_rfl, by kernel_rfl, by kernel_rfl, by kernel_rfl⟩
theorem ty32 : tyP 32 ti32 := ⟨by kernel_rfl, Try.t32, by kernel_rfl, by kernel_rfl, by kernel_rfl, by kernel_rfl⟩
theorem ty33 : tyP 33 ti33 := ⟨by kernel_rfl, Try.t33, by kernel_rfl, by kernel_rfl, by kernel_rfl, by kernel_rfl⟩
theorem ty34 : tyP 34 ti34 := ⟨by kernel_rfl, Try.t34, by kernel_rfl, by kernel_rfl, by kernel_rfl, by kernel_rfl⟩
theorem ty35 : tyP 35 ti35 := ⟨by kernel_rfl, Try.t35, by kernel_rfl, by kernel_rfl, by kernel_rfl, by kernel_rfl⟩
theorem ty36 : tyP 36 ti36 := ⟨by kernel_rfl, Try.t36, by kernel_rfl, by kernel_rfl, by kernel_rfl, by kernel_rfl⟩
theorem ty37 : tyP 37 ti37 := ⟨by kernel_rfl, Try.t37, by kernel_rfl, by kernel_rfl, by kernel_rfl, by kernel_rfl⟩
theorem ty38 : tyP 38 ti38 := ⟨by kernel_rfl, Try.t38, by kernel_rfl, by kernel_rfl, by kernel_rfl, by kernel_rfl⟩
theorem ty39 : tyP 39 ti39 := ⟨by kernel_rfl, Try.t39, by kernel_rfl, by kernel_rfl, by kernel_rfl, by kernel_rfl⟩
theorem ty40 : tyP 40 ti40 := ⟨by kernel_rfl, Try.t40, by kernel_rfl, by kernel_rfl, by kernel_rfl, by kernel_rfl⟩
theorem ty41 : tyP 41 ti41 := ⟨by kernel_rfl, Try.t41, by kernel_rfl, by kernel_rfl, by kernel_rfl, by kernel_rfl⟩
theorem ty42 : tyP 42 ti42 := ⟨by kernel_rfl, Try.t42, by kernel_rfl, by kernel_rfl, by kernel_rfl, by kernel_rfl⟩
theorem ty43 : tyP 43 ti43 := ⟨by kernel_rfl, Try.t43, by kernel_rfl, by kernel_rfl, by kernel_rfl, by kernel_rfl⟩
theorem ty45 : tyP 45 ti45 := ⟨by kernel_rfl, Try.t45, by kernel_rfl, by kernel_rfl, by kernel_rfl, by kernel_rfl⟩
theorem ty46 : tyP 46 ti46 := ⟨by kernel_rfl, Try.t46, by kernel_rfl, by kernel_rfl, by kernel_rfl, by kernel_rfl⟩
theorem ty47 : tyP 47 ti47 := ⟨by kernel_rfl, Try.t47, by kernel_rfl, by kernel_rfl, by kernel_rfl, by kernel_rfl⟩
theorem ty48 : tyP 48 ti48 := ⟨by kernel_rfl, Try.t48, by kernel_rfl, by kernel_rfl, by kernel_rfl, by kernel_rfl⟩
theorem ty49 : tyP 49 ti49 := ⟨by kernel_rfl, Try.t49, by kernel_rfl, by kernel_rfl, by kernel_rfl, by kernel_rfl⟩
theorem ty50 : tyP 50 ti50 := ⟨by kernel_rfl, Try.t50, by kernel_rfl, by kernel_rfl, by kernel_rfl, by kernel_rfl⟩
theorem ty51 : tyP 51 ti51 := ⟨by kernel_rfl, Try.t51, by kernel_rfl, by kernel_rfl, by kernel_rfl, by kernel_rfl⟩
theorem ty52 : tyP 52 ti52 := ⟨by kernel_rfl, Try.t52, by kernel_rfl, by kernel_rfl, by kernel_rfl, by kernel_rfl⟩
theorem ty53 : tyP 53 ti53 := ⟨by kernel_rfl, Try.t53, by kernel_rfl, by kernel_rfl, by kernel_rfl, by kernel_rfl⟩
theorem ty54 : tyP 54 ti54 := ⟨by kernel_rfl, Try.t54, by kernel_rfl, by kernel_rfl, by kernel_rfl, by kernel_rfl⟩
theorem ty55 : tyP 55 ti55 := ⟨by kernel_rfl, Try.t55, by kernel_rfl, by kernel_rfl, by kernel_rfl, by kernel_rfl⟩
theorem ty56 : tyP 56 ti56 := ⟨by kernel_rfl, Try.t56, by kernel_rfl, by kernel_rfl, by kernel_rfl, by kernel_rfl⟩
theorem ty57 : tyP 57 ti57 := ⟨by kernel_rfl, Try.t57, by kernel_rfl, by kernel_rfl, by kernel_rfl, by kernel_rfl⟩
theorem ty58 : tyP 58 ti58 := ⟨by kernel_rfl, Try.t58, by kernel_rfl, by kernel_rfl, by kernel_rfl, by kernel_rfl⟩
theorem ty60 : tyP 60 ti60 := ⟨by kernel_rfl, Try.t60, by kernel_rfl, by kernel_rfl, by kernel_rfl, by kernel_rfl⟩
theorem ty61 : tyP 61 ti61 := ⟨by kernel_rfl, Try.t61, by kernel_rfl, by kernel_rfl, by kernel_rfl, by kernel_rfl⟩
theorem ty63 : tyP 63 ti63 := ⟨by kernel_rfl, Try.t63, by kernel_rfl, by kernel_rfl, by kernel_rfl, by kernel_rfl⟩
theorem ty64 : tyP 64 ti64 := ⟨by kernel_rfl, Try.t64, by kernel_rfl, by kernel_rfl, by kernel_rfl, by kernel_rfl⟩
theorem ty65 : tyP 65 ti65 := ⟨by kernel_rfl, Try.t65, by kernel_rfl, by kernel_rfl, by kernel_rfl, by kernel_rfl⟩
theorem ty66 : tyP 66 ti66 := ⟨by kernel_rfl, Try.t66, by kernel_rfl, by kernel_rfl, by kernel_rfl, by kernel_rfl⟩
theorem ty67 : tyP 67 ti67 := ⟨by kernel_rfl, Try.t67, by kernel_rfl, by kernel_rfl, by kernel_rfl, by kernel_rfl⟩
theorem ty68 : tyP 68 ti68 := ⟨by kernel_rfl, Try.t68, by kernel_rfl, by kernel_rfl, by kernel_rfl, by kernel_rfl⟩
theorem ty69 : tyP 69 ti69 := ⟨by kernel_rfl, Try.t69, by kernel_rfl, by kernel_rfl, by kernel_rfl, by kernel_rfl⟩
theorem ty70 : tyP 70 ti70 := ⟨by kernel_rfl, Try.t70, by kernel_rfl, by kernel_rfl, by kernel_rfl, by kernel_rfl⟩
theorem ty71 : tyP 71 ti71 := ⟨by kernel_rfl, Try.t71, by kernel_rfl, by kernel_rfl, by kernel_rfl, by kernel_rfl⟩
theorem ty72 : tyP 72 ti72 := ⟨by kernel_rfl, Try.t72, by kernel_rfl, by kernel_rfl, by kernel_rfl, by kernel_rfl⟩
theorem ty74 : tyP 74 ti74 := ⟨by kernel_rfl, Try.t74, by kernel_rfl, by kernel_rfl, by kernel_rfl, by kernel_rfl⟩
theorem ty75 : tyP 75 ti75 := ⟨by kernel_rfl, Try.t75, by kernel_rfl, by kernel_rfl, by kernel_rfl, by kernel_rfl⟩
theorem ty76 : tyP 76 ti76 := ⟨by kernel_rfl, Try.t76, by kernel_rfl, by kernel_rfl, by kernel_rfl, by kernel_rfl⟩
theorem ty77 : tyP 77 ti77 := ⟨by kernel_rfl, Try.t77, by kernel_rfl, by kernel_rfl, by kernel_rfl, by kernel_rfl⟩
theorem ty78 : tyP 78 ti78 := ⟨by kernel_rfl, Try.t78, by kernel_rfl, by kernel_rfl, by kernel_rfl, by kernel_rfl⟩
theorem ty79 : tyP 79 ti79 := ⟨by kernel_rfl, Try.t79, by kernel_rfl, by kernel_rfl, by kernel_rfl, by kernel_rfl⟩
theorem ty80 : tyP 80 ti80 := ⟨by kernel_rfl, Try.t80, by kernel_rfl, by kernel_rfl, by kernel_rfl, by kernel_rfl⟩
theorem ty81 : tyP 81 ti81 := ⟨by kernel_rfl, Try.t81, by kernel_rfl, by kernel_rfl, by kernel_rfl, by kernel_rfl⟩
theorem ty82 : tyP 82 ti82 := ⟨by kernel_rfl, Try.t82, by kernel_rfl, by kernel_rfl, by kernel_rfl, by kernel_rfl⟩
theorem ty84 : tyP 84 ti84 := ⟨by kernel_rfl, Try.t84, by kernel_rfl, by kernel_rfl, by kernel_rfl, by kernel_rfl⟩
theorem ty85 : tyP 85 ti85 := ⟨by kernel_rfl, Try.t85, by kernel_rfl, by kernel_rfl, by kernel_rfl, by kernel_rfl⟩
theorem ty86 : tyP 86 ti86 := ⟨by kernel_rfl, Try.t86, by kernel_rfl, by kernel_rfl, by kernel_rfl, by kernel_rfl⟩
theorem ty87 : tyP 87 ti87 := ⟨by kernel_rfl, Try.t87, by kernel_rfl, by kernel_rfl, by kernel_rfl, by kernel_rfl⟩
theorem ty89 : tyP 89 ti89 := ⟨by kernel_rfl, Try.t89, by kernel_rfl, by kernel_rfl, by kernel_rfl, by kernel_rfl⟩
theorem ty90 : tyP 90 ti90 := ⟨by kernel_rfl, Try.t90, by kernel_rfl, by kernel_rfl, by kernel_rfl, by kernel_rfl⟩
theorem ty92 : tyP 92 ti92 := ⟨by kernel_rfl, Try.t92, by kernel_rfl, by kernel_rfl, by kernel_rfl, by kernel_rfl⟩
theorem ty93 : tyP 93 ti93 := ⟨by kernel_rfl, Try.t93, by kernel_rfl, by kernel_rfl, by kernel_rfl, by kernel_rfl⟩
theorem ty94 : tyP 94 ti94 := ⟨by kernel_rfl, Try.t94, by kernel_rfl, by kernel_rfl, by kernel_rfl, by kernel_rfl⟩
theorem ty95 : tyP 95 ti95 := ⟨by kernel_rfl, Try.t95, by kernel_rfl, by kernel_rfl, by kernel_rfl, by kernel_rfl⟩
theorem ty96 : tyP 96 ti96 := ⟨by kernel_rfl, Try.t96, by kernel_rfl, by kernel_rfl, by kernel_rfl, by kernel_rfl⟩
theorem ty97 : tyP 97 ti97 := ⟨by kernel_rfl, Try.t97, by kernel_rfl, by kernel_rfl, by kernel_rfl, by kernel_rfl⟩
theorem ty99 : tyP 99 ti99 := ⟨by kernel_rfl, Try.t99, by kernel_rfl, by kernel_rfl, by kernel_rfl, by kernel_rfl⟩
theorem ty100 : tyP 100 ti100 := ⟨by kernel_rfl, Try.t100, by kernel_rfl, by kernel_rfl, by kernel_rfl, by kernel_rfl⟩
theorem ty101 : tyP 101 ti101 := ⟨by kernel_rfl, Try.t101, by kernel_rfl, by kernel_rfl, by kernel_rfl, by kernel_rfl⟩
theorem ty103 : tyP 103 ti103 := ⟨by kernel_rfl, Try.t103, by kernel_rfl, by kernel_rfl, by kernel_rfl, by kernel_rfl⟩
theorem ty104 : tyP 104 ti104 := ⟨by kernel_rfl, Try.t104, by kernel_rfl, by kernel_rfl, by kernel_rfl, by kernel_rfl⟩
theorem ty105 : tyP 105 ti105 := ⟨by kernel_rfl, Try.t105, by kernel_rfl, by kernel_rfl, by kernel_rfl, by kernel_rfl⟩
theorem ty106 : tyP 106 ti106 := ⟨by kernel_rfl, Try.t106, by kernel_rfl, by kernel_rfl, by kernel_rfl, by kernel_rfl⟩
theorem ty107 : tyP 107 ti107 := ⟨by kernel_rfl, Try.t107, by kernel_rfl, by kernel_rfl, by kernel_rfl, by kernel_rfl⟩
theorem ty108 : tyP 108 ti108 := ⟨by kernel_rfl, Try.t108, by kernel_rfl, by kernel_rfl, by kernel_rfl, by kernel_rfl⟩
theorem ty109 : tyP 109 ti109 := ⟨by kernel_rfl, Try.t109, by kernel_rfl, by kernel_rfl, by kernel_rfl, by kernel_rfl⟩
theorem ty110 : tyP 110 ti110 := ⟨by kernel_rfl, Try.t110, by kernel_rfl, by kernel_rfl, by kernel_rfl, by kernel_rfl⟩
theorem ty111 : tyP 111 ti111 := ⟨by kernel_rfl, Try.t111, by kernel_rfl, by kernel_rfl, by kernel_rfl, by kernel_rfl⟩
theorem ty112 : tyP 112 ti112 := ⟨by kernel_rfl, Try.t112, by kernel_rfl, by kernel_rfl, by kernel_rfl, by kernel_rfl⟩
theorem ty113 : tyP 113 ti113 := ⟨by kernel_rfl, Try.t113, by kernel_rfl, by kernel_rfl, by kernel_rfl, by kernel_rfl⟩
theorem ty114 : tyP 114 ti114 := ⟨by kernel_rfl, Try.t114, by kernel_rfl, by kernel_rfl, by kernel_rfl, by kernel_rfl⟩
theorem ty115 : tyP 115 ti115 := ⟨by kernel_rfl, Try.t115, by kernel_rfl, by kernel_rfl, by kernel_rfl, by kernel_rfl⟩
theorem ty116 : tyP 116 ti116 := ⟨by kernel_rfl, Try.t116, by kernel_rfl, by kernel_rfl, by kernel_rfl, by kernel_rfl⟩
theorem ty117 : tyP 117 ti117 := ⟨by kernel_rfl, Try.t117, by kernel_rfl, by kernel_rfl, by kernel_rfl, by kernel_rfl⟩
theorem ty118 : tyP 118 ti118 := ⟨by kernel_rfl, Try.t118, by kernel_rfl, by kernel_rfl, by kernel_rfl, by kernel_rfl⟩
theorem ty119 : tyP 119 ti119 := ⟨by kernel_rfl, Try.t119, by kernel_rfl, by kernel_rfl, by kernel_rfl, by kernel_rfl⟩
theorem ty120 : tyP 120 ti120 := ⟨by kernel_rfl, Try.t120, by kernel_rfl, by kernel_rfl, by kernel_rfl, by kernel_rfl⟩
theorem ty121 : tyP 121 ti121 := ⟨by kernel_rfl, Try.t121, by kernel_rfl, by kernel_rfl, by kernel_rfl, by kernel_rfl⟩
theorem ty122 : tyP 122 ti122 := ⟨by kernel_rfl, Try.t122, by kernel_rfl, by kernel_rfl, by kernel_rfl, by kernel_rfl⟩
theorem ty124 : tyP 124 ti124 := ⟨by kernel_rfl, Try.t124, by kernel_rfl, by kernel_rfl, by kernel_rfl, by kernel_rfl⟩
theorem ty125 : tyP 125 ti125 := ⟨by kernel_rfl, Try.t125, by kernel_rfl, by kernel_rfl, by kernel_rfl, by kernel_rfl⟩
theorem ty127 : tyP 127 ti127 := ⟨by kernel_rfl, Try.t127, by kernel_rfl, by kernel_rfl, by kernel_rfl, by kernel_rfl⟩
theorem ty128 : tyP 128 ti128 := ⟨by kernel_rfl, Try.t128, by kernel_rfl, by kernel_rfl, by kernel_rfl, by kernel_rfl⟩
theorem ty129 : tyP 129 ti129 := ⟨by kernel_rfl, Try.t129, by kernel_rfl, by kernel_rfl, by kernel_rfl, by kernel_rfl⟩
theorem ty131 : tyP 131 ti131 := ⟨by kernel_rfl, Try.t131, by kernel_rfl, by kernel_rfl, by kernel_rfl, by kernel_rfl⟩
theorem ty132 : tyP 132 ti132 := ⟨by kernel_rfl, Try.t132, by kernel_rfl, by kernel_rfl, by kernel_rfl, by kernel_rfl⟩
theorem ty133 : tyP 133 ti133 := ⟨by kernel_rfl, Try.t133, by kernel_rfl, by kernel_rfl, by kernel_rfl, by kernel_rfl⟩
theorem ty137 : tyP 137 ti137 := ⟨by kernel_rfl, Try.t137, by kernel_rfl, by kernel_rfl, by kernel_rfl, by kernel_rfl⟩
theorem ty138 : tyP 138 ti138 := ⟨by kernel_rfl, Try.t138, by kernel_rfl, by kernel_rfl, by kernel_rfl, by kernel_rfl⟩
theorem ty139 : tyP 139 ti139 := ⟨by kernel_rfl, Try.t139, by kernel_rfl, by kernel_rfl, by kernel_rfl, by kernel_rfl⟩
theorem ty140 : tyP 140 ti140 := ⟨by kernel_rfl, Try.t140, by kernel_rfl, by kernel_rfl, by kernel_rfl, by kernel_rfl⟩
theorem ty141 : tyP 141 ti141 := ⟨by kernel_rfl, Try.t141, by kernel_rfl, by kernel_rfl, by kernel_rfl, by kernel_rfl⟩
theorem ty142 : tyP 142 ti142 := ⟨by kernel_rfl, Try.t142, by kernel_rfl, by kernel_rfl, by kernel_rfl, by kernel_rfl⟩
theorem ty144 : tyP 144 ti144 := ⟨by kernel_rfl, Try.t144, by kernel_rfl, by kernel_rfl, by kernel_rfl, by kernel_rfl⟩
theorem ty145 : tyP 145 ti145 := ⟨by kernel_rfl, Try.t145, by kernel_rfl, by kernel_rfl, by kernel_rfl, by kernel_rfl⟩
theorem ty146 : tyP 146 ti146 := ⟨by kernel_rfl, Try.t146, by kernel_rfl, by kernel_rfl, by kernel_rfl, by kernel_rfl⟩
theorem ty147 : tyP 147 ti147 := ⟨by kernel_rfl, Try.t147, by kernel_rfl, by kernel_rfl, by kernel_rfl, by kernel_rfl⟩
theorem ty148 : tyP 148 ti148 := ⟨by kernel_rfl, Try.t148, by kernel_rfl, by kernel_rfl, by kernel_rfl, by kernel_rfl⟩
theorem ty149 : tyP 149 ti149 := ⟨by kernel_rfl, Try.t149, by kernel_rfl, by kernel_rfl, by kernel_rfl, by kernel_rfl⟩
theorem ty150 : tyP 150 ti150 := ⟨by kernel_rfl, Try.t150, by kernel_rfl, by kernel_rfl, by kernel_rfl, by kernel_rfl⟩
theorem ty151 : tyP 151 ti151 := ⟨by kernel_rfl, Try.t151, by kernel_rfl, by kernel_rfl, by kernel_rfl, by kernel_rfl⟩
theorem ty152 : tyP 152 ti152 := ⟨by kernel_rfl, Try.t152, by kernel_rfl, by kernel_rfl, by kernel_rfl, by kernel_rfl⟩
theorem ty153 : tyP 153 ti153 := ⟨by kernel_rfl, Try.t153, by kernel_rfl, by kernel_rfl, by kernel_rfl, by kernel_rfl⟩
theorem ty154 : tyP 154 ti154 := ⟨by kernel_rfl, Try.t154, by kernel_rfl, by kernel_rfl, by kernel_rfl, by kernel_rfl⟩
theorem ty155 : tyP 155 ti155 := ⟨by kernel_rfl, Try.t155, by kernel_rfl, by kernel_rfl, by kernel_rfl, by kernel_rfl⟩
theorem ty156 : tyP 156 ti156 := ⟨by kernel_rfl, Try.t156, by kernel_rfl, by kernel_rfl, by kernel_rfl, by kernel_rfl⟩
theorem ty157 : tyP 157 ti157 := ⟨by kernel_rfl, Try.t157, by kernel_rfl, by kernel_rfl, by kernel_rfl, by kernel_rfl⟩
theorem ty158 : tyP 158 ti158 := ⟨by kernel_rfl, Try.t158, by kernel_rfl, by kernel_rfl, by kernel_rfl, by kernel_rfl⟩
theorem ty159 : tyP 159 ti159 := ⟨by kernel_rfl, Try.t159, by kernel_rfl, by kernel_rfl, by kernel_rfl, by kernel_rfl⟩
theorem ty160 : tyP 160 ti160 := ⟨by kernel_rfl, Try.t160, by kernel_rfl, by kernel_rfl, by kernel_rfl, by kernel_rfl⟩
theorem ty161 : tyP 161 ti161 := ⟨by kernel_rfl, Try.t161, by kernel_rfl, by kernel_rfl, by kernel_rfl, by kernel_rfl⟩
theorem ty162 : tyP 162 ti162 := ⟨by kernel_rfl, Try.t162, by kernel_rfl, by kernel_rfl, by kernel_rfl, by kernel_rfl⟩
theorem ty163 : tyP 163 ti163 := ⟨by kernel_rfl, Try.t163, by kernel_rfl, by kernel_rfl, by kernel_rfl, by kernel_rfl⟩
noncomputable def tyTTree : Tr TI := (.node none (.node (some ti1) (.node (some ti3) (.node (some ti7) (.node (some ti15) (.node (some ti31) (.node (some ti63) (.node (some ti127) .leaf .leaf) .leaf) (.node (some ti95) (.node (some ti159) .leaf .leaf) .leaf)) (.node (some ti47) (.node (some ti79) .leaf .leaf) (.node (some ti111) .leaf .leaf))) (.node (some ti23) (.node (some ti39) (.node (some ti71) .leaf .leaf) (.node (some ti103) .leaf .leaf)) (.node (some ti55) (.node (some ti87) (.node (some ti151) .leaf .leaf) .leaf) (.node (some ti119) .leaf .leaf)))) (.node (some ti11) (.node (some ti19) (.node (some ti35) (.node (some ti67) (.node (some ti131) .leaf .leaf) .leaf) (.node (some ti99) (.node (some ti163) .leaf .leaf) .leaf)) (.node (some ti51) (.node none (.node (some ti147) .leaf .leaf) .leaf) (.node (some ti115) .leaf .leaf))) (.node (some ti27) (.node (some ti43) (.node (some ti75) (.node (some ti139) .leaf .leaf) .leaf) (.node (some ti107) .leaf .leaf)) (.node none (.node none (.node (some ti155) .leaf .leaf) .leaf) .leaf)))) (.node (some ti5) (.node (some ti9) (.node (some ti17) (.node (some ti33) (.node (some ti65) (.node (some ti129) .leaf .leaf) .leaf) (.node (some ti97) (.node (some ti161) .leaf .leaf) .leaf)) (.node (some ti49) (.node (some ti81) (.node (some ti145) .leaf .leaf) .leaf) (.node (some ti113) .leaf .leaf))) (.node none (.node (some ti41) (.node none (.node (some ti137) .leaf .leaf) .leaf) (.node (some ti105) .leaf .leaf)) (.node (some ti57) (.node (some ti89) (.node (some ti153) .leaf .leaf) .leaf) (.node (some ti121) .leaf .leaf)))) (.node (some ti13) (.node (some ti21) (.node (some ti37) (.node (some ti69) (.node (some ti133) .leaf .leaf) .leaf) (.node (some ti101) .leaf .leaf)) (.node (some ti53) (.node (some ti85) (.node (some ti149) .leaf .leaf) .leaf) (.node (some ti117) .leaf .leaf))) (.node (some ti29) (.node (some ti45) (.node (some ti77) (.node (some ti141) .leaf .leaf) .leaf) (.node (some ti109) .leaf .leaf)) (.node (some ti61) (.node (some ti93) (.node (some ti157) .leaf .leaf) .leaf) (.node (some ti125) .leaf .leaf)))))) (.node (some ti2) (.node (some ti4) (.node (some ti8) (.node (some ti16) (.node (some ti32) (.node (some ti64) (.node (some ti128) .leaf .leaf) .leaf) (.node (some ti96) (.node (some ti160) .leaf .leaf) .leaf)) (.node (some ti48) (.node (some ti80) (.node (some ti144) .leaf .leaf) .leaf) (.node (some ti112) .leaf .leaf))) (.node (some ti24) (.node (some ti40) (.node (some ti72) .leaf .leaf) (.node (some ti104) .leaf .leaf)) (.node (some ti56) (.node none (.node (some ti152) .leaf .leaf) .leaf) (.node (some ti120) .leaf .leaf)))) (.node (some ti12) (.node none (.node (some ti36) (.node (some ti68) (.node (some ti132) .leaf .leaf) .leaf) (.node (some ti100) .leaf .leaf)) (.node (some ti52) (.node (some ti84) (.node (some ti148) .leaf .leaf) .leaf) (.node (some ti116) .leaf .leaf))) (.node (some ti28) (.node none (.node (some ti76) (.node (some ti140) .leaf .leaf) .leaf) (.node (some ti108) .leaf .leaf)) (.node (some ti60) (.node (some ti92) (.node (some ti156) .leaf .leaf) .leaf) (.node (some ti124) .leaf .leaf))))) (.node (some ti6) (.node (some ti10) (.node (some ti18) (.node (some ti34) (.node (some ti66) .leaf .leaf) (.node none (.node (some ti162) .leaf .leaf) .leaf)) (.node (some ti50) (.node (some ti82) (.node (some ti146) .leaf .leaf) .leaf) (.node (some ti114) .leaf .leaf))) (.node (some ti26) (.node (some ti42) (.node (some ti74) (.node (some ti138) .leaf .leaf) .leaf) (.node (some ti106) .leaf .leaf)) (.node (some ti58) (.node (some ti90) (.node (some ti154) .leaf .leaf) .leaf) (.node (some ti122) .leaf .leaf)))) (.node (some ti14) (.node (some ti22) (.node (some ti38) (.node (some ti70) .leaf .leaf) .leaf) (.node (some ti54) (.node (some ti86) (.node (some ti150) .leaf .leaf) .leaf) (.node (some ti118) .leaf .leaf))) (.node (some ti30) (.node (some ti46) (.node (some ti78) (.node (some ti142) .leaf .leaf) .leaf) (.node (some ti110) .leaf .leaf)) (.node none (.node (some ti94) (.node (some ti158) .leaf .leaf) .leaf) .leaf))))))
noncomputable def tyT : Nat → Option TI := tyTTree.get
theorem tyT_all : tyTTree.All tyP := ⟨Tr.all0, ⟨Tr.all1 (ty1), ⟨Tr.all1 (ty3), ⟨Tr.all1 (ty7), ⟨Tr.all1 (ty15), ⟨Tr.all1 (ty31), ⟨Tr.all1 (ty63), ⟨Tr.all1 (ty127), trivial, trivial⟩, trivial⟩, ⟨Tr.all1 (ty95), ⟨Tr.all1 (ty159), trivial, trivial⟩, trivial⟩⟩, ⟨Tr.all1 (ty47), ⟨Tr.all1 (ty79), trivial, trivial⟩, ⟨Tr.all1 (ty111), trivial, trivial⟩⟩⟩, ⟨Tr.all1 (ty23), ⟨Tr.all1 (ty39), ⟨Tr.all1 (ty71), trivial, trivial⟩, ⟨Tr.all1 (ty103), trivial, trivial⟩⟩, ⟨Tr.all1 (ty55), ⟨Tr.all1 (ty87), ⟨Tr.all1 (ty151), trivial, trivial⟩, trivial⟩, ⟨Tr.all1 (ty119), trivial, trivial⟩⟩⟩⟩, ⟨Tr.all1 (ty11), ⟨Tr.all1 (ty19), ⟨Tr.all1 (ty35), ⟨Tr.all1 (ty67), ⟨Tr.all1 (ty131), trivial, trivial⟩, trivial⟩, ⟨Tr.all1 (ty99), ⟨Tr.all1 (ty163), trivial, trivial⟩, trivial⟩⟩, ⟨Tr.all1 (ty51), ⟨Tr.all0, ⟨Tr.all1 (ty147), trivial, trivial⟩, trivial⟩, ⟨Tr.all1 (ty115), trivial, trivial⟩⟩⟩, ⟨Tr.all1 (ty27), ⟨Tr.all1 (ty43), ⟨Tr.all1 (ty75), ⟨Tr.all1 (ty139), trivial, trivial⟩, trivial⟩, ⟨Tr.all1 (ty107), trivial, trivial⟩⟩, ⟨Tr.all0, ⟨Tr.all0, ⟨Tr.all1 (ty155), trivial, trivial⟩, trivial⟩, trivial⟩⟩⟩⟩, ⟨Tr.all1 (ty5), ⟨Tr.all1 (ty9), ⟨Tr.all1 (ty17), ⟨Tr.all1 (ty33), ⟨Tr.all1 (ty65), ⟨Tr.all1 (ty129), trivial, trivial⟩, trivial⟩, ⟨Tr.all1 (ty97), ⟨Tr.all1 (ty161), trivial, trivial⟩, trivial⟩⟩, ⟨Tr.all1 (ty49), ⟨Tr.all1 (ty81), ⟨Tr.all1 (ty145), trivial, trivial⟩, trivial⟩, ⟨Tr.all1 (ty113), trivial, trivial⟩⟩⟩, ⟨Tr.all0, ⟨Tr.all1 (ty41), ⟨Tr.all0, ⟨Tr.all1 (ty137), trivial, trivial⟩, trivial⟩, ⟨Tr.all1 (ty105), trivial, trivial⟩⟩, ⟨Tr.all1 (ty57), ⟨Tr.all1 (ty89), ⟨Tr.all1 (ty153), trivial, trivial⟩, trivial⟩, ⟨Tr.all1 (ty121), trivial, trivial⟩⟩⟩⟩, ⟨Tr.all1 (ty13), ⟨Tr.all1 (ty21), ⟨Tr.all1 (ty37), ⟨Tr.all1 (ty69), ⟨Tr.all1 (ty133), trivial, trivial⟩, trivial⟩, ⟨Tr.all1 (ty101), trivial, trivial⟩⟩, ⟨Tr.all1 (ty53), ⟨Tr.all1 (ty85), ⟨Tr.all1 (ty149), trivial, trivial⟩, trivial⟩, ⟨Tr.all1 (ty117), trivial, trivial⟩⟩⟩, ⟨Tr.all1 (ty29), ⟨Tr.all1 (ty45), ⟨Tr.all1 (ty77), ⟨Tr.all1 (ty141), trivial, trivial⟩, trivial⟩, ⟨Tr.all1 (ty109), trivial, trivial⟩⟩, ⟨Tr.all1 (ty61), ⟨Tr.all1 (ty93), ⟨Tr.all1 (ty157), trivial, trivial⟩, trivial⟩, ⟨Tr.all1 (ty125), trivial, trivial⟩⟩⟩⟩⟩⟩, ⟨Tr.all1 (ty2), ⟨Tr.all1 (ty4), ⟨Tr.all1 (ty8), ⟨Tr.all1 (ty16), ⟨Tr.all1 (ty32), ⟨Tr.all1 (ty64), ⟨Tr.all1 (ty128), trivial, trivial⟩, trivial⟩, ⟨Tr.all1 (ty96), ⟨Tr.all1 (ty160), trivial, trivial⟩, trivial⟩⟩, ⟨Tr.all1 (ty48), ⟨Tr.all1 (ty80), ⟨Tr.all1 (ty144), trivial, trivial⟩, trivial⟩, ⟨Tr.all1 (ty112), trivial, trivial⟩⟩⟩, ⟨Tr.all1 (ty24), ⟨Tr.all1 (ty40), ⟨Tr.all1 (ty72), trivial, trivial⟩, ⟨Tr.all1 (ty104), trivial, trivial⟩⟩, ⟨Tr.all1 (ty56), ⟨Tr.all0, ⟨Tr.all1 (ty152), trivial, trivial⟩, trivial⟩, ⟨Tr.all1 (ty120), trivial, trivial⟩⟩⟩⟩, ⟨Tr.all1 (ty12), ⟨Tr.all0, ⟨Tr.all1 (ty36), ⟨Tr.all1 (ty68), ⟨Tr.all1 (ty132), trivial, trivial⟩, trivial⟩, ⟨Tr.all1 (ty100), trivial, trivial⟩⟩, ⟨Tr.all1 (ty52), ⟨Tr.all1 (ty84), ⟨Tr.all1 (ty148), trivial, trivial⟩, trivial⟩, ⟨Tr.all1 (ty116), trivial, trivial⟩⟩⟩, ⟨Tr.all1 (ty28), ⟨Tr.all0, ⟨Tr.all1 (ty76), ⟨Tr.all1 (ty140), trivial, trivial⟩, trivial⟩, ⟨Tr.all1 (ty108), trivial, trivial⟩⟩, ⟨Tr.all1 (ty60), ⟨Tr.all1 (ty92), ⟨Tr.all1 (ty156), trivial, trivial⟩, trivial⟩, ⟨Tr.all1 (ty124), trivial, trivial⟩⟩⟩⟩⟩, ⟨Tr.all1 (ty6), ⟨Tr.all1 (ty10), ⟨Tr.all1 (ty18), ⟨Tr.all1 (ty34), ⟨Tr.all1 (ty66), trivial, trivial⟩, ⟨Tr.all0, ⟨Tr.all1 (ty162), trivial, trivial⟩, trivial⟩⟩, ⟨Tr.all1 (ty50), ⟨Tr.all1 (ty82), ⟨Tr.all1 (ty146), trivial, trivial⟩, trivial⟩, ⟨Tr.all1 (ty114), trivial, trivial⟩⟩⟩, ⟨Tr.all1 (ty26), ⟨Tr.all1 (ty42), ⟨Tr.all1 (ty74), ⟨Tr.all1 (ty138), trivial, trivial⟩, trivial⟩, ⟨Tr.all1 (ty106), trivial, trivial⟩⟩, ⟨Tr.all1 (ty58), ⟨Tr.all1 (ty90), ⟨Tr.all1 (ty154), trivial, trivial⟩, trivial⟩, ⟨Tr.all1 (ty122), trivial, trivial⟩⟩⟩⟩, ⟨Tr.all1 (ty14), ⟨Tr.all1 (ty22), ⟨Tr.all1 (ty38), ⟨Tr.all1 (ty70), trivial, trivial⟩, trivial⟩, ⟨Tr.all1 (ty54), ⟨Tr.all1 (ty86), ⟨Tr.all1 (ty150), trivial, trivial⟩, trivial⟩, ⟨Tr.all1 (ty118), trivial, trivial⟩⟩⟩, ⟨Tr.all1 (ty30), ⟨Tr.all1 (ty46), ⟨Tr.all1 (ty78), ⟨Tr.all1 (ty142), trivial, trivial⟩, trivial⟩, ⟨Tr.all1 (ty110), trivial, trivial⟩⟩, ⟨Tr.all0, ⟨Tr.all1 (ty94), ⟨Tr.all1 (ty158), trivial, trivial⟩, trivial⟩, trivial⟩⟩⟩⟩⟩⟩
theorem tyT_ok : ∀ n a, tyT n = some a → tyP n a := Tr.get_all tyT_all
def eqT : Nat → Bool
 | 28 => true
 | _ => false
theorem eqT_ok : ∀ t, eqT t = true → Try.prog.stoodInHeld t = false ∧ Try.prog.eqGuardType Try.prog.depth t = false := by
 intro t h
 unfold eqT at h
 split at h
 ·exact ⟨by kernel_rfl, by kernel_rfl⟩
 ·cases h
def extT : Nat → Option Ext
 | 81 => some .same
 | _ => none
theorem extT_ok : ∀ f x, extT f = some x → ∃ F, Try.prog.funcs[f]? = some F ∧ (F.name == "runtime.NumGoroutine") = false ∧ F.body = none ∧ Extern.findNext F = none ∧ ExtIs Try.prog F x := by
 intro f x h
 unfold extT at h
 split at h
 ·cases h; exact ⟨Try.f81, Try.func81, by kernel_rfl, by kernel_rfl, by kernel_rfl, (show Extern.find Try.f81 = some Extern.AbiNoEscape.same by kernel_rfl)⟩
 ·cases h
noncomputable def E : Env := { P := Try.prog, fn := fnT, ty := tyT, fnOk := fun f F h => (fnT_ok f F h).1, fnName := fun f F h => (fnT_ok f F h).2, tyOk := tyT_ok, ext := extT, extOk := extT_ok, mixed := by kernel_rfl, eqT := eqT, eqOk := eqT_ok }
end Go.Proofs.Ytfpnjpbdaniomaa
