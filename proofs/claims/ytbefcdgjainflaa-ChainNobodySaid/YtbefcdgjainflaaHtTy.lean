/- The types of the translation, as Sx reads them. Written by gen.py. -/
import Derived.Test.YtbefcdgjainflaaSxW
import Derived.Test.YtbefcdgjainflaaProg
import Derived.KernelRfl
namespace Go.Proofs.Ytbefcdgjainflaa
open Sx

theorem ty1 : TyOK Try.prog 1 ⟨1, 8, .fn, (.nilf)⟩ := ⟨by kernel_rfl, by kernel_rfl, by kernel_rfl, by kernel_rfl, by kernel_rfl, by kernel_rfl⟩
theorem ty2 : TyOK Try.prog 2 ⟨1, 8, .int .i64, (.int .i64 0)⟩ := ⟨by kernel_rfl, by kernel_rfl, by kernel_rfl, by kernel_rfl, by kernel_rfl, by kernel_rfl⟩
theorem ty3 : TyOK Try.prog 3 ⟨1, 8, .int .i64, (.int .i64 0)⟩ := ⟨by kernel_rfl, by kernel_rfl, by kernel_rfl, by kernel_rfl, by kernel_rfl, by kernel_rfl⟩
theorem ty4 : TyOK Try.prog 4 ⟨1, 1, .bool, (.bool false)⟩ := ⟨by kernel_rfl, by kernel_rfl, by kernel_rfl, by kernel_rfl, by kernel_rfl, by kernel_rfl⟩
theorem ty5 : TyOK Try.prog 5 ⟨1, 1, .int .u8, (.int .u8 0)⟩ := ⟨by kernel_rfl, by kernel_rfl, by kernel_rfl, by kernel_rfl, by kernel_rfl, by kernel_rfl⟩
theorem ty6 : TyOK Try.prog 6 ⟨1, 1, .int .u8, (.int .u8 0)⟩ := ⟨by kernel_rfl, by kernel_rfl, by kernel_rfl, by kernel_rfl, by kernel_rfl, by kernel_rfl⟩
theorem ty7 : TyOK Try.prog 7 ⟨4, 24, .strct [(0, 2), (1, 3), (2, 4), (3, 6)], .agg [.int .i64 0, .int .i64 0, .bool false, .int .u8 0]⟩ := ⟨by kernel_rfl, by kernel_rfl, by kernel_rfl, by kernel_rfl, by kernel_rfl, by kernel_rfl⟩
theorem ty8 : TyOK Try.prog 8 ⟨4, 24, .strct [(0, 2), (1, 3), (2, 4), (3, 6)], .agg [.int .i64 0, .int .i64 0, .bool false, .int .u8 0]⟩ := ⟨by kernel_rfl, by kernel_rfl, by kernel_rfl, by kernel_rfl, by kernel_rfl, by kernel_rfl⟩
theorem ty9 : TyOK Try.prog 9 ⟨1, 16, .str, (.str ByteArray.empty)⟩ := ⟨by kernel_rfl, by kernel_rfl, by kernel_rfl, by kernel_rfl, by kernel_rfl, by kernel_rfl⟩
theorem ty10 : TyOK Try.prog 10 ⟨1, 16, .str, (.str ByteArray.empty)⟩ := ⟨by kernel_rfl, by kernel_rfl, by kernel_rfl, by kernel_rfl, by kernel_rfl, by kernel_rfl⟩
theorem ty11 : TyOK Try.prog 11 ⟨1, 16, .str, (.str ByteArray.empty)⟩ := ⟨by kernel_rfl, by kernel_rfl, by kernel_rfl, by kernel_rfl, by kernel_rfl, by kernel_rfl⟩
theorem ty12 : TyOK Try.prog 12 ⟨1, 8, .int .u64, (.int .u64 0)⟩ := ⟨by kernel_rfl, by kernel_rfl, by kernel_rfl, by kernel_rfl, by kernel_rfl, by kernel_rfl⟩
theorem ty15 : TyOK Try.prog 15 ⟨1, 8, .ptr 61, (.nilp)⟩ := ⟨by kernel_rfl, by kernel_rfl, by kernel_rfl, by kernel_rfl, by kernel_rfl, by kernel_rfl⟩
theorem ty16 : TyOK Try.prog 16 ⟨1, 8, .ptr 64, (.nilp)⟩ := ⟨by kernel_rfl, by kernel_rfl, by kernel_rfl, by kernel_rfl, by kernel_rfl, by kernel_rfl⟩
theorem ty17 : TyOK Try.prog 17 ⟨1, 8, .ptr 74, (.nilp)⟩ := ⟨by kernel_rfl, by kernel_rfl, by kernel_rfl, by kernel_rfl, by kernel_rfl, by kernel_rfl⟩
theorem ty20 : TyOK Try.prog 20 ⟨1, 16, .ifc, (.nili)⟩ := ⟨by kernel_rfl, by kernel_rfl, by kernel_rfl, by kernel_rfl, by kernel_rfl, by kernel_rfl⟩
theorem ty21 : TyOK Try.prog 21 ⟨1, 4, .int .i32, (.int .i32 0)⟩ := ⟨by kernel_rfl, by kernel_rfl, by kernel_rfl, by kernel_rfl, by kernel_rfl, by kernel_rfl⟩
theorem ty22 : TyOK Try.prog 22 ⟨2, 24, .strct [(0, 9), (1, 3)], .agg [.str ByteArray.empty, .int .i64 0]⟩ := ⟨by kernel_rfl, by kernel_rfl, by kernel_rfl, by kernel_rfl, by kernel_rfl, by kernel_rfl⟩
theorem ty23 : TyOK Try.prog 23 ⟨2, 24, .strct [(0, 9), (1, 3)], .agg [.str ByteArray.empty, .int .i64 0]⟩ := ⟨by kernel_rfl, by kernel_rfl, by kernel_rfl, by kernel_rfl, by kernel_rfl, by kernel_rfl⟩
theorem ty24 : TyOK Try.prog 24 ⟨1, 8, .fn, (.nilf)⟩ := ⟨by kernel_rfl, by kernel_rfl, by kernel_rfl, by kernel_rfl, by kernel_rfl, by kernel_rfl⟩
theorem ty25 : TyOK Try.prog 25 ⟨1, 24, .slice 28, (.nils)⟩ := ⟨by kernel_rfl, by kernel_rfl, by kernel_rfl, by kernel_rfl, by kernel_rfl, by kernel_rfl⟩
theorem ty26 : TyOK Try.prog 26 ⟨1, 8, .fn, (.nilf)⟩ := ⟨by kernel_rfl, by kernel_rfl, by kernel_rfl, by kernel_rfl, by kernel_rfl, by kernel_rfl⟩
theorem ty27 : TyOK Try.prog 27 ⟨1, 16, .ifc, (.nili)⟩ := ⟨by kernel_rfl, by kernel_rfl, by kernel_rfl, by kernel_rfl, by kernel_rfl, by kernel_rfl⟩
theorem ty28 : TyOK Try.prog 28 ⟨1, 16, .ifc, (.nili)⟩ := ⟨by kernel_rfl, by kernel_rfl, by kernel_rfl, by kernel_rfl, by kernel_rfl, by kernel_rfl⟩
theorem ty29 : TyOK Try.prog 29 ⟨1, 24, .slice 9, (.nils)⟩ := ⟨by kernel_rfl, by kernel_rfl, by kernel_rfl, by kernel_rfl, by kernel_rfl, by kernel_rfl⟩
theorem ty30 : TyOK Try.prog 30 ⟨1, 8, .int .i64, (.int .i64 0)⟩ := ⟨by kernel_rfl, by kernel_rfl, by kernel_rfl, by kernel_rfl, by kernel_rfl, by kernel_rfl⟩
theorem ty32 : TyOK Try.prog 32 ⟨1, 8, .fn, (.nilf)⟩ := ⟨by kernel_rfl, by kernel_rfl, by kernel_rfl, by kernel_rfl, by kernel_rfl, by kernel_rfl⟩
theorem ty34 : TyOK Try.prog 34 ⟨1, 8, .fn, (.nilf)⟩ := ⟨by kernel_rfl, by kernel_rfl, by kernel_rfl, by kernel_rfl, by kernel_rfl, by kernel_rfl⟩
theorem ty35 : TyOK Try.prog 35 ⟨1, 8, .fn, (.nilf)⟩ := ⟨by kernel_rfl, by kernel_rfl, by kernel_rfl, by kernel_rfl, by kernel_rfl, by kernel_rfl⟩
theorem ty36 : TyOK Try.prog 36 ⟨32, 32, .arr 32 5, .agg [.ints .u8 32 (List.replicate 32 0)]⟩ := ⟨by kernel_rfl, by kernel_rfl, by kernel_rfl, by kernel_rfl, by kernel_rfl, by kernel_rfl⟩
theorem ty37 : TyOK Try.prog 37 ⟨1, 2, .int .u16, (.int .u16 0)⟩ := ⟨by kernel_rfl, by kernel_rfl, by kernel_rfl, by kernel_rfl, by kernel_rfl, by kernel_rfl⟩
theorem ty38 : TyOK Try.prog 38 ⟨2, 2, .arr 2 5, .agg [.ints .u8 2 (List.replicate 2 0)]⟩ := ⟨by kernel_rfl, by kernel_rfl, by kernel_rfl, by kernel_rfl, by kernel_rfl, by kernel_rfl⟩
theorem ty39 : TyOK Try.prog 39 ⟨1, 24, .slice 5, (.nils)⟩ := ⟨by kernel_rfl, by kernel_rfl, by kernel_rfl, by kernel_rfl, by kernel_rfl, by kernel_rfl⟩
theorem ty40 : TyOK Try.prog 40 ⟨1, 8, .fn, (.nilf)⟩ := ⟨by kernel_rfl, by kernel_rfl, by kernel_rfl, by kernel_rfl, by kernel_rfl, by kernel_rfl⟩
theorem ty41 : TyOK Try.prog 41 ⟨1, 8, .fn, (.nilf)⟩ := ⟨by kernel_rfl, by kernel_rfl, by kernel_rfl, by kernel_rfl, by kernel_rfl, by kernel_rfl⟩
theorem ty43 : TyOK Try.prog 43 ⟨1, 8, .fn, (.nilf)⟩ := ⟨by kernel_rfl, by kernel_rfl, by kernel_rfl, by kernel_rfl, by kernel_rfl, by kernel_rfl⟩
theorem ty44 : TyOK Try.prog 44 ⟨1, 8, .fn, (.nilf)⟩ := ⟨by kernel_rfl, by kernel_rfl, by kernel_rfl, by kernel_rfl, by kernel_rfl, by kernel_rfl⟩
theorem ty45 : TyOK Try.prog 45 ⟨1, 8, .fn, (.nilf)⟩ := ⟨by kernel_rfl, by kernel_rfl, by kernel_rfl, by kernel_rfl, by kernel_rfl, by kernel_rfl⟩
theorem ty46 : TyOK Try.prog 46 ⟨2, 32, .arr 2 9, .agg [.str ByteArray.empty, .str ByteArray.empty]⟩ := ⟨by kernel_rfl, by kernel_rfl, by kernel_rfl, by kernel_rfl, by kernel_rfl, by kernel_rfl⟩
theorem ty47 : TyOK Try.prog 47 ⟨1, 8, .fn, (.nilf)⟩ := ⟨by kernel_rfl, by kernel_rfl, by kernel_rfl, by kernel_rfl, by kernel_rfl, by kernel_rfl⟩
theorem ty48 : TyOK Try.prog 48 ⟨1, 8, .fn, (.nilf)⟩ := ⟨by kernel_rfl, by kernel_rfl, by kernel_rfl, by kernel_rfl, by kernel_rfl, by kernel_rfl⟩
theorem ty49 : TyOK Try.prog 49 ⟨1, 8, .fn, (.nilf)⟩ := ⟨by kernel_rfl, by kernel_rfl, by kernel_rfl, by kernel_rfl, by kernel_rfl, by kernel_rfl⟩
theorem ty50 : TyOK Try.prog 50 ⟨1, 8, .ptr 58, (.nilp)⟩ := ⟨by kernel_rfl, by kernel_rfl, by kernel_rfl, by kernel_rfl, by kernel_rfl, by kernel_rfl⟩
theorem ty51 : TyOK Try.prog 51 ⟨1, 8, .fn, (.nilf)⟩ := ⟨by kernel_rfl, by kernel_rfl, by kernel_rfl, by kernel_rfl, by kernel_rfl, by kernel_rfl⟩
theorem ty52 : TyOK Try.prog 52 ⟨0, 0, .strct [], .agg []⟩ := ⟨by kernel_rfl, by kernel_rfl, by kernel_rfl, by kernel_rfl, by kernel_rfl, by kernel_rfl⟩
theorem ty53 : TyOK Try.prog 53 ⟨0, 0, .strct [], .agg []⟩ := ⟨by kernel_rfl, by kernel_rfl, by kernel_rfl, by kernel_rfl, by kernel_rfl, by kernel_rfl⟩
theorem ty54 : TyOK Try.prog 54 ⟨1, 8, .strct [(0, 50)], .agg [.nilp]⟩ := ⟨by kernel_rfl, by kernel_rfl, by kernel_rfl, by kernel_rfl, by kernel_rfl, by kernel_rfl⟩
theorem ty55 : TyOK Try.prog 55 ⟨1, 8, .strct [(0, 50)], .agg [.nilp]⟩ := ⟨by kernel_rfl, by kernel_rfl, by kernel_rfl, by kernel_rfl, by kernel_rfl, by kernel_rfl⟩
theorem ty56 : TyOK Try.prog 56 ⟨1, 8, .map 9 9, (.nilm)⟩ := ⟨by kernel_rfl, by kernel_rfl, by kernel_rfl, by kernel_rfl, by kernel_rfl, by kernel_rfl⟩
theorem ty57 : TyOK Try.prog 57 ⟨3, 40, .strct [(0, 56), (1, 56), (2, 29)], .agg [.nilm, .nilm, .nils]⟩ := ⟨by kernel_rfl, by kernel_rfl, by kernel_rfl, by kernel_rfl, by kernel_rfl, by kernel_rfl⟩
theorem ty58 : TyOK Try.prog 58 ⟨3, 40, .strct [(0, 56), (1, 56), (2, 29)], .agg [.nilm, .nilm, .nils]⟩ := ⟨by kernel_rfl, by kernel_rfl, by kernel_rfl, by kernel_rfl, by kernel_rfl, by kernel_rfl⟩
theorem ty59 : TyOK Try.prog 59 ⟨1, 8, .fn, (.nilf)⟩ := ⟨by kernel_rfl, by kernel_rfl, by kernel_rfl, by kernel_rfl, by kernel_rfl, by kernel_rfl⟩
theorem ty62 : TyOK Try.prog 62 ⟨0, 0, .arr 0 16, .agg []⟩ := ⟨by kernel_rfl, by kernel_rfl, by kernel_rfl, by kernel_rfl, by kernel_rfl, by kernel_rfl⟩
theorem ty65 : TyOK Try.prog 65 ⟨1, 8, .fn, (.nilf)⟩ := ⟨by kernel_rfl, by kernel_rfl, by kernel_rfl, by kernel_rfl, by kernel_rfl, by kernel_rfl⟩
theorem ty66 : TyOK Try.prog 66 ⟨1, 4, .int .u32, (.int .u32 0)⟩ := ⟨by kernel_rfl, by kernel_rfl, by kernel_rfl, by kernel_rfl, by kernel_rfl, by kernel_rfl⟩
theorem ty67 : TyOK Try.prog 67 ⟨1, 1, .int .u8, (.int .u8 0)⟩ := ⟨by kernel_rfl, by kernel_rfl, by kernel_rfl, by kernel_rfl, by kernel_rfl, by kernel_rfl⟩
theorem ty68 : TyOK Try.prog 68 ⟨1, 1, .int .u8, (.int .u8 0)⟩ := ⟨by kernel_rfl, by kernel_rfl, by kernel_rfl, by kernel_rfl, by kernel_rfl, by kernel_rfl⟩
theorem ty69 : TyOK Try.prog 69 ⟨1, 8, .fn, (.nilf)⟩ := ⟨by kernel_rfl, by kernel_rfl, by kernel_rfl, by kernel_rfl, by kernel_rfl, by kernel_rfl⟩
theorem ty70 : TyOK Try.prog 70 ⟨1, 8, .ptr 5, (.nilp)⟩ := ⟨by kernel_rfl, by kernel_rfl, by kernel_rfl, by kernel_rfl, by kernel_rfl, by kernel_rfl⟩
theorem ty71 : TyOK Try.prog 71 ⟨1, 4, .int .i32, (.int .i32 0)⟩ := ⟨by kernel_rfl, by kernel_rfl, by kernel_rfl, by kernel_rfl, by kernel_rfl, by kernel_rfl⟩
theorem ty72 : TyOK Try.prog 72 ⟨1, 4, .int .i32, (.int .i32 0)⟩ := ⟨by kernel_rfl, by kernel_rfl, by kernel_rfl, by kernel_rfl, by kernel_rfl, by kernel_rfl⟩
theorem ty75 : TyOK Try.prog 75 ⟨1, 8, .fn, (.nilf)⟩ := ⟨by kernel_rfl, by kernel_rfl, by kernel_rfl, by kernel_rfl, by kernel_rfl, by kernel_rfl⟩
theorem ty76 : TyOK Try.prog 76 ⟨1, 8, .fn, (.nilf)⟩ := ⟨by kernel_rfl, by kernel_rfl, by kernel_rfl, by kernel_rfl, by kernel_rfl, by kernel_rfl⟩
theorem ty77 : TyOK Try.prog 77 ⟨1, 8, .fn, (.nilf)⟩ := ⟨by kernel_rfl, by kernel_rfl, by kernel_rfl, by kernel_rfl, by kernel_rfl, by kernel_rfl⟩
theorem ty78 : TyOK Try.prog 78 ⟨1, 8, .fn, (.nilf)⟩ := ⟨by kernel_rfl, by kernel_rfl, by kernel_rfl, by kernel_rfl, by kernel_rfl, by kernel_rfl⟩
theorem ty79 : TyOK Try.prog 79 ⟨1, 8, .fn, (.nilf)⟩ := ⟨by kernel_rfl, by kernel_rfl, by kernel_rfl, by kernel_rfl, by kernel_rfl, by kernel_rfl⟩
theorem ty81 : TyOK Try.prog 81 ⟨1, 8, .fn, (.nilf)⟩ := ⟨by kernel_rfl, by kernel_rfl, by kernel_rfl, by kernel_rfl, by kernel_rfl, by kernel_rfl⟩
theorem ty82 : TyOK Try.prog 82 ⟨1, 24, .slice 36, (.nils)⟩ := ⟨by kernel_rfl, by kernel_rfl, by kernel_rfl, by kernel_rfl, by kernel_rfl, by kernel_rfl⟩
theorem ty84 : TyOK Try.prog 84 ⟨1, 8, .fn, (.nilf)⟩ := ⟨by kernel_rfl, by kernel_rfl, by kernel_rfl, by kernel_rfl, by kernel_rfl, by kernel_rfl⟩
theorem ty86 : TyOK Try.prog 86 ⟨1, 8, .fn, (.nilf)⟩ := ⟨by kernel_rfl, by kernel_rfl, by kernel_rfl, by kernel_rfl, by kernel_rfl, by kernel_rfl⟩
theorem ty87 : TyOK Try.prog 87 ⟨1, 8, .fn, (.nilf)⟩ := ⟨by kernel_rfl, by kernel_rfl, by kernel_rfl, by kernel_rfl, by kernel_rfl, by kernel_rfl⟩
theorem ty88 : TyOK Try.prog 88 ⟨1, 8, .fn, (.nilf)⟩ := ⟨by kernel_rfl, by kernel_rfl, by kernel_rfl, by kernel_rfl, by kernel_rfl, by kernel_rfl⟩
theorem ty89 : TyOK Try.prog 89 ⟨1, 8, .fn, (.nilf)⟩ := ⟨by kernel_rfl, by kernel_rfl, by kernel_rfl, by kernel_rfl, by kernel_rfl, by kernel_rfl⟩
theorem ty90 : TyOK Try.prog 90 ⟨1, 8, .fn, (.nilf)⟩ := ⟨by kernel_rfl, by kernel_rfl, by kernel_rfl, by kernel_rfl, by kernel_rfl, by kernel_rfl⟩
theorem ty91 : TyOK Try.prog 91 ⟨1, 8, .fn, (.nilf)⟩ := ⟨by kernel_rfl, by kernel_rfl, by kernel_rfl, by kernel_rfl, by kernel_rfl, by kernel_rfl⟩
theorem ty92 : TyOK Try.prog 92 ⟨1, 8, .fn, (.nilf)⟩ := ⟨by kernel_rfl, by kernel_rfl, by kernel_rfl, by kernel_rfl, by kernel_rfl, by kernel_rfl⟩
theorem ty93 : TyOK Try.prog 93 ⟨8, 32, .arr 8 66, .agg [.ints .u32 8 (List.replicate 8 0)]⟩ := ⟨by kernel_rfl, by kernel_rfl, by kernel_rfl, by kernel_rfl, by kernel_rfl, by kernel_rfl⟩
theorem ty94 : TyOK Try.prog 94 ⟨1, 8, .int .u64, (.int .u64 0)⟩ := ⟨by kernel_rfl, by kernel_rfl, by kernel_rfl, by kernel_rfl, by kernel_rfl, by kernel_rfl⟩
theorem ty95 : TyOK Try.prog 95 ⟨10, 64, .strct [(0, 93), (8, 39), (9, 94)], .agg [.ints .u32 8 (List.replicate 8 0), .nils, .int .u64 0]⟩ := ⟨by kernel_rfl, by kernel_rfl, by kernel_rfl, by kernel_rfl, by kernel_rfl, by kernel_rfl⟩
theorem ty96 : TyOK Try.prog 96 ⟨10, 64, .strct [(0, 93), (8, 39), (9, 94)], .agg [.ints .u32 8 (List.replicate 8 0), .nils, .int .u64 0]⟩ := ⟨by kernel_rfl, by kernel_rfl, by kernel_rfl, by kernel_rfl, by kernel_rfl, by kernel_rfl⟩
theorem ty97 : TyOK Try.prog 97 ⟨1, 8, .fn, (.nilf)⟩ := ⟨by kernel_rfl, by kernel_rfl, by kernel_rfl, by kernel_rfl, by kernel_rfl, by kernel_rfl⟩
theorem ty98 : TyOK Try.prog 98 ⟨1, 8, .fn, (.nilf)⟩ := ⟨by kernel_rfl, by kernel_rfl, by kernel_rfl, by kernel_rfl, by kernel_rfl, by kernel_rfl⟩
theorem ty99 : TyOK Try.prog 99 ⟨1, 8, .fn, (.nilf)⟩ := ⟨by kernel_rfl, by kernel_rfl, by kernel_rfl, by kernel_rfl, by kernel_rfl, by kernel_rfl⟩
theorem ty100 : TyOK Try.prog 100 ⟨1, 24, .slice 39, (.nils)⟩ := ⟨by kernel_rfl, by kernel_rfl, by kernel_rfl, by kernel_rfl, by kernel_rfl, by kernel_rfl⟩
theorem ty101 : TyOK Try.prog 101 ⟨1, 8, .fn, (.nilf)⟩ := ⟨by kernel_rfl, by kernel_rfl, by kernel_rfl, by kernel_rfl, by kernel_rfl, by kernel_rfl⟩
theorem ty102 : TyOK Try.prog 102 ⟨1, 8, .fn, (.nilf)⟩ := ⟨by kernel_rfl, by kernel_rfl, by kernel_rfl, by kernel_rfl, by kernel_rfl, by kernel_rfl⟩
theorem ty103 : TyOK Try.prog 103 ⟨64, 64, .arr 64 5, .agg [.ints .u8 64 (List.replicate 64 0)]⟩ := ⟨by kernel_rfl, by kernel_rfl, by kernel_rfl, by kernel_rfl, by kernel_rfl, by kernel_rfl⟩
theorem ty104 : TyOK Try.prog 104 ⟨1, 8, .fn, (.nilf)⟩ := ⟨by kernel_rfl, by kernel_rfl, by kernel_rfl, by kernel_rfl, by kernel_rfl, by kernel_rfl⟩
theorem ty105 : TyOK Try.prog 105 ⟨1, 8, .int .u64, (.int .u64 0)⟩ := ⟨by kernel_rfl, by kernel_rfl, by kernel_rfl, by kernel_rfl, by kernel_rfl, by kernel_rfl⟩
theorem ty106 : TyOK Try.prog 106 ⟨64, 256, .arr 64 66, .agg [.ints .u32 64 (List.replicate 64 0)]⟩ := ⟨by kernel_rfl, by kernel_rfl, by kernel_rfl, by kernel_rfl, by kernel_rfl, by kernel_rfl⟩
theorem ty107 : TyOK Try.prog 107 ⟨1, 8, .fn, (.nilf)⟩ := ⟨by kernel_rfl, by kernel_rfl, by kernel_rfl, by kernel_rfl, by kernel_rfl, by kernel_rfl⟩
theorem ty108 : TyOK Try.prog 108 ⟨1, 24, .slice 66, (.nils)⟩ := ⟨by kernel_rfl, by kernel_rfl, by kernel_rfl, by kernel_rfl, by kernel_rfl, by kernel_rfl⟩
theorem ty109 : TyOK Try.prog 109 ⟨1, 24, .slice 3, (.nils)⟩ := ⟨by kernel_rfl, by kernel_rfl, by kernel_rfl, by kernel_rfl, by kernel_rfl, by kernel_rfl⟩
theorem ty110 : TyOK Try.prog 110 ⟨1, 8, .fn, (.nilf)⟩ := ⟨by kernel_rfl, by kernel_rfl, by kernel_rfl, by kernel_rfl, by kernel_rfl, by kernel_rfl⟩
theorem ty111 : TyOK Try.prog 111 ⟨1, 8, .fn, (.nilf)⟩ := ⟨by kernel_rfl, by kernel_rfl, by kernel_rfl, by kernel_rfl, by kernel_rfl, by kernel_rfl⟩
theorem ty112 : TyOK Try.prog 112 ⟨1, 8, .fn, (.nilf)⟩ := ⟨by kernel_rfl, by kernel_rfl, by kernel_rfl, by kernel_rfl, by kernel_rfl, by kernel_rfl⟩
theorem ty113 : TyOK Try.prog 113 ⟨1, 8, .fn, (.nilf)⟩ := ⟨by kernel_rfl, by kernel_rfl, by kernel_rfl, by kernel_rfl, by kernel_rfl, by kernel_rfl⟩
theorem ty115 : TyOK Try.prog 115 ⟨1, 8, .fn, (.nilf)⟩ := ⟨by kernel_rfl, by kernel_rfl, by kernel_rfl, by kernel_rfl, by kernel_rfl, by kernel_rfl⟩
theorem ty117 : TyOK Try.prog 117 ⟨1, 8, .fn, (.nilf)⟩ := ⟨by kernel_rfl, by kernel_rfl, by kernel_rfl, by kernel_rfl, by kernel_rfl, by kernel_rfl⟩
theorem ty118 : TyOK Try.prog 118 ⟨1, 8, .ptr 120, (.nilp)⟩ := ⟨by kernel_rfl, by kernel_rfl, by kernel_rfl, by kernel_rfl, by kernel_rfl, by kernel_rfl⟩
theorem ty119 : TyOK Try.prog 119 ⟨2, 32, .strct [(0, 118), (1, 39)], .agg [.nilp, .nils]⟩ := ⟨by kernel_rfl, by kernel_rfl, by kernel_rfl, by kernel_rfl, by kernel_rfl, by kernel_rfl⟩
theorem ty120 : TyOK Try.prog 120 ⟨2, 32, .strct [(0, 118), (1, 39)], .agg [.nilp, .nils]⟩ := ⟨by kernel_rfl, by kernel_rfl, by kernel_rfl, by kernel_rfl, by kernel_rfl, by kernel_rfl⟩
theorem ty121 : TyOK Try.prog 121 ⟨1, 16, .ifc, (.nili)⟩ := ⟨by kernel_rfl, by kernel_rfl, by kernel_rfl, by kernel_rfl, by kernel_rfl, by kernel_rfl⟩
theorem ty122 : TyOK Try.prog 122 ⟨1, 16, .ifc, (.nili)⟩ := ⟨by kernel_rfl, by kernel_rfl, by kernel_rfl, by kernel_rfl, by kernel_rfl, by kernel_rfl⟩
theorem ty124 : TyOK Try.prog 124 ⟨1, 8, .fn, (.nilf)⟩ := ⟨by kernel_rfl, by kernel_rfl, by kernel_rfl, by kernel_rfl, by kernel_rfl, by kernel_rfl⟩
theorem ty125 : TyOK Try.prog 125 ⟨1, 8, .fn, (.nilf)⟩ := ⟨by kernel_rfl, by kernel_rfl, by kernel_rfl, by kernel_rfl, by kernel_rfl, by kernel_rfl⟩
theorem ty126 : TyOK Try.prog 126 ⟨1, 8, .fn, (.nilf)⟩ := ⟨by kernel_rfl, by kernel_rfl, by kernel_rfl, by kernel_rfl, by kernel_rfl, by kernel_rfl⟩
theorem ty128 : TyOK Try.prog 128 ⟨1, 8, .fn, (.nilf)⟩ := ⟨by kernel_rfl, by kernel_rfl, by kernel_rfl, by kernel_rfl, by kernel_rfl, by kernel_rfl⟩
theorem ty129 : TyOK Try.prog 129 ⟨1, 8, .fn, (.nilf)⟩ := ⟨by kernel_rfl, by kernel_rfl, by kernel_rfl, by kernel_rfl, by kernel_rfl, by kernel_rfl⟩
theorem ty130 : TyOK Try.prog 130 ⟨1, 8, .fn, (.nilf)⟩ := ⟨by kernel_rfl, by kernel_rfl, by kernel_rfl, by kernel_rfl, by kernel_rfl, by kernel_rfl⟩
theorem ty132 : TyOK Try.prog 132 ⟨1, 8, .fn, (.nilf)⟩ := ⟨by kernel_rfl, by kernel_rfl, by kernel_rfl, by kernel_rfl, by kernel_rfl, by kernel_rfl⟩
theorem ty134 : TyOK Try.prog 134 ⟨1, 8, .fn, (.nilf)⟩ := ⟨by kernel_rfl, by kernel_rfl, by kernel_rfl, by kernel_rfl, by kernel_rfl, by kernel_rfl⟩
theorem ty136 : TyOK Try.prog 136 ⟨1, 8, .fn, (.nilf)⟩ := ⟨by kernel_rfl, by kernel_rfl, by kernel_rfl, by kernel_rfl, by kernel_rfl, by kernel_rfl⟩
theorem ty137 : TyOK Try.prog 137 ⟨1, 8, .fn, (.nilf)⟩ := ⟨by kernel_rfl, by kernel_rfl, by kernel_rfl, by kernel_rfl, by kernel_rfl, by kernel_rfl⟩

def tbl : List (Nat × TI) := [  (1, ⟨1, 8, .fn, (.nilf)⟩),
  (2, ⟨1, 8, .int .i64, (.int .i64 0)⟩),
  (3, ⟨1, 8, .int .i64, (.int .i64 0)⟩),
  (4, ⟨1, 1, .bool, (.bool false)⟩),
  (5, ⟨1, 1, .int .u8, (.int .u8 0)⟩),
  (6, ⟨1, 1, .int .u8, (.int .u8 0)⟩),
  (7, ⟨4, 24, .strct [(0, 2), (1, 3), (2, 4), (3, 6)], .agg [.int .i64 0, .int .i64 0, .bool false, .int .u8 0]⟩),
  (8, ⟨4, 24, .strct [(0, 2), (1, 3), (2, 4), (3, 6)], .agg [.int .i64 0, .int .i64 0, .bool false, .int .u8 0]⟩),
  (9, ⟨1, 16, .str, (.str ByteArray.empty)⟩),
  (10, ⟨1, 16, .str, (.str ByteArray.empty)⟩),
  (11, ⟨1, 16, .str, (.str ByteArray.empty)⟩),
  (12, ⟨1, 8, .int .u64, (.int .u64 0)⟩),
  (15, ⟨1, 8, .ptr 61, (.nilp)⟩),
  (16, ⟨1, 8, .ptr 64, (.nilp)⟩),
  (17, ⟨1, 8, .ptr 74, (.nilp)⟩),
  (20, ⟨1, 16, .ifc, (.nili)⟩),
  (21, ⟨1, 4, .int .i32, (.int .i32 0)⟩),
  (22, ⟨2, 24, .strct [(0, 9), (1, 3)], .agg [.str ByteArray.empty, .int .i64 0]⟩),
  (23, ⟨2, 24, .strct [(0, 9), (1, 3)], .agg [.str ByteArray.empty, .int .i64 0]⟩),
  (24, ⟨1, 8, .fn, (.nilf)⟩),
  (25, ⟨1, 24, .slice 28, (.nils)⟩),
  (26, ⟨1, 8, .fn, (.nilf)⟩),
  (27, ⟨1, 16, .ifc, (.nili)⟩),
  (28, ⟨1, 16, .ifc, (.nili)⟩),
  (29, ⟨1, 24, .slice 9, (.nils)⟩),
  (30, ⟨1, 8, .int .i64, (.int .i64 0)⟩),
  (32, ⟨1, 8, .fn, (.nilf)⟩),
  (34, ⟨1, 8, .fn, (.nilf)⟩),
  (35, ⟨1, 8, .fn, (.nilf)⟩),
  (36, ⟨32, 32, .arr 32 5, .agg [.ints .u8 32 (List.replicate 32 0)]⟩),
  (37, ⟨1, 2, .int .u16, (.int .u16 0)⟩),
  (38, ⟨2, 2, .arr 2 5, .agg [.ints .u8 2 (List.replicate 2 0)]⟩),
  (39, ⟨1, 24, .slice 5, (.nils)⟩),
  (40, ⟨1, 8, .fn, (.nilf)⟩),
  (41, ⟨1, 8, .fn, (.nilf)⟩),
  (43, ⟨1, 8, .fn, (.nilf)⟩),
  (44, ⟨1, 8, .fn, (.nilf)⟩),
  (45, ⟨1, 8, .fn, (.nilf)⟩),
  (46, ⟨2, 32, .arr 2 9, .agg [.str ByteArray.empty, .str ByteArray.empty]⟩),
  (47, ⟨1, 8, .fn, (.nilf)⟩),
  (48, ⟨1, 8, .fn, (.nilf)⟩),
  (49, ⟨1, 8, .fn, (.nilf)⟩),
  (50, ⟨1, 8, .ptr 58, (.nilp)⟩),
  (51, ⟨1, 8, .fn, (.nilf)⟩),
  (52, ⟨0, 0, .strct [], .agg []⟩),
  (53, ⟨0, 0, .strct [], .agg []⟩),
  (54, ⟨1, 8, .strct [(0, 50)], .agg [.nilp]⟩),
  (55, ⟨1, 8, .strct [(0, 50)], .agg [.nilp]⟩),
  (56, ⟨1, 8, .map 9 9, (.nilm)⟩),
  (57, ⟨3, 40, .strct [(0, 56), (1, 56), (2, 29)], .agg [.nilm, .nilm, .nils]⟩),
  (58, ⟨3, 40, .strct [(0, 56), (1, 56), (2, 29)], .agg [.nilm, .nilm, .nils]⟩),
  (59, ⟨1, 8, .fn, (.nilf)⟩),
  (62, ⟨0, 0, .arr 0 16, .agg []⟩),
  (65, ⟨1, 8, .fn, (.nilf)⟩),
  (66, ⟨1, 4, .int .u32, (.int .u32 0)⟩),
  (67, ⟨1, 1, .int .u8, (.int .u8 0)⟩),
  (68, ⟨1, 1, .int .u8, (.int .u8 0)⟩),
  (69, ⟨1, 8, .fn, (.nilf)⟩),
  (70, ⟨1, 8, .ptr 5, (.nilp)⟩),
  (71, ⟨1, 4, .int .i32, (.int .i32 0)⟩),
  (72, ⟨1, 4, .int .i32, (.int .i32 0)⟩),
  (75, ⟨1, 8, .fn, (.nilf)⟩),
  (76, ⟨1, 8, .fn, (.nilf)⟩),
  (77, ⟨1, 8, .fn, (.nilf)⟩),
  (78, ⟨1, 8, .fn, (.nilf)⟩),
  (79, ⟨1, 8, .fn, (.nilf)⟩),
  (81, ⟨1, 8, .fn, (.nilf)⟩),
  (82, ⟨1, 24, .slice 36, (.nils)⟩),
  (84, ⟨1, 8, .fn, (.nilf)⟩),
  (86, ⟨1, 8, .fn, (.nilf)⟩),
  (87, ⟨1, 8, .fn, (.nilf)⟩),
  (88, ⟨1, 8, .fn, (.nilf)⟩),
  (89, ⟨1, 8, .fn, (.nilf)⟩),
  (90, ⟨1, 8, .fn, (.nilf)⟩),
  (91, ⟨1, 8, .fn, (.nilf)⟩),
  (92, ⟨1, 8, .fn, (.nilf)⟩),
  (93, ⟨8, 32, .arr 8 66, .agg [.ints .u32 8 (List.replicate 8 0)]⟩),
  (94, ⟨1, 8, .int .u64, (.int .u64 0)⟩),
  (95, ⟨10, 64, .strct [(0, 93), (8, 39), (9, 94)], .agg [.ints .u32 8 (List.replicate 8 0), .nils, .int .u64 0]⟩),
  (96, ⟨10, 64, .strct [(0, 93), (8, 39), (9, 94)], .agg [.ints .u32 8 (List.replicate 8 0), .nils, .int .u64 0]⟩),
  (97, ⟨1, 8, .fn, (.nilf)⟩),
  (98, ⟨1, 8, .fn, (.nilf)⟩),
  (99, ⟨1, 8, .fn, (.nilf)⟩),
  (100, ⟨1, 24, .slice 39, (.nils)⟩),
  (101, ⟨1, 8, .fn, (.nilf)⟩),
  (102, ⟨1, 8, .fn, (.nilf)⟩),
  (103, ⟨64, 64, .arr 64 5, .agg [.ints .u8 64 (List.replicate 64 0)]⟩),
  (104, ⟨1, 8, .fn, (.nilf)⟩),
  (105, ⟨1, 8, .int .u64, (.int .u64 0)⟩),
  (106, ⟨64, 256, .arr 64 66, .agg [.ints .u32 64 (List.replicate 64 0)]⟩),
  (107, ⟨1, 8, .fn, (.nilf)⟩),
  (108, ⟨1, 24, .slice 66, (.nils)⟩),
  (109, ⟨1, 24, .slice 3, (.nils)⟩),
  (110, ⟨1, 8, .fn, (.nilf)⟩),
  (111, ⟨1, 8, .fn, (.nilf)⟩),
  (112, ⟨1, 8, .fn, (.nilf)⟩),
  (113, ⟨1, 8, .fn, (.nilf)⟩),
  (115, ⟨1, 8, .fn, (.nilf)⟩),
  (117, ⟨1, 8, .fn, (.nilf)⟩),
  (118, ⟨1, 8, .ptr 120, (.nilp)⟩),
  (119, ⟨2, 32, .strct [(0, 118), (1, 39)], .agg [.nilp, .nils]⟩),
  (120, ⟨2, 32, .strct [(0, 118), (1, 39)], .agg [.nilp, .nils]⟩),
  (121, ⟨1, 16, .ifc, (.nili)⟩),
  (122, ⟨1, 16, .ifc, (.nili)⟩),
  (124, ⟨1, 8, .fn, (.nilf)⟩),
  (125, ⟨1, 8, .fn, (.nilf)⟩),
  (126, ⟨1, 8, .fn, (.nilf)⟩),
  (128, ⟨1, 8, .fn, (.nilf)⟩),
  (129, ⟨1, 8, .fn, (.nilf)⟩),
  (130, ⟨1, 8, .fn, (.nilf)⟩),
  (132, ⟨1, 8, .fn, (.nilf)⟩),
  (134, ⟨1, 8, .fn, (.nilf)⟩),
  (136, ⟨1, 8, .fn, (.nilf)⟩),
  (137, ⟨1, 8, .fn, (.nilf)⟩)]
def tt (T : Nat) : Option TI := lk tbl T
theorem tt_1 : tt 1 = some ⟨1, 8, .fn, (.nilf)⟩ := rfl
theorem tt_2 : tt 2 = some ⟨1, 8, .int .i64, (.int .i64 0)⟩ := rfl
theorem tt_3 : tt 3 = some ⟨1, 8, .int .i64, (.int .i64 0)⟩ := rfl
theorem tt_4 : tt 4 = some ⟨1, 1, .bool, (.bool false)⟩ := rfl
theorem tt_5 : tt 5 = some ⟨1, 1, .int .u8, (.int .u8 0)⟩ := rfl
theorem tt_6 : tt 6 = some ⟨1, 1, .int .u8, (.int .u8 0)⟩ := rfl
theorem tt_7 : tt 7 = some ⟨4, 24, .strct [(0, 2), (1, 3), (2, 4), (3, 6)], .agg [.int .i64 0, .int .i64 0, .bool false, .int .u8 0]⟩ := rfl
theorem tt_8 : tt 8 = some ⟨4, 24, .strct [(0, 2), (1, 3), (2, 4), (3, 6)], .agg [.int .i64 0, .int .i64 0, .bool false, .int .u8 0]⟩ := rfl
theorem tt_9 : tt 9 = some ⟨1, 16, .str, (.str ByteArray.empty)⟩ := rfl
theorem tt_10 : tt 10 = some ⟨1, 16, .str, (.str ByteArray.empty)⟩ := rfl
theorem tt_11 : tt 11 = some ⟨1, 16, .str, (.str ByteArray.empty)⟩ := rfl
theorem tt_12 : tt 12 = some ⟨1, 8, .int .u64, (.int .u64 0)⟩ := rfl
theorem tt_15 : tt 15 = some ⟨1, 8, .ptr 61, (.nilp)⟩ := rfl
theorem tt_16 : tt 16 = some ⟨1, 8, .ptr 64, (.nilp)⟩ := rfl
theorem tt_17 : tt 17 = some ⟨1, 8, .ptr 74, (.nilp)⟩ := rfl
theorem tt_20 : tt 20 = some ⟨1, 16, .ifc, (.nili)⟩ := rfl
theorem tt_21 : tt 21 = some ⟨1, 4, .int .i32, (.int .i32 0)⟩ := rfl
theorem tt_22 : tt 22 = some ⟨2, 24, .strct [(0, 9), (1, 3)], .agg [.str ByteArray.empty, .int .i64 0]⟩ := rfl
theorem tt_23 : tt 23 = some ⟨2, 24, .strct [(0, 9), (1, 3)], .agg [.str ByteArray.empty, .int .i64 0]⟩ := rfl
theorem tt_24 : tt 24 = some ⟨1, 8, .fn, (.nilf)⟩ := rfl
theorem tt_25 : tt 25 = some ⟨1, 24, .slice 28, (.nils)⟩ := rfl
theorem tt_26 : tt 26 = some ⟨1, 8, .fn, (.nilf)⟩ := rfl
theorem tt_27 : tt 27 = some ⟨1, 16, .ifc, (.nili)⟩ := rfl
theorem tt_28 : tt 28 = some ⟨1, 16, .ifc, (.nili)⟩ := rfl
theorem tt_29 : tt 29 = some ⟨1, 24, .slice 9, (.nils)⟩ := rfl
theorem tt_30 : tt 30 = some ⟨1, 8, .int .i64, (.int .i64 0)⟩ := rfl
theorem tt_32 : tt 32 = some ⟨1, 8, .fn, (.nilf)⟩ := rfl
theorem tt_34 : tt 34 = some ⟨1, 8, .fn, (.nilf)⟩ := rfl
theorem tt_35 : tt 35 = some ⟨1, 8, .fn, (.nilf)⟩ := rfl
theorem tt_36 : tt 36 = some ⟨32, 32, .arr 32 5, .agg [.ints .u8 32 (List.replicate 32 0)]⟩ := rfl
theorem tt_37 : tt 37 = some ⟨1, 2, .int .u16, (.int .u16 0)⟩ := rfl
theorem tt_38 : tt 38 = some ⟨2, 2, .arr 2 5, .agg [.ints .u8 2 (List.replicate 2 0)]⟩ := rfl
theorem tt_39 : tt 39 = some ⟨1, 24, .slice 5, (.nils)⟩ := rfl
theorem tt_40 : tt 40 = some ⟨1, 8, .fn, (.nilf)⟩ := rfl
theorem tt_41 : tt 41 = some ⟨1, 8, .fn, (.nilf)⟩ := rfl
theorem tt_43 : tt 43 = some ⟨1, 8, .fn, (.nilf)⟩ := rfl
theorem tt_44 : tt 44 = some ⟨1, 8, .fn, (.nilf)⟩ := rfl
theorem tt_45 : tt 45 = some ⟨1, 8, .fn, (.nilf)⟩ := rfl
theorem tt_46 : tt 46 = some ⟨2, 32, .arr 2 9, .agg [.str ByteArray.empty, .str ByteArray.empty]⟩ := rfl
theorem tt_47 : tt 47 = some ⟨1, 8, .fn, (.nilf)⟩ := rfl
theorem tt_48 : tt 48 = some ⟨1, 8, .fn, (.nilf)⟩ := rfl
theorem tt_49 : tt 49 = some ⟨1, 8, .fn, (.nilf)⟩ := rfl
theorem tt_50 : tt 50 = some ⟨1, 8, .ptr 58, (.nilp)⟩ := rfl
theorem tt_51 : tt 51 = some ⟨1, 8, .fn, (.nilf)⟩ := rfl
theorem tt_52 : tt 52 = some ⟨0, 0, .strct [], .agg []⟩ := rfl
theorem tt_53 : tt 53 = some ⟨0, 0, .strct [], .agg []⟩ := rfl
theorem tt_54 : tt 54 = some ⟨1, 8, .strct [(0, 50)], .agg [.nilp]⟩ := rfl
theorem tt_55 : tt 55 = some ⟨1, 8, .strct [(0, 50)], .agg [.nilp]⟩ := rfl
theorem tt_56 : tt 56 = some ⟨1, 8, .map 9 9, (.nilm)⟩ := rfl
theorem tt_57 : tt 57 = some ⟨3, 40, .strct [(0, 56), (1, 56), (2, 29)], .agg [.nilm, .nilm, .nils]⟩ := rfl
theorem tt_58 : tt 58 = some ⟨3, 40, .strct [(0, 56), (1, 56), (2, 29)], .agg [.nilm, .nilm, .nils]⟩ := rfl
theorem tt_59 : tt 59 = some ⟨1, 8, .fn, (.nilf)⟩ := rfl
theorem tt_62 : tt 62 = some ⟨0, 0, .arr 0 16, .agg []⟩ := rfl
theorem tt_65 : tt 65 = some ⟨1, 8, .fn, (.nilf)⟩ := rfl
theorem tt_66 : tt 66 = some ⟨1, 4, .int .u32, (.int .u32 0)⟩ := rfl
theorem tt_67 : tt 67 = some ⟨1, 1, .int .u8, (.int .u8 0)⟩ := rfl
theorem tt_68 : tt 68 = some ⟨1, 1, .int .u8, (.int .u8 0)⟩ := rfl
theorem tt_69 : tt 69 = some ⟨1, 8, .fn, (.nilf)⟩ := rfl
theorem tt_70 : tt 70 = some ⟨1, 8, .ptr 5, (.nilp)⟩ := rfl
theorem tt_71 : tt 71 = some ⟨1, 4, .int .i32, (.int .i32 0)⟩ := rfl
theorem tt_72 : tt 72 = some ⟨1, 4, .int .i32, (.int .i32 0)⟩ := rfl
theorem tt_75 : tt 75 = some ⟨1, 8, .fn, (.nilf)⟩ := rfl
theorem tt_76 : tt 76 = some ⟨1, 8, .fn, (.nilf)⟩ := rfl
theorem tt_77 : tt 77 = some ⟨1, 8, .fn, (.nilf)⟩ := rfl
theorem tt_78 : tt 78 = some ⟨1, 8, .fn, (.nilf)⟩ := rfl
theorem tt_79 : tt 79 = some ⟨1, 8, .fn, (.nilf)⟩ := rfl
theorem tt_81 : tt 81 = some ⟨1, 8, .fn, (.nilf)⟩ := rfl
theorem tt_82 : tt 82 = some ⟨1, 24, .slice 36, (.nils)⟩ := rfl
theorem tt_84 : tt 84 = some ⟨1, 8, .fn, (.nilf)⟩ := rfl
theorem tt_86 : tt 86 = some ⟨1, 8, .fn, (.nilf)⟩ := rfl
theorem tt_87 : tt 87 = some ⟨1, 8, .fn, (.nilf)⟩ := rfl
theorem tt_88 : tt 88 = some ⟨1, 8, .fn, (.nilf)⟩ := rfl
theorem tt_89 : tt 89 = some ⟨1, 8, .fn, (.nilf)⟩ := rfl
theorem tt_90 : tt 90 = some ⟨1, 8, .fn, (.nilf)⟩ := rfl
theorem tt_91 : tt 91 = some ⟨1, 8, .fn, (.nilf)⟩ := rfl
theorem tt_92 : tt 92 = some ⟨1, 8, .fn, (.nilf)⟩ := rfl
theorem tt_93 : tt 93 = some ⟨8, 32, .arr 8 66, .agg [.ints .u32 8 (List.replicate 8 0)]⟩ := rfl
theorem tt_94 : tt 94 = some ⟨1, 8, .int .u64, (.int .u64 0)⟩ := rfl
theorem tt_95 : tt 95 = some ⟨10, 64, .strct [(0, 93), (8, 39), (9, 94)], .agg [.ints .u32 8 (List.replicate 8 0), .nils, .int .u64 0]⟩ := rfl
theorem tt_96 : tt 96 = some ⟨10, 64, .strct [(0, 93), (8, 39), (9, 94)], .agg [.ints .u32 8 (List.replicate 8 0), .nils, .int .u64 0]⟩ := rfl
theorem tt_97 : tt 97 = some ⟨1, 8, .fn, (.nilf)⟩ := rfl
theorem tt_98 : tt 98 = some ⟨1, 8, .fn, (.nilf)⟩ := rfl
theorem tt_99 : tt 99 = some ⟨1, 8, .fn, (.nilf)⟩ := rfl
theorem tt_100 : tt 100 = some ⟨1, 24, .slice 39, (.nils)⟩ := rfl
theorem tt_101 : tt 101 = some ⟨1, 8, .fn, (.nilf)⟩ := rfl
theorem tt_102 : tt 102 = some ⟨1, 8, .fn, (.nilf)⟩ := rfl
theorem tt_103 : tt 103 = some ⟨64, 64, .arr 64 5, .agg [.ints .u8 64 (List.replicate 64 0)]⟩ := rfl
theorem tt_104 : tt 104 = some ⟨1, 8, .fn, (.nilf)⟩ := rfl
theorem tt_105 : tt 105 = some ⟨1, 8, .int .u64, (.int .u64 0)⟩ := rfl
theorem tt_106 : tt 106 = some ⟨64, 256, .arr 64 66, .agg [.ints .u32 64 (List.replicate 64 0)]⟩ := rfl
theorem tt_107 : tt 107 = some ⟨1, 8, .fn, (.nilf)⟩ := rfl
theorem tt_108 : tt 108 = some ⟨1, 24, .slice 66, (.nils)⟩ := rfl
theorem tt_109 : tt 109 = some ⟨1, 24, .slice 3, (.nils)⟩ := rfl
theorem tt_110 : tt 110 = some ⟨1, 8, .fn, (.nilf)⟩ := rfl
theorem tt_111 : tt 111 = some ⟨1, 8, .fn, (.nilf)⟩ := rfl
theorem tt_112 : tt 112 = some ⟨1, 8, .fn, (.nilf)⟩ := rfl
theorem tt_113 : tt 113 = some ⟨1, 8, .fn, (.nilf)⟩ := rfl
theorem tt_115 : tt 115 = some ⟨1, 8, .fn, (.nilf)⟩ := rfl
theorem tt_117 : tt 117 = some ⟨1, 8, .fn, (.nilf)⟩ := rfl
theorem tt_118 : tt 118 = some ⟨1, 8, .ptr 120, (.nilp)⟩ := rfl
theorem tt_119 : tt 119 = some ⟨2, 32, .strct [(0, 118), (1, 39)], .agg [.nilp, .nils]⟩ := rfl
theorem tt_120 : tt 120 = some ⟨2, 32, .strct [(0, 118), (1, 39)], .agg [.nilp, .nils]⟩ := rfl
theorem tt_121 : tt 121 = some ⟨1, 16, .ifc, (.nili)⟩ := rfl
theorem tt_122 : tt 122 = some ⟨1, 16, .ifc, (.nili)⟩ := rfl
theorem tt_124 : tt 124 = some ⟨1, 8, .fn, (.nilf)⟩ := rfl
theorem tt_125 : tt 125 = some ⟨1, 8, .fn, (.nilf)⟩ := rfl
theorem tt_126 : tt 126 = some ⟨1, 8, .fn, (.nilf)⟩ := rfl
theorem tt_128 : tt 128 = some ⟨1, 8, .fn, (.nilf)⟩ := rfl
theorem tt_129 : tt 129 = some ⟨1, 8, .fn, (.nilf)⟩ := rfl
theorem tt_130 : tt 130 = some ⟨1, 8, .fn, (.nilf)⟩ := rfl
theorem tt_132 : tt 132 = some ⟨1, 8, .fn, (.nilf)⟩ := rfl
theorem tt_134 : tt 134 = some ⟨1, 8, .fn, (.nilf)⟩ := rfl
theorem tt_136 : tt 136 = some ⟨1, 8, .fn, (.nilf)⟩ := rfl
theorem tt_137 : tt 137 = some ⟨1, 8, .fn, (.nilf)⟩ := rfl
theorem tt_ok : TT Try.prog tt := by
  refine TT.of_list ?_
  simp only [tbl, List.forall_mem_cons]
  exact ⟨ty1, ty2, ty3, ty4, ty5, ty6, ty7, ty8, ty9, ty10, ty11, ty12, ty15, ty16, ty17, ty20, ty21, ty22, ty23, ty24, ty25, ty26, ty27, ty28, ty29, ty30, ty32, ty34, ty35, ty36, ty37, ty38, ty39, ty40, ty41, ty43, ty44, ty45, ty46, ty47, ty48, ty49, ty50, ty51, ty52, ty53, ty54, ty55, ty56, ty57, ty58, ty59, ty62, ty65, ty66, ty67, ty68, ty69, ty70, ty71, ty72, ty75, ty76, ty77, ty78, ty79, ty81, ty82, ty84, ty86, ty87, ty88, ty89, ty90, ty91, ty92, ty93, ty94, ty95, ty96, ty97, ty98, ty99, ty100, ty101, ty102, ty103, ty104, ty105, ty106, ty107, ty108, ty109, ty110, ty111, ty112, ty113, ty115, ty117, ty118, ty119, ty120, ty121, ty122, ty124, ty125, ty126, ty128, ty129, ty130, ty132, ty134, ty136, ty137, fun x hx => by cases hx⟩
end Go.Proofs.Ytbefcdgjainflaa
