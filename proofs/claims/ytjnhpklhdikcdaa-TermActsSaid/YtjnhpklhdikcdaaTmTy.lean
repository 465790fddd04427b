/- The types of the translation, as Sx reads them. Written by gen.py. -/
import Derived.Test.YtjnhpklhdikcdaaSxW
import Derived.Test.YtjnhpklhdikcdaaProg
import Derived.KernelRfl
namespace Go.Proofs.Ytjnhpklhdikcdaa
open Sx

theorem ty1 : TyOK Try.prog 1 ⟨1, 8, .fn, (.nilf)⟩ := ⟨by kernel_rfl, by kernel_rfl, by kernel_rfl, by kernel_rfl, by kernel_rfl, by kernel_rfl⟩
theorem ty2 : TyOK Try.prog 2 ⟨1, 8, .int .i64, (.int .i64 0)⟩ := ⟨by kernel_rfl, by kernel_rfl, by kernel_rfl, by kernel_rfl, by kernel_rfl, by kernel_rfl⟩
theorem ty3 : TyOK Try.prog 3 ⟨1, 8, .int .i64, (.int .i64 0)⟩ := ⟨by kernel_rfl, by kernel_rfl, by kernel_rfl, by kernel_rfl, by kernel_rfl, by kernel_rfl⟩
theorem ty4 : TyOK Try.prog 4 ⟨1, 1, .bool, (.bool false)⟩ := ⟨by kernel_rfl, by kernel_rfl, by kernel_rfl, by kernel_rfl, by kernel_rfl, by kernel_rfl⟩
theorem ty5 : TyOK Try.prog 5 ⟨1, 1, .int .u8, (.int .u8 0)⟩ := ⟨by kernel_rfl, by kernel_rfl, by kernel_rfl, by kernel_rfl, by kernel_rfl, by kernel_rfl⟩
theorem ty6 : TyOK Try.prog 6 ⟨1, 1, .int .u8, (.int .u8 0)⟩ := ⟨by kernel_rfl, by kernel_rfl, by kernel_rfl, by kernel_rfl, by kernel_rfl, by kernel_rfl⟩
theorem ty7 : TyOK Try.prog 7 ⟨4, 24, .strct [(0, 2), (1, 3), (2, 4), (3, 6)], .agg [.int .i64 0, .int .i64 0, .bool false, .int .u8 0]⟩ := ⟨by kernel_rfl, by kernel_rfl, by kernel_rfl, by kernel_rfl, by kernel_rfl, by kernel_rfl⟩
theorem ty8 : TyOK Try.prog 8 ⟨4, 24, .strct [(0, 2), (1, 3), (2, 4), (3, 6)], .agg [.int .i64 0, .int .i64 0, .bool false, .int .u8 0]⟩ := ⟨by kernel_rfl, by kernel_rfl, by kernel_rfl, by kernel_rfl, by kernel_rfl, by kernel_rfl⟩
theorem ty9 : TyOK Try.prog 9 ⟨1, 16, .str, (.str ByteArray.empty)⟩ := ⟨by kernel_rfl, by kernel_rfl, by kernel_rfl, by kernel_rfl, by kernel_rfl, by kernel_rfl⟩
theorem ty10 : TyOK Try.prog 10 ⟨1, 16, .str, (.str ByteArray.empty)⟩ := ⟨by kernel_rfl, by kernel_rfl, by kernel_rfl, by kernel_rfl, by kernel_rfl, by kernel_rfl⟩
theorem ty11 : TyOK Try.prog 11 ⟨1, 16, .str, (.str ByteArray.empty)⟩ := ⟨by kernel_rfl, by kernel_rfl, by kernel_rfl, by kernel_rfl, by kernel_rfl, by kernel_rfl⟩
theorem ty12 : TyOK Try.prog 12 ⟨1, 8, .int .u64, (.int .u64 0)⟩ := ⟨by kernel_rfl, by kernel_rfl, by kernel_rfl, by kernel_rfl, by kernel_rfl, by kernel_rfl⟩
theorem ty15 : TyOK Try.prog 15 ⟨1, 8, .ptr 126, (.nilp)⟩ := ⟨by kernel_rfl, by kernel_rfl, by kernel_rfl, by kernel_rfl, by kernel_rfl, by kernel_rfl⟩
theorem ty16 : TyOK Try.prog 16 ⟨1, 8, .ptr 129, (.nilp)⟩ := ⟨by kernel_rfl, by kernel_rfl, by kernel_rfl, by kernel_rfl, by kernel_rfl, by kernel_rfl⟩
theorem ty17 : TyOK Try.prog 17 ⟨1, 8, .ptr 136, (.nilp)⟩ := ⟨by kernel_rfl, by kernel_rfl, by kernel_rfl, by kernel_rfl, by kernel_rfl, by kernel_rfl⟩
theorem ty20 : TyOK Try.prog 20 ⟨1, 16, .ifc, (.nili)⟩ := ⟨by kernel_rfl, by kernel_rfl, by kernel_rfl, by kernel_rfl, by kernel_rfl, by kernel_rfl⟩
theorem ty21 : TyOK Try.prog 21 ⟨1, 4, .int .i32, (.int .i32 0)⟩ := ⟨by kernel_rfl, by kernel_rfl, by kernel_rfl, by kernel_rfl, by kernel_rfl, by kernel_rfl⟩
theorem ty22 : TyOK Try.prog 22 ⟨1, 24, .slice 30, (.nils)⟩ := ⟨by kernel_rfl, by kernel_rfl, by kernel_rfl, by kernel_rfl, by kernel_rfl, by kernel_rfl⟩
theorem ty23 : TyOK Try.prog 23 ⟨1, 8, .fn, (.nilf)⟩ := ⟨by kernel_rfl, by kernel_rfl, by kernel_rfl, by kernel_rfl, by kernel_rfl, by kernel_rfl⟩
theorem ty24 : TyOK Try.prog 24 ⟨1, 8, .ptr 53, (.nilp)⟩ := ⟨by kernel_rfl, by kernel_rfl, by kernel_rfl, by kernel_rfl, by kernel_rfl, by kernel_rfl⟩
theorem ty25 : TyOK Try.prog 25 ⟨1, 8, .fn, (.nilf)⟩ := ⟨by kernel_rfl, by kernel_rfl, by kernel_rfl, by kernel_rfl, by kernel_rfl, by kernel_rfl⟩
theorem ty26 : TyOK Try.prog 26 ⟨1, 8, .fn, (.nilf)⟩ := ⟨by kernel_rfl, by kernel_rfl, by kernel_rfl, by kernel_rfl, by kernel_rfl, by kernel_rfl⟩
theorem ty27 : TyOK Try.prog 27 ⟨1, 24, .slice 41, (.nils)⟩ := ⟨by kernel_rfl, by kernel_rfl, by kernel_rfl, by kernel_rfl, by kernel_rfl, by kernel_rfl⟩
theorem ty28 : TyOK Try.prog 28 ⟨1, 8, .int .u64, (.int .u64 0)⟩ := ⟨by kernel_rfl, by kernel_rfl, by kernel_rfl, by kernel_rfl, by kernel_rfl, by kernel_rfl⟩
theorem ty29 : TyOK Try.prog 29 ⟨6, 40, .strct [(0, 5), (1, 5), (2, 5), (3, 28), (4, 9), (5, 4)], .agg [.int .u8 0, .int .u8 0, .int .u8 0, .int .u64 0, .str ByteArray.empty, .bool false]⟩ := ⟨by kernel_rfl, by kernel_rfl, by kernel_rfl, by kernel_rfl, by kernel_rfl, by kernel_rfl⟩
theorem ty30 : TyOK Try.prog 30 ⟨6, 40, .strct [(0, 5), (1, 5), (2, 5), (3, 28), (4, 9), (5, 4)], .agg [.int .u8 0, .int .u8 0, .int .u8 0, .int .u64 0, .str ByteArray.empty, .bool false]⟩ := ⟨by kernel_rfl, by kernel_rfl, by kernel_rfl, by kernel_rfl, by kernel_rfl, by kernel_rfl⟩
theorem ty32 : TyOK Try.prog 32 ⟨1, 8, .fn, (.nilf)⟩ := ⟨by kernel_rfl, by kernel_rfl, by kernel_rfl, by kernel_rfl, by kernel_rfl, by kernel_rfl⟩
theorem ty34 : TyOK Try.prog 34 ⟨1, 8, .fn, (.nilf)⟩ := ⟨by kernel_rfl, by kernel_rfl, by kernel_rfl, by kernel_rfl, by kernel_rfl, by kernel_rfl⟩
theorem ty35 : TyOK Try.prog 35 ⟨1, 24, .slice 9, (.nils)⟩ := ⟨by kernel_rfl, by kernel_rfl, by kernel_rfl, by kernel_rfl, by kernel_rfl, by kernel_rfl⟩
theorem ty36 : TyOK Try.prog 36 ⟨1, 8, .fn, (.nilf)⟩ := ⟨by kernel_rfl, by kernel_rfl, by kernel_rfl, by kernel_rfl, by kernel_rfl, by kernel_rfl⟩
theorem ty38 : TyOK Try.prog 38 ⟨1, 8, .fn, (.nilf)⟩ := ⟨by kernel_rfl, by kernel_rfl, by kernel_rfl, by kernel_rfl, by kernel_rfl, by kernel_rfl⟩
theorem ty39 : TyOK Try.prog 39 ⟨1, 8, .fn, (.nilf)⟩ := ⟨by kernel_rfl, by kernel_rfl, by kernel_rfl, by kernel_rfl, by kernel_rfl, by kernel_rfl⟩
theorem ty40 : TyOK Try.prog 40 ⟨2, 32, .strct [(0, 5), (1, 35)], .agg [.int .u8 0, .nils]⟩ := ⟨by kernel_rfl, by kernel_rfl, by kernel_rfl, by kernel_rfl, by kernel_rfl, by kernel_rfl⟩
theorem ty41 : TyOK Try.prog 41 ⟨2, 32, .strct [(0, 5), (1, 35)], .agg [.int .u8 0, .nils]⟩ := ⟨by kernel_rfl, by kernel_rfl, by kernel_rfl, by kernel_rfl, by kernel_rfl, by kernel_rfl⟩
theorem ty42 : TyOK Try.prog 42 ⟨1, 8, .fn, (.nilf)⟩ := ⟨by kernel_rfl, by kernel_rfl, by kernel_rfl, by kernel_rfl, by kernel_rfl, by kernel_rfl⟩
theorem ty43 : TyOK Try.prog 43 ⟨1, 8, .fn, (.nilf)⟩ := ⟨by kernel_rfl, by kernel_rfl, by kernel_rfl, by kernel_rfl, by kernel_rfl, by kernel_rfl⟩
theorem ty44 : TyOK Try.prog 44 ⟨1, 8, .fn, (.nilf)⟩ := ⟨by kernel_rfl, by kernel_rfl, by kernel_rfl, by kernel_rfl, by kernel_rfl, by kernel_rfl⟩
theorem ty45 : TyOK Try.prog 45 ⟨1, 8, .fn, (.nilf)⟩ := ⟨by kernel_rfl, by kernel_rfl, by kernel_rfl, by kernel_rfl, by kernel_rfl, by kernel_rfl⟩
theorem ty46 : TyOK Try.prog 46 ⟨1, 8, .fn, (.nilf)⟩ := ⟨by kernel_rfl, by kernel_rfl, by kernel_rfl, by kernel_rfl, by kernel_rfl, by kernel_rfl⟩
theorem ty47 : TyOK Try.prog 47 ⟨1, 24, .slice 5, (.nils)⟩ := ⟨by kernel_rfl, by kernel_rfl, by kernel_rfl, by kernel_rfl, by kernel_rfl, by kernel_rfl⟩
theorem ty48 : TyOK Try.prog 48 ⟨1, 8, .fn, (.nilf)⟩ := ⟨by kernel_rfl, by kernel_rfl, by kernel_rfl, by kernel_rfl, by kernel_rfl, by kernel_rfl⟩
theorem ty49 : TyOK Try.prog 49 ⟨1, 8, .fn, (.nilf)⟩ := ⟨by kernel_rfl, by kernel_rfl, by kernel_rfl, by kernel_rfl, by kernel_rfl, by kernel_rfl⟩
theorem ty50 : TyOK Try.prog 50 ⟨1, 8, .fn, (.nilf)⟩ := ⟨by kernel_rfl, by kernel_rfl, by kernel_rfl, by kernel_rfl, by kernel_rfl, by kernel_rfl⟩
theorem ty51 : TyOK Try.prog 51 ⟨1, 8, .map 9 9, (.nilm)⟩ := ⟨by kernel_rfl, by kernel_rfl, by kernel_rfl, by kernel_rfl, by kernel_rfl, by kernel_rfl⟩
theorem ty52 : TyOK Try.prog 52 ⟨3, 40, .strct [(0, 51), (1, 51), (2, 35)], .agg [.nilm, .nilm, .nils]⟩ := ⟨by kernel_rfl, by kernel_rfl, by kernel_rfl, by kernel_rfl, by kernel_rfl, by kernel_rfl⟩
theorem ty53 : TyOK Try.prog 53 ⟨3, 40, .strct [(0, 51), (1, 51), (2, 35)], .agg [.nilm, .nilm, .nils]⟩ := ⟨by kernel_rfl, by kernel_rfl, by kernel_rfl, by kernel_rfl, by kernel_rfl, by kernel_rfl⟩
theorem ty54 : TyOK Try.prog 54 ⟨1, 24, .slice 24, (.nils)⟩ := ⟨by kernel_rfl, by kernel_rfl, by kernel_rfl, by kernel_rfl, by kernel_rfl, by kernel_rfl⟩
theorem ty55 : TyOK Try.prog 55 ⟨1, 8, .fn, (.nilf)⟩ := ⟨by kernel_rfl, by kernel_rfl, by kernel_rfl, by kernel_rfl, by kernel_rfl, by kernel_rfl⟩
theorem ty56 : TyOK Try.prog 56 ⟨1, 8, .fn, (.nilf)⟩ := ⟨by kernel_rfl, by kernel_rfl, by kernel_rfl, by kernel_rfl, by kernel_rfl, by kernel_rfl⟩
theorem ty57 : TyOK Try.prog 57 ⟨1, 8, .fn, (.nilf)⟩ := ⟨by kernel_rfl, by kernel_rfl, by kernel_rfl, by kernel_rfl, by kernel_rfl, by kernel_rfl⟩
theorem ty58 : TyOK Try.prog 58 ⟨1, 8, .fn, (.nilf)⟩ := ⟨by kernel_rfl, by kernel_rfl, by kernel_rfl, by kernel_rfl, by kernel_rfl, by kernel_rfl⟩
theorem ty59 : TyOK Try.prog 59 ⟨1, 8, .fn, (.nilf)⟩ := ⟨by kernel_rfl, by kernel_rfl, by kernel_rfl, by kernel_rfl, by kernel_rfl, by kernel_rfl⟩
theorem ty61 : TyOK Try.prog 61 ⟨1, 8, .fn, (.nilf)⟩ := ⟨by kernel_rfl, by kernel_rfl, by kernel_rfl, by kernel_rfl, by kernel_rfl, by kernel_rfl⟩
theorem ty62 : TyOK Try.prog 62 ⟨1, 8, .fn, (.nilf)⟩ := ⟨by kernel_rfl, by kernel_rfl, by kernel_rfl, by kernel_rfl, by kernel_rfl, by kernel_rfl⟩
theorem ty63 : TyOK Try.prog 63 ⟨1, 8, .int .i64, (.int .i64 0)⟩ := ⟨by kernel_rfl, by kernel_rfl, by kernel_rfl, by kernel_rfl, by kernel_rfl, by kernel_rfl⟩
theorem ty65 : TyOK Try.prog 65 ⟨1, 8, .fn, (.nilf)⟩ := ⟨by kernel_rfl, by kernel_rfl, by kernel_rfl, by kernel_rfl, by kernel_rfl, by kernel_rfl⟩
theorem ty66 : TyOK Try.prog 66 ⟨1, 8, .fn, (.nilf)⟩ := ⟨by kernel_rfl, by kernel_rfl, by kernel_rfl, by kernel_rfl, by kernel_rfl, by kernel_rfl⟩
theorem ty67 : TyOK Try.prog 67 ⟨1, 8, .fn, (.nilf)⟩ := ⟨by kernel_rfl, by kernel_rfl, by kernel_rfl, by kernel_rfl, by kernel_rfl, by kernel_rfl⟩
theorem ty69 : TyOK Try.prog 69 ⟨1, 8, .fn, (.nilf)⟩ := ⟨by kernel_rfl, by kernel_rfl, by kernel_rfl, by kernel_rfl, by kernel_rfl, by kernel_rfl⟩
theorem ty71 : TyOK Try.prog 71 ⟨1, 8, .fn, (.nilf)⟩ := ⟨by kernel_rfl, by kernel_rfl, by kernel_rfl, by kernel_rfl, by kernel_rfl, by kernel_rfl⟩
theorem ty72 : TyOK Try.prog 72 ⟨1, 8, .fn, (.nilf)⟩ := ⟨by kernel_rfl, by kernel_rfl, by kernel_rfl, by kernel_rfl, by kernel_rfl, by kernel_rfl⟩
theorem ty73 : TyOK Try.prog 73 ⟨1, 8, .fn, (.nilf)⟩ := ⟨by kernel_rfl, by kernel_rfl, by kernel_rfl, by kernel_rfl, by kernel_rfl, by kernel_rfl⟩
theorem ty74 : TyOK Try.prog 74 ⟨1, 8, .int .u64, (.int .u64 0)⟩ := ⟨by kernel_rfl, by kernel_rfl, by kernel_rfl, by kernel_rfl, by kernel_rfl, by kernel_rfl⟩
theorem ty75 : TyOK Try.prog 75 ⟨1, 8, .fn, (.nilf)⟩ := ⟨by kernel_rfl, by kernel_rfl, by kernel_rfl, by kernel_rfl, by kernel_rfl, by kernel_rfl⟩
theorem ty76 : TyOK Try.prog 76 ⟨1, 8, .ptr 63, (.nilp)⟩ := ⟨by kernel_rfl, by kernel_rfl, by kernel_rfl, by kernel_rfl, by kernel_rfl, by kernel_rfl⟩
theorem ty77 : TyOK Try.prog 77 ⟨1, 8, .fn, (.nilf)⟩ := ⟨by kernel_rfl, by kernel_rfl, by kernel_rfl, by kernel_rfl, by kernel_rfl, by kernel_rfl⟩
theorem ty78 : TyOK Try.prog 78 ⟨1, 8, .ptr 80, (.nilp)⟩ := ⟨by kernel_rfl, by kernel_rfl, by kernel_rfl, by kernel_rfl, by kernel_rfl, by kernel_rfl⟩
theorem ty79 : TyOK Try.prog 79 ⟨1, 16, .strct [(0, 9)], .agg [.str ByteArray.empty]⟩ := ⟨by kernel_rfl, by kernel_rfl, by kernel_rfl, by kernel_rfl, by kernel_rfl, by kernel_rfl⟩
theorem ty80 : TyOK Try.prog 80 ⟨1, 16, .strct [(0, 9)], .agg [.str ByteArray.empty]⟩ := ⟨by kernel_rfl, by kernel_rfl, by kernel_rfl, by kernel_rfl, by kernel_rfl, by kernel_rfl⟩
theorem ty81 : TyOK Try.prog 81 ⟨1, 8, .fn, (.nilf)⟩ := ⟨by kernel_rfl, by kernel_rfl, by kernel_rfl, by kernel_rfl, by kernel_rfl, by kernel_rfl⟩
theorem ty82 : TyOK Try.prog 82 ⟨1, 8, .ptr 84, (.nilp)⟩ := ⟨by kernel_rfl, by kernel_rfl, by kernel_rfl, by kernel_rfl, by kernel_rfl, by kernel_rfl⟩
theorem ty83 : TyOK Try.prog 83 ⟨2, 32, .strct [(0, 82), (1, 47)], .agg [.nilp, .nils]⟩ := ⟨by kernel_rfl, by kernel_rfl, by kernel_rfl, by kernel_rfl, by kernel_rfl, by kernel_rfl⟩
theorem ty84 : TyOK Try.prog 84 ⟨2, 32, .strct [(0, 82), (1, 47)], .agg [.nilp, .nils]⟩ := ⟨by kernel_rfl, by kernel_rfl, by kernel_rfl, by kernel_rfl, by kernel_rfl, by kernel_rfl⟩
theorem ty85 : TyOK Try.prog 85 ⟨1, 16, .ifc, (.nili)⟩ := ⟨by kernel_rfl, by kernel_rfl, by kernel_rfl, by kernel_rfl, by kernel_rfl, by kernel_rfl⟩
theorem ty86 : TyOK Try.prog 86 ⟨1, 16, .ifc, (.nili)⟩ := ⟨by kernel_rfl, by kernel_rfl, by kernel_rfl, by kernel_rfl, by kernel_rfl, by kernel_rfl⟩
theorem ty88 : TyOK Try.prog 88 ⟨1, 8, .fn, (.nilf)⟩ := ⟨by kernel_rfl, by kernel_rfl, by kernel_rfl, by kernel_rfl, by kernel_rfl, by kernel_rfl⟩
theorem ty89 : TyOK Try.prog 89 ⟨1, 8, .fn, (.nilf)⟩ := ⟨by kernel_rfl, by kernel_rfl, by kernel_rfl, by kernel_rfl, by kernel_rfl, by kernel_rfl⟩
theorem ty90 : TyOK Try.prog 90 ⟨1, 8, .fn, (.nilf)⟩ := ⟨by kernel_rfl, by kernel_rfl, by kernel_rfl, by kernel_rfl, by kernel_rfl, by kernel_rfl⟩
theorem ty91 : TyOK Try.prog 91 ⟨1, 8, .fn, (.nilf)⟩ := ⟨by kernel_rfl, by kernel_rfl, by kernel_rfl, by kernel_rfl, by kernel_rfl, by kernel_rfl⟩
theorem ty92 : TyOK Try.prog 92 ⟨1, 8, .fn, (.nilf)⟩ := ⟨by kernel_rfl, by kernel_rfl, by kernel_rfl, by kernel_rfl, by kernel_rfl, by kernel_rfl⟩
theorem ty93 : TyOK Try.prog 93 ⟨1, 8, .int .i64, (.int .i64 0)⟩ := ⟨by kernel_rfl, by kernel_rfl, by kernel_rfl, by kernel_rfl, by kernel_rfl, by kernel_rfl⟩
theorem ty95 : TyOK Try.prog 95 ⟨1, 8, .fn, (.nilf)⟩ := ⟨by kernel_rfl, by kernel_rfl, by kernel_rfl, by kernel_rfl, by kernel_rfl, by kernel_rfl⟩
theorem ty96 : TyOK Try.prog 96 ⟨1, 8, .fn, (.nilf)⟩ := ⟨by kernel_rfl, by kernel_rfl, by kernel_rfl, by kernel_rfl, by kernel_rfl, by kernel_rfl⟩
theorem ty97 : TyOK Try.prog 97 ⟨1, 8, .fn, (.nilf)⟩ := ⟨by kernel_rfl, by kernel_rfl, by kernel_rfl, by kernel_rfl, by kernel_rfl, by kernel_rfl⟩
theorem ty98 : TyOK Try.prog 98 ⟨1, 8, .fn, (.nilf)⟩ := ⟨by kernel_rfl, by kernel_rfl, by kernel_rfl, by kernel_rfl, by kernel_rfl, by kernel_rfl⟩
theorem ty100 : TyOK Try.prog 100 ⟨1, 8, .fn, (.nilf)⟩ := ⟨by kernel_rfl, by kernel_rfl, by kernel_rfl, by kernel_rfl, by kernel_rfl, by kernel_rfl⟩
theorem ty101 : TyOK Try.prog 101 ⟨1, 8, .fn, (.nilf)⟩ := ⟨by kernel_rfl, by kernel_rfl, by kernel_rfl, by kernel_rfl, by kernel_rfl, by kernel_rfl⟩
theorem ty102 : TyOK Try.prog 102 ⟨1, 4, .int .u32, (.int .u32 0)⟩ := ⟨by kernel_rfl, by kernel_rfl, by kernel_rfl, by kernel_rfl, by kernel_rfl, by kernel_rfl⟩
theorem ty103 : TyOK Try.prog 103 ⟨1, 8, .fn, (.nilf)⟩ := ⟨by kernel_rfl, by kernel_rfl, by kernel_rfl, by kernel_rfl, by kernel_rfl, by kernel_rfl⟩
theorem ty104 : TyOK Try.prog 104 ⟨1, 8, .ptr 5, (.nilp)⟩ := ⟨by kernel_rfl, by kernel_rfl, by kernel_rfl, by kernel_rfl, by kernel_rfl, by kernel_rfl⟩
theorem ty106 : TyOK Try.prog 106 ⟨1, 8, .fn, (.nilf)⟩ := ⟨by kernel_rfl, by kernel_rfl, by kernel_rfl, by kernel_rfl, by kernel_rfl, by kernel_rfl⟩
theorem ty107 : TyOK Try.prog 107 ⟨1, 8, .fn, (.nilf)⟩ := ⟨by kernel_rfl, by kernel_rfl, by kernel_rfl, by kernel_rfl, by kernel_rfl, by kernel_rfl⟩
theorem ty108 : TyOK Try.prog 108 ⟨1, 8, .int .u64, (.int .u64 0)⟩ := ⟨by kernel_rfl, by kernel_rfl, by kernel_rfl, by kernel_rfl, by kernel_rfl, by kernel_rfl⟩
theorem ty109 : TyOK Try.prog 109 ⟨1, 8, .fn, (.nilf)⟩ := ⟨by kernel_rfl, by kernel_rfl, by kernel_rfl, by kernel_rfl, by kernel_rfl, by kernel_rfl⟩
theorem ty110 : TyOK Try.prog 110 ⟨1, 8, .fn, (.nilf)⟩ := ⟨by kernel_rfl, by kernel_rfl, by kernel_rfl, by kernel_rfl, by kernel_rfl, by kernel_rfl⟩
theorem ty111 : TyOK Try.prog 111 ⟨1, 8, .fn, (.nilf)⟩ := ⟨by kernel_rfl, by kernel_rfl, by kernel_rfl, by kernel_rfl, by kernel_rfl, by kernel_rfl⟩
theorem ty112 : TyOK Try.prog 112 ⟨1, 8, .ptr 3, (.nilp)⟩ := ⟨by kernel_rfl, by kernel_rfl, by kernel_rfl, by kernel_rfl, by kernel_rfl, by kernel_rfl⟩
theorem ty113 : TyOK Try.prog 113 ⟨1, 8, .fn, (.nilf)⟩ := ⟨by kernel_rfl, by kernel_rfl, by kernel_rfl, by kernel_rfl, by kernel_rfl, by kernel_rfl⟩
theorem ty114 : TyOK Try.prog 114 ⟨1, 8, .fn, (.nilf)⟩ := ⟨by kernel_rfl, by kernel_rfl, by kernel_rfl, by kernel_rfl, by kernel_rfl, by kernel_rfl⟩
theorem ty116 : TyOK Try.prog 116 ⟨1, 8, .fn, (.nilf)⟩ := ⟨by kernel_rfl, by kernel_rfl, by kernel_rfl, by kernel_rfl, by kernel_rfl, by kernel_rfl⟩
theorem ty118 : TyOK Try.prog 118 ⟨1, 8, .fn, (.nilf)⟩ := ⟨by kernel_rfl, by kernel_rfl, by kernel_rfl, by kernel_rfl, by kernel_rfl, by kernel_rfl⟩
theorem ty120 : TyOK Try.prog 120 ⟨1, 8, .fn, (.nilf)⟩ := ⟨by kernel_rfl, by kernel_rfl, by kernel_rfl, by kernel_rfl, by kernel_rfl, by kernel_rfl⟩
theorem ty121 : TyOK Try.prog 121 ⟨1, 8, .ptr 108, (.nilp)⟩ := ⟨by kernel_rfl, by kernel_rfl, by kernel_rfl, by kernel_rfl, by kernel_rfl, by kernel_rfl⟩
theorem ty123 : TyOK Try.prog 123 ⟨1, 8, .fn, (.nilf)⟩ := ⟨by kernel_rfl, by kernel_rfl, by kernel_rfl, by kernel_rfl, by kernel_rfl, by kernel_rfl⟩
theorem ty124 : TyOK Try.prog 124 ⟨1, 8, .fn, (.nilf)⟩ := ⟨by kernel_rfl, by kernel_rfl, by kernel_rfl, by kernel_rfl, by kernel_rfl, by kernel_rfl⟩
theorem ty127 : TyOK Try.prog 127 ⟨0, 0, .arr 0 16, .agg []⟩ := ⟨by kernel_rfl, by kernel_rfl, by kernel_rfl, by kernel_rfl, by kernel_rfl, by kernel_rfl⟩
theorem ty130 : TyOK Try.prog 130 ⟨1, 1, .int .u8, (.int .u8 0)⟩ := ⟨by kernel_rfl, by kernel_rfl, by kernel_rfl, by kernel_rfl, by kernel_rfl, by kernel_rfl⟩
theorem ty131 : TyOK Try.prog 131 ⟨1, 1, .int .u8, (.int .u8 0)⟩ := ⟨by kernel_rfl, by kernel_rfl, by kernel_rfl, by kernel_rfl, by kernel_rfl, by kernel_rfl⟩
theorem ty132 : TyOK Try.prog 132 ⟨1, 8, .fn, (.nilf)⟩ := ⟨by kernel_rfl, by kernel_rfl, by kernel_rfl, by kernel_rfl, by kernel_rfl, by kernel_rfl⟩
theorem ty133 : TyOK Try.prog 133 ⟨1, 4, .int .i32, (.int .i32 0)⟩ := ⟨by kernel_rfl, by kernel_rfl, by kernel_rfl, by kernel_rfl, by kernel_rfl, by kernel_rfl⟩
theorem ty134 : TyOK Try.prog 134 ⟨1, 4, .int .i32, (.int .i32 0)⟩ := ⟨by kernel_rfl, by kernel_rfl, by kernel_rfl, by kernel_rfl, by kernel_rfl, by kernel_rfl⟩

def tbl : List (Nat × TI) := [  (1, ⟨1, 8, .fn, (.nilf)⟩),
  (2, ⟨1, 8, .int .i64, (.int .i64 0)⟩),
  (3, ⟨1, 8, .int .i64, (.int .i64 0)⟩),
  (4, ⟨1, 1, .bool, (.bool false)⟩),
  (5, ⟨1, 1, .int .u8, (.int .u8 0)⟩),
  (6, ⟨1, 1, .int .u8, (.int .u8 0)⟩),
  (7, ⟨4, 24, .strct [(0, 2), (1, 3), (2, 4), (3, 6)], .agg [.int .i64 0, .int .i64 0, .bool false, .int .u8 0]⟩),
  (8, ⟨4, 24, .strct [(0, 2), (1, 3), (2, 4), (3, 6)], .agg [.int .i64 0, .int .i64 0, .bool false, .int .u8 0]⟩),
  (9, ⟨1, 16, .str, (.str ByteArray.empty)⟩),
  (10, ⟨1, 16, .str, (.str ByteArray.empty)⟩),
  (11, ⟨1, 16, .str, (.str ByteArray.empty)⟩),
  (12, ⟨1, 8, .int .u64, (.int .u64 0)⟩),
  (15, ⟨1, 8, .ptr 126, (.nilp)⟩),
  (16, ⟨1, 8, .ptr 129, (.nilp)⟩),
  (17, ⟨1, 8, .ptr 136, (.nilp)⟩),
  (20, ⟨1, 16, .ifc, (.nili)⟩),
  (21, ⟨1, 4, .int .i32, (.int .i32 0)⟩),
  (22, ⟨1, 24, .slice 30, (.nils)⟩),
  (23, ⟨1, 8, .fn, (.nilf)⟩),
  (24, ⟨1, 8, .ptr 53, (.nilp)⟩),
  (25, ⟨1, 8, .fn, (.nilf)⟩),
  (26, ⟨1, 8, .fn, (.nilf)⟩),
  (27, ⟨1, 24, .slice 41, (.nils)⟩),
  (28, ⟨1, 8, .int .u64, (.int .u64 0)⟩),
  (29, ⟨6, 40, .strct [(0, 5), (1, 5), (2, 5), (3, 28), (4, 9), (5, 4)], .agg [.int .u8 0, .int .u8 0, .int .u8 0, .int .u64 0, .str ByteArray.empty, .bool false]⟩),
  (30, ⟨6, 40, .strct [(0, 5), (1, 5), (2, 5), (3, 28), (4, 9), (5, 4)], .agg [.int .u8 0, .int .u8 0, .int .u8 0, .int .u64 0, .str ByteArray.empty, .bool false]⟩),
  (32, ⟨1, 8, .fn, (.nilf)⟩),
  (34, ⟨1, 8, .fn, (.nilf)⟩),
  (35, ⟨1, 24, .slice 9, (.nils)⟩),
  (36, ⟨1, 8, .fn, (.nilf)⟩),
  (38, ⟨1, 8, .fn, (.nilf)⟩),
  (39, ⟨1, 8, .fn, (.nilf)⟩),
  (40, ⟨2, 32, .strct [(0, 5), (1, 35)], .agg [.int .u8 0, .nils]⟩),
  (41, ⟨2, 32, .strct [(0, 5), (1, 35)], .agg [.int .u8 0, .nils]⟩),
  (42, ⟨1, 8, .fn, (.nilf)⟩),
  (43, ⟨1, 8, .fn, (.nilf)⟩),
  (44, ⟨1, 8, .fn, (.nilf)⟩),
  (45, ⟨1, 8, .fn, (.nilf)⟩),
  (46, ⟨1, 8, .fn, (.nilf)⟩),
  (47, ⟨1, 24, .slice 5, (.nils)⟩),
  (48, ⟨1, 8, .fn, (.nilf)⟩),
  (49, ⟨1, 8, .fn, (.nilf)⟩),
  (50, ⟨1, 8, .fn, (.nilf)⟩),
  (51, ⟨1, 8, .map 9 9, (.nilm)⟩),
  (52, ⟨3, 40, .strct [(0, 51), (1, 51), (2, 35)], .agg [.nilm, .nilm, .nils]⟩),
  (53, ⟨3, 40, .strct [(0, 51), (1, 51), (2, 35)], .agg [.nilm, .nilm, .nils]⟩),
  (54, ⟨1, 24, .slice 24, (.nils)⟩),
  (55, ⟨1, 8, .fn, (.nilf)⟩),
  (56, ⟨1, 8, .fn, (.nilf)⟩),
  (57, ⟨1, 8, .fn, (.nilf)⟩),
  (58, ⟨1, 8, .fn, (.nilf)⟩),
  (59, ⟨1, 8, .fn, (.nilf)⟩),
  (61, ⟨1, 8, .fn, (.nilf)⟩),
  (62, ⟨1, 8, .fn, (.nilf)⟩),
  (63, ⟨1, 8, .int .i64, (.int .i64 0)⟩),
  (65, ⟨1, 8, .fn, (.nilf)⟩),
  (66, ⟨1, 8, .fn, (.nilf)⟩),
  (67, ⟨1, 8, .fn, (.nilf)⟩),
  (69, ⟨1, 8, .fn, (.nilf)⟩),
  (71, ⟨1, 8, .fn, (.nilf)⟩),
  (72, ⟨1, 8, .fn, (.nilf)⟩),
  (73, ⟨1, 8, .fn, (.nilf)⟩),
  (74, ⟨1, 8, .int .u64, (.int .u64 0)⟩),
  (75, ⟨1, 8, .fn, (.nilf)⟩),
  (76, ⟨1, 8, .ptr 63, (.nilp)⟩),
  (77, ⟨1, 8, .fn, (.nilf)⟩),
  (78, ⟨1, 8, .ptr 80, (.nilp)⟩),
  (79, ⟨1, 16, .strct [(0, 9)], .agg [.str ByteArray.empty]⟩),
  (80, ⟨1, 16, .strct [(0, 9)], .agg [.str ByteArray.empty]⟩),
  (81, ⟨1, 8, .fn, (.nilf)⟩),
  (82, ⟨1, 8, .ptr 84, (.nilp)⟩),
  (83, ⟨2, 32, .strct [(0, 82), (1, 47)], .agg [.nilp, .nils]⟩),
  (84, ⟨2, 32, .strct [(0, 82), (1, 47)], .agg [.nilp, .nils]⟩),
  (85, ⟨1, 16, .ifc, (.nili)⟩),
  (86, ⟨1, 16, .ifc, (.nili)⟩),
  (88, ⟨1, 8, .fn, (.nilf)⟩),
  (89, ⟨1, 8, .fn, (.nilf)⟩),
  (90, ⟨1, 8, .fn, (.nilf)⟩),
  (91, ⟨1, 8, .fn, (.nilf)⟩),
  (92, ⟨1, 8, .fn, (.nilf)⟩),
  (93, ⟨1, 8, .int .i64, (.int .i64 0)⟩),
  (95, ⟨1, 8, .fn, (.nilf)⟩),
  (96, ⟨1, 8, .fn, (.nilf)⟩),
  (97, ⟨1, 8, .fn, (.nilf)⟩),
  (98, ⟨1, 8, .fn, (.nilf)⟩),
  (100, ⟨1, 8, .fn, (.nilf)⟩),
  (101, ⟨1, 8, .fn, (.nilf)⟩),
  (102, ⟨1, 4, .int .u32, (.int .u32 0)⟩),
  (103, ⟨1, 8, .fn, (.nilf)⟩),
  (104, ⟨1, 8, .ptr 5, (.nilp)⟩),
  (106, ⟨1, 8, .fn, (.nilf)⟩),
  (107, ⟨1, 8, .fn, (.nilf)⟩),
  (108, ⟨1, 8, .int .u64, (.int .u64 0)⟩),
  (109, ⟨1, 8, .fn, (.nilf)⟩),
  (110, ⟨1, 8, .fn, (.nilf)⟩),
  (111, ⟨1, 8, .fn, (.nilf)⟩),
  (112, ⟨1, 8, .ptr 3, (.nilp)⟩),
  (113, ⟨1, 8, .fn, (.nilf)⟩),
  (114, ⟨1, 8, .fn, (.nilf)⟩),
  (116, ⟨1, 8, .fn, (.nilf)⟩),
  (118, ⟨1, 8, .fn, (.nilf)⟩),
  (120, ⟨1, 8, .fn, (.nilf)⟩),
  (121, ⟨1, 8, .ptr 108, (.nilp)⟩),
  (123, ⟨1, 8, .fn, (.nilf)⟩),
  (124, ⟨1, 8, .fn, (.nilf)⟩),
  (127, ⟨0, 0, .arr 0 16, .agg []⟩),
  (130, ⟨1, 1, .int .u8, (.int .u8 0)⟩),
  (131, ⟨1, 1, .int .u8, (.int .u8 0)⟩),
  (132, ⟨1, 8, .fn, (.nilf)⟩),
  (133, ⟨1, 4, .int .i32, (.int .i32 0)⟩),
  (134, ⟨1, 4, .int .i32, (.int .i32 0)⟩)]
def tt (T : Nat) : Option TI := lk tbl T
theorem tt_1 : tt 1 = some ⟨1, 8, .fn, (.nilf)⟩ := rfl
theorem tt_2 : tt 2 = some ⟨1, 8, .int .i64, (.int .i64 0)⟩ := rfl
theorem tt_3 : tt 3 = some ⟨1, 8, .int .i64, (.int .i64 0)⟩ := rfl
theorem tt_4 : tt 4 = some ⟨1, 1, .bool, (.bool false)⟩ := rfl
theorem tt_5 : tt 5 = some ⟨1, 1, .int .u8, (.int .u8 0)⟩ := rfl
theorem tt_6 : tt 6 = some ⟨1, 1, .int .u8, (.int .u8 0)⟩ := rfl
theorem tt_7 : tt 7 = some ⟨4, 24, .strct [(0, 2), (1, 3), (2, 4), (3, 6)], .agg [.int .i64 0, .int .i64 0, .bool false, .int .u8 0]⟩ := rfl
theorem tt_8 : tt 8 = some ⟨4, 24, .strct [(0, 2), (1, 3), (2, 4), (3, 6)], .agg [.int .i64 0, .int .i64 0, .bool false, .int .u8 0]⟩ := rfl
theorem tt_9 : tt 9 = some ⟨1, 16, .str, (.str ByteArray.empty)⟩ := rfl
theorem tt_10 : tt 10 = some ⟨1, 16, .str, (.str ByteArray.empty)⟩ := rfl
theorem tt_11 : tt 11 = some ⟨1, 16, .str, (.str ByteArray.empty)⟩ := rfl
theorem tt_12 : tt 12 = some ⟨1, 8, .int .u64, (.int .u64 0)⟩ := rfl
theorem tt_15 : tt 15 = some ⟨1, 8, .ptr 126, (.nilp)⟩ := rfl
theorem tt_16 : tt 16 = some ⟨1, 8, .ptr 129, (.nilp)⟩ := rfl
theorem tt_17 : tt 17 = some ⟨1, 8, .ptr 136, (.nilp)⟩ := rfl
theorem tt_20 : tt 20 = some ⟨1, 16, .ifc, (.nili)⟩ := rfl
theorem tt_21 : tt 21 = some ⟨1, 4, .int .i32, (.int .i32 0)⟩ := rfl
theorem tt_22 : tt 22 = some ⟨1, 24, .slice 30, (.nils)⟩ := rfl
theorem tt_23 : tt 23 = some ⟨1, 8, .fn, (.nilf)⟩ := rfl
theorem tt_24 : tt 24 = some ⟨1, 8, .ptr 53, (.nilp)⟩ := rfl
theorem tt_25 : tt 25 = some ⟨1, 8, .fn, (.nilf)⟩ := rfl
theorem tt_26 : tt 26 = some ⟨1, 8, .fn, (.nilf)⟩ := rfl
theorem tt_27 : tt 27 = some ⟨1, 24, .slice 41, (.nils)⟩ := rfl
theorem tt_28 : tt 28 = some ⟨1, 8, .int .u64, (.int .u64 0)⟩ := rfl
theorem tt_29 : tt 29 = some ⟨6, 40, .strct [(0, 5), (1, 5), (2, 5), (3, 28), (4, 9), (5, 4)], .agg [.int .u8 0, .int .u8 0, .int .u8 0, .int .u64 0, .str ByteArray.empty, .bool false]⟩ := rfl
theorem tt_30 : tt 30 = some ⟨6, 40, .strct [(0, 5), (1, 5), (2, 5), (3, 28), (4, 9), (5, 4)], .agg [.int .u8 0, .int .u8 0, .int .u8 0, .int .u64 0, .str ByteArray.empty, .bool false]⟩ := rfl
theorem tt_32 : tt 32 = some ⟨1, 8, .fn, (.nilf)⟩ := rfl
theorem tt_34 : tt 34 = some ⟨1, 8, .fn, (.nilf)⟩ := rfl
theorem tt_35 : tt 35 = some ⟨1, 24, .slice 9, (.nils)⟩ := rfl
theorem tt_36 : tt 36 = some ⟨1, 8, .fn, (.nilf)⟩ := rfl
theorem tt_38 : tt 38 = some ⟨1, 8, .fn, (.nilf)⟩ := rfl
theorem tt_39 : tt 39 = some ⟨1, 8, .fn, (.nilf)⟩ := rfl
theorem tt_40 : tt 40 = some ⟨2, 32, .strct [(0, 5), (1, 35)], .agg [.int .u8 0, .nils]⟩ := rfl
theorem tt_41 : tt 41 = some ⟨2, 32, .strct [(0, 5), (1, 35)], .agg [.int .u8 0, .nils]⟩ := rfl
theorem tt_42 : tt 42 = some ⟨1, 8, .fn, (.nilf)⟩ := rfl
theorem tt_43 : tt 43 = some ⟨1, 8, .fn, (.nilf)⟩ := rfl
theorem tt_44 : tt 44 = some ⟨1, 8, .fn, (.nilf)⟩ := rfl
theorem tt_45 : tt 45 = some ⟨1, 8, .fn, (.nilf)⟩ := rfl
theorem tt_46 : tt 46 = some ⟨1, 8, .fn, (.nilf)⟩ := rfl
theorem tt_47 : tt 47 = some ⟨1, 24, .slice 5, (.nils)⟩ := rfl
theorem tt_48 : tt 48 = some ⟨1, 8, .fn, (.nilf)⟩ := rfl
theorem tt_49 : tt 49 = some ⟨1, 8, .fn, (.nilf)⟩ := rfl
theorem tt_50 : tt 50 = some ⟨1, 8, .fn, (.nilf)⟩ := rfl
theorem tt_51 : tt 51 = some ⟨1, 8, .map 9 9, (.nilm)⟩ := rfl
theorem tt_52 : tt 52 = some ⟨3, 40, .strct [(0, 51), (1, 51), (2, 35)], .agg [.nilm, .nilm, .nils]⟩ := rfl
theorem tt_53 : tt 53 = some ⟨3, 40, .strct [(0, 51), (1, 51), (2, 35)], .agg [.nilm, .nilm, .nils]⟩ := rfl
theorem tt_54 : tt 54 = some ⟨1, 24, .slice 24, (.nils)⟩ := rfl
theorem tt_55 : tt 55 = some ⟨1, 8, .fn, (.nilf)⟩ := rfl
theorem tt_56 : tt 56 = some ⟨1, 8, .fn, (.nilf)⟩ := rfl
theorem tt_57 : tt 57 = some ⟨1, 8, .fn, (.nilf)⟩ := rfl
theorem tt_58 : tt 58 = some ⟨1, 8, .fn, (.nilf)⟩ := rfl
theorem tt_59 : tt 59 = some ⟨1, 8, .fn, (.nilf)⟩ := rfl
theorem tt_61 : tt 61 = some ⟨1, 8, .fn, (.nilf)⟩ := rfl
theorem tt_62 : tt 62 = some ⟨1, 8, .fn, (.nilf)⟩ := rfl
theorem tt_63 : tt 63 = some ⟨1, 8, .int .i64, (.int .i64 0)⟩ := rfl
theorem tt_65 : tt 65 = some ⟨1, 8, .fn, (.nilf)⟩ := rfl
theorem tt_66 : tt 66 = some ⟨1, 8, .fn, (.nilf)⟩ := rfl
theorem tt_67 : tt 67 = some ⟨1, 8, .fn, (.nilf)⟩ := rfl
theorem tt_69 : tt 69 = some ⟨1, 8, .fn, (.nilf)⟩ := rfl
theorem tt_71 : tt 71 = some ⟨1, 8, .fn, (.nilf)⟩ := rfl
theorem tt_72 : tt 72 = some ⟨1, 8, .fn, (.nilf)⟩ := rfl
theorem tt_73 : tt 73 = some ⟨1, 8, .fn, (.nilf)⟩ := rfl
theorem tt_74 : tt 74 = some ⟨1, 8, .int .u64, (.int .u64 0)⟩ := rfl
theorem tt_75 : tt 75 = some ⟨1, 8, .fn, (.nilf)⟩ := rfl
theorem tt_76 : tt 76 = some ⟨1, 8, .ptr 63, (.nilp)⟩ := rfl
theorem tt_77 : tt 77 = some ⟨1, 8, .fn, (.nilf)⟩ := rfl
theorem tt_78 : tt 78 = some ⟨1, 8, .ptr 80, (.nilp)⟩ := rfl
theorem tt_79 : tt 79 = some ⟨1, 16, .strct [(0, 9)], .agg [.str ByteArray.empty]⟩ := rfl
theorem tt_80 : tt 80 = some ⟨1, 16, .strct [(0, 9)], .agg [.str ByteArray.empty]⟩ := rfl
theorem tt_81 : tt 81 = some ⟨1, 8, .fn, (.nilf)⟩ := rfl
theorem tt_82 : tt 82 = some ⟨1, 8, .ptr 84, (.nilp)⟩ := rfl
theorem tt_83 : tt 83 = some ⟨2, 32, .strct [(0, 82), (1, 47)], .agg [.nilp, .nils]⟩ := rfl
theorem tt_84 : tt 84 = some ⟨2, 32, .strct [(0, 82), (1, 47)], .agg [.nilp, .nils]⟩ := rfl
theorem tt_85 : tt 85 = some ⟨1, 16, .ifc, (.nili)⟩ := rfl
theorem tt_86 : tt 86 = some ⟨1, 16, .ifc, (.nili)⟩ := rfl
theorem tt_88 : tt 88 = some ⟨1, 8, .fn, (.nilf)⟩ := rfl
theorem tt_89 : tt 89 = some ⟨1, 8, .fn, (.nilf)⟩ := rfl
theorem tt_90 : tt 90 = some ⟨1, 8, .fn, (.nilf)⟩ := rfl
theorem tt_91 : tt 91 = some ⟨1, 8, .fn, (.nilf)⟩ := rfl
theorem tt_92 : tt 92 = some ⟨1, 8, .fn, (.nilf)⟩ := rfl
theorem tt_93 : tt 93 = some ⟨1, 8, .int .i64, (.int .i64 0)⟩ := rfl
theorem tt_95 : tt 95 = some ⟨1, 8, .fn, (.nilf)⟩ := rfl
theorem tt_96 : tt 96 = some ⟨1, 8, .fn, (.nilf)⟩ := rfl
theorem tt_97 : tt 97 = some ⟨1, 8, .fn, (.nilf)⟩ := rfl
theorem tt_98 : tt 98 = some ⟨1, 8, .fn, (.nilf)⟩ := rfl
theorem tt_100 : tt 100 = some ⟨1, 8, .fn, (.nilf)⟩ := rfl
theorem tt_101 : tt 101 = some ⟨1, 8, .fn, (.nilf)⟩ := rfl
theorem tt_102 : tt 102 = some ⟨1, 4, .int .u32, (.int .u32 0)⟩ := rfl
theorem tt_103 : tt 103 = some ⟨1, 8, .fn, (.nilf)⟩ := rfl
theorem tt_104 : tt 104 = some ⟨1, 8, .ptr 5, (.nilp)⟩ := rfl
theorem tt_106 : tt 106 = some ⟨1, 8, .fn, (.nilf)⟩ := rfl
theorem tt_107 : tt 107 = some ⟨1, 8, .fn, (.nilf)⟩ := rfl
theorem tt_108 : tt 108 = some ⟨1, 8, .int .u64, (.int .u64 0)⟩ := rfl
theorem tt_109 : tt 109 = some ⟨1, 8, .fn, (.nilf)⟩ := rfl
theorem tt_110 : tt 110 = some ⟨1, 8, .fn, (.nilf)⟩ := rfl
theorem tt_111 : tt 111 = some ⟨1, 8, .fn, (.nilf)⟩ := rfl
theorem tt_112 : tt 112 = some ⟨1, 8, .ptr 3, (.nilp)⟩ := rfl
theorem tt_113 : tt 113 = some ⟨1, 8, .fn, (.nilf)⟩ := rfl
theorem tt_114 : tt 114 = some ⟨1, 8, .fn, (.nilf)⟩ := rfl
theorem tt_116 : tt 116 = some ⟨1, 8, .fn, (.nilf)⟩ := rfl
theorem tt_118 : tt 118 = some ⟨1, 8, .fn, (.nilf)⟩ := rfl
theorem tt_120 : tt 120 = some ⟨1, 8, .fn, (.nilf)⟩ := rfl
theorem tt_121 : tt 121 = some ⟨1, 8, .ptr 108, (.nilp)⟩ := rfl
theorem tt_123 : tt 123 = some ⟨1, 8, .fn, (.nilf)⟩ := rfl
theorem tt_124 : tt 124 = some ⟨1, 8, .fn, (.nilf)⟩ := rfl
theorem tt_127 : tt 127 = some ⟨0, 0, .arr 0 16, .agg []⟩ := rfl
theorem tt_130 : tt 130 = some ⟨1, 1, .int .u8, (.int .u8 0)⟩ := rfl
theorem tt_131 : tt 131 = some ⟨1, 1, .int .u8, (.int .u8 0)⟩ := rfl
theorem tt_132 : tt 132 = some ⟨1, 8, .fn, (.nilf)⟩ := rfl
theorem tt_133 : tt 133 = some ⟨1, 4, .int .i32, (.int .i32 0)⟩ := rfl
theorem tt_134 : tt 134 = some ⟨1, 4, .int .i32, (.int .i32 0)⟩ := rfl
theorem tt_ok : TT Try.prog tt := by
  refine TT.of_list ?_
  simp only [tbl, List.forall_mem_cons]
  exact ⟨ty1, ty2, ty3, ty4, ty5, ty6, ty7, ty8, ty9, ty10, ty11, ty12, ty15, ty16, ty17, ty20, ty21, ty22, ty23, ty24, ty25, ty26, ty27, ty28, ty29, ty30, ty32, ty34, ty35, ty36, ty38, ty39, ty40, ty41, ty42, ty43, ty44, ty45, ty46, ty47, ty48, ty49, ty50, ty51, ty52, ty53, ty54, ty55, ty56, ty57, ty58, ty59, ty61, ty62, ty63, ty65, ty66, ty67, ty69, ty71, ty72, ty73, ty74, ty75, ty76, ty77, ty78, ty79, ty80, ty81, ty82, ty83, ty84, ty85, ty86, ty88, ty89, ty90, ty91, ty92, ty93, ty95, ty96, ty97, ty98, ty100, ty101, ty102, ty103, ty104, ty106, ty107, ty108, ty109, ty110, ty111, ty112, ty113, ty114, ty116, ty118, ty120, ty121, ty123, ty124, ty127, ty130, ty131, ty132, ty133, ty134, fun x hx => by cases hx⟩
end Go.Proofs.Ytjnhpklhdikcdaa
