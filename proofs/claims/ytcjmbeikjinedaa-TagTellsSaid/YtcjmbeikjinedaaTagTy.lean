/- The types of the translation, as Sx reads them. Written by gen.py. -/
import Derived.Test.YtcjmbeikjinedaaSxX
import Derived.Test.YtcjmbeikjinedaaProg
import Derived.KernelRfl
namespace Go.Proofs.Ytcjmbeikjinedaa
open Sx

theorem ty1 : TyOK Try.prog 1 ⟨1, 8, .fn, (.nilf)⟩ := ⟨by kernel_rfl, by kernel_rfl, by kernel_rfl, by kernel_rfl, by kernel_rfl⟩
theorem ty2 : TyOK Try.prog 2 ⟨1, 8, .int .i64, (.int .i64 0)⟩ := ⟨by kernel_rfl, by kernel_rfl, by kernel_rfl, by kernel_rfl, by kernel_rfl⟩
theorem ty3 : TyOK Try.prog 3 ⟨1, 8, .int .i64, (.int .i64 0)⟩ := ⟨by kernel_rfl, by kernel_rfl, by kernel_rfl, by kernel_rfl, by kernel_rfl⟩
theorem ty4 : TyOK Try.prog 4 ⟨1, 1, .bool, (.bool false)⟩ := ⟨by kernel_rfl, by kernel_rfl, by kernel_rfl, by kernel_rfl, by kernel_rfl⟩
theorem ty5 : TyOK Try.prog 5 ⟨1, 1, .int .u8, (.int .u8 0)⟩ := ⟨by kernel_rfl, by kernel_rfl, by kernel_rfl, by kernel_rfl, by kernel_rfl⟩
theorem ty6 : TyOK Try.prog 6 ⟨1, 1, .int .u8, (.int .u8 0)⟩ := ⟨by kernel_rfl, by kernel_rfl, by kernel_rfl, by kernel_rfl, by kernel_rfl⟩
theorem ty7 : TyOK Try.prog 7 ⟨4, 24, .strct [(0, 2), (1, 3), (2, 4), (3, 6)], .agg [.int .i64 0, .int .i64 0, .bool false, .int .u8 0]⟩ := ⟨by kernel_rfl, by kernel_rfl, by kernel_rfl, by kernel_rfl, by kernel_rfl⟩
theorem ty8 : TyOK Try.prog 8 ⟨4, 24, .strct [(0, 2), (1, 3), (2, 4), (3, 6)], .agg [.int .i64 0, .int .i64 0, .bool false, .int .u8 0]⟩ := ⟨by kernel_rfl, by kernel_rfl, by kernel_rfl, by kernel_rfl, by kernel_rfl⟩
theorem ty9 : TyOK Try.prog 9 ⟨1, 16, .str, (.str ByteArray.empty)⟩ := ⟨by kernel_rfl, by kernel_rfl, by kernel_rfl, by kernel_rfl, by kernel_rfl⟩
theorem ty10 : TyOK Try.prog 10 ⟨1, 16, .str, (.str ByteArray.empty)⟩ := ⟨by kernel_rfl, by kernel_rfl, by kernel_rfl, by kernel_rfl, by kernel_rfl⟩
theorem ty11 : TyOK Try.prog 11 ⟨1, 16, .str, (.str ByteArray.empty)⟩ := ⟨by kernel_rfl, by kernel_rfl, by kernel_rfl, by kernel_rfl, by kernel_rfl⟩
theorem ty12 : TyOK Try.prog 12 ⟨1, 8, .int .u64, (.int .u64 0)⟩ := ⟨by kernel_rfl, by kernel_rfl, by kernel_rfl, by kernel_rfl, by kernel_rfl⟩
theorem ty13 : TyOK Try.prog 13 ⟨2, 24, .strct [(0, 9), (1, 12)], .agg [.str ByteArray.empty, .int .u64 0]⟩ := ⟨by kernel_rfl, by kernel_rfl, by kernel_rfl, by kernel_rfl, by kernel_rfl⟩
theorem ty14 : TyOK Try.prog 14 ⟨2, 24, .strct [(0, 9), (1, 12)], .agg [.str ByteArray.empty, .int .u64 0]⟩ := ⟨by kernel_rfl, by kernel_rfl, by kernel_rfl, by kernel_rfl, by kernel_rfl⟩
theorem ty15 : TyOK Try.prog 15 ⟨1, 8, .ptr 57, (.nilp)⟩ := ⟨by kernel_rfl, by kernel_rfl, by kernel_rfl, by kernel_rfl, by kernel_rfl⟩
theorem ty16 : TyOK Try.prog 16 ⟨1, 8, .ptr 60, (.nilp)⟩ := ⟨by kernel_rfl, by kernel_rfl, by kernel_rfl, by kernel_rfl, by kernel_rfl⟩
theorem ty17 : TyOK Try.prog 17 ⟨1, 8, .ptr 70, (.nilp)⟩ := ⟨by kernel_rfl, by kernel_rfl, by kernel_rfl, by kernel_rfl, by kernel_rfl⟩
theorem ty18 : TyOK Try.prog 18 ⟨1, 8, .strct [(0, 17)], .agg [.nilp]⟩ := ⟨by kernel_rfl, by kernel_rfl, by kernel_rfl, by kernel_rfl, by kernel_rfl⟩
theorem ty19 : TyOK Try.prog 19 ⟨1, 8, .strct [(0, 17)], .agg [.nilp]⟩ := ⟨by kernel_rfl, by kernel_rfl, by kernel_rfl, by kernel_rfl, by kernel_rfl⟩
theorem ty20 : TyOK Try.prog 20 ⟨1, 16, .ifc, (.nili)⟩ := ⟨by kernel_rfl, by kernel_rfl, by kernel_rfl, by kernel_rfl, by kernel_rfl⟩
theorem ty21 : TyOK Try.prog 21 ⟨1, 4, .int .i32, (.int .i32 0)⟩ := ⟨by kernel_rfl, by kernel_rfl, by kernel_rfl, by kernel_rfl, by kernel_rfl⟩
theorem ty22 : TyOK Try.prog 22 ⟨32, 32, .arr 32 5, .agg [.ints .u8 32 (List.replicate 32 0)]⟩ := ⟨by kernel_rfl, by kernel_rfl, by kernel_rfl, by kernel_rfl, by kernel_rfl⟩
theorem ty23 : TyOK Try.prog 23 ⟨1, 24, .slice 5, (.nils)⟩ := ⟨by kernel_rfl, by kernel_rfl, by kernel_rfl, by kernel_rfl, by kernel_rfl⟩
theorem ty24 : TyOK Try.prog 24 ⟨1, 8, .fn, (.nilf)⟩ := ⟨by kernel_rfl, by kernel_rfl, by kernel_rfl, by kernel_rfl, by kernel_rfl⟩
theorem ty25 : TyOK Try.prog 25 ⟨16, 16, .arr 16 5, .agg [.ints .u8 16 (List.replicate 16 0)]⟩ := ⟨by kernel_rfl, by kernel_rfl, by kernel_rfl, by kernel_rfl, by kernel_rfl⟩
theorem ty26 : TyOK Try.prog 26 ⟨1, 8, .fn, (.nilf)⟩ := ⟨by kernel_rfl, by kernel_rfl, by kernel_rfl, by kernel_rfl, by kernel_rfl⟩
theorem ty27 : TyOK Try.prog 27 ⟨1, 8, .fn, (.nilf)⟩ := ⟨by kernel_rfl, by kernel_rfl, by kernel_rfl, by kernel_rfl, by kernel_rfl⟩
theorem ty28 : TyOK Try.prog 28 ⟨1, 2, .int .u16, (.int .u16 0)⟩ := ⟨by kernel_rfl, by kernel_rfl, by kernel_rfl, by kernel_rfl, by kernel_rfl⟩
theorem ty29 : TyOK Try.prog 29 ⟨4, 56, .strct [(0, 23), (1, 23), (2, 28), (3, 5)], .agg [.nils, .nils, .int .u16 0, .int .u8 0]⟩ := ⟨by kernel_rfl, by kernel_rfl, by kernel_rfl, by kernel_rfl, by kernel_rfl⟩
theorem ty30 : TyOK Try.prog 30 ⟨4, 56, .strct [(0, 23), (1, 23), (2, 28), (3, 5)], .agg [.nils, .nils, .int .u16 0, .int .u8 0]⟩ := ⟨by kernel_rfl, by kernel_rfl, by kernel_rfl, by kernel_rfl, by kernel_rfl⟩
theorem ty31 : TyOK Try.prog 31 ⟨1, 8, .fn, (.nilf)⟩ := ⟨by kernel_rfl, by kernel_rfl, by kernel_rfl, by kernel_rfl, by kernel_rfl⟩
theorem ty32 : TyOK Try.prog 32 ⟨1, 8, .fn, (.nilf)⟩ := ⟨by kernel_rfl, by kernel_rfl, by kernel_rfl, by kernel_rfl, by kernel_rfl⟩
theorem ty33 : TyOK Try.prog 33 ⟨2, 48, .arr 2 23, .agg [.nils, .nils]⟩ := ⟨by kernel_rfl, by kernel_rfl, by kernel_rfl, by kernel_rfl, by kernel_rfl⟩
theorem ty34 : TyOK Try.prog 34 ⟨1, 8, .fn, (.nilf)⟩ := ⟨by kernel_rfl, by kernel_rfl, by kernel_rfl, by kernel_rfl, by kernel_rfl⟩
theorem ty35 : TyOK Try.prog 35 ⟨1, 8, .fn, (.nilf)⟩ := ⟨by kernel_rfl, by kernel_rfl, by kernel_rfl, by kernel_rfl, by kernel_rfl⟩
theorem ty36 : TyOK Try.prog 36 ⟨1, 8, .fn, (.nilf)⟩ := ⟨by kernel_rfl, by kernel_rfl, by kernel_rfl, by kernel_rfl, by kernel_rfl⟩
theorem ty37 : TyOK Try.prog 37 ⟨1, 8, .fn, (.nilf)⟩ := ⟨by kernel_rfl, by kernel_rfl, by kernel_rfl, by kernel_rfl, by kernel_rfl⟩
theorem ty38 : TyOK Try.prog 38 ⟨1, 8, .fn, (.nilf)⟩ := ⟨by kernel_rfl, by kernel_rfl, by kernel_rfl, by kernel_rfl, by kernel_rfl⟩
theorem ty39 : TyOK Try.prog 39 ⟨1, 8, .int .u64, (.int .u64 0)⟩ := ⟨by kernel_rfl, by kernel_rfl, by kernel_rfl, by kernel_rfl, by kernel_rfl⟩
theorem ty40 : TyOK Try.prog 40 ⟨1, 8, .fn, (.nilf)⟩ := ⟨by kernel_rfl, by kernel_rfl, by kernel_rfl, by kernel_rfl, by kernel_rfl⟩
theorem ty41 : TyOK Try.prog 41 ⟨2, 16, .arr 2 39, .agg [.ints .u64 2 (List.replicate 2 0)]⟩ := ⟨by kernel_rfl, by kernel_rfl, by kernel_rfl, by kernel_rfl, by kernel_rfl⟩
theorem ty42 : TyOK Try.prog 42 ⟨3, 24, .arr 3 39, .agg [.ints .u64 3 (List.replicate 3 0)]⟩ := ⟨by kernel_rfl, by kernel_rfl, by kernel_rfl, by kernel_rfl, by kernel_rfl⟩
theorem ty43 : TyOK Try.prog 43 ⟨3, 24, .arr 3 39, .agg [.ints .u64 3 (List.replicate 3 0)]⟩ := ⟨by kernel_rfl, by kernel_rfl, by kernel_rfl, by kernel_rfl, by kernel_rfl⟩
theorem ty44 : TyOK Try.prog 44 ⟨24, 24, .arr 24 5, .agg [.ints .u8 24 (List.replicate 24 0)]⟩ := ⟨by kernel_rfl, by kernel_rfl, by kernel_rfl, by kernel_rfl, by kernel_rfl⟩
theorem ty45 : TyOK Try.prog 45 ⟨1, 8, .fn, (.nilf)⟩ := ⟨by kernel_rfl, by kernel_rfl, by kernel_rfl, by kernel_rfl, by kernel_rfl⟩
theorem ty46 : TyOK Try.prog 46 ⟨1, 8, .fn, (.nilf)⟩ := ⟨by kernel_rfl, by kernel_rfl, by kernel_rfl, by kernel_rfl, by kernel_rfl⟩
theorem ty47 : TyOK Try.prog 47 ⟨1, 8, .int .u64, (.int .u64 0)⟩ := ⟨by kernel_rfl, by kernel_rfl, by kernel_rfl, by kernel_rfl, by kernel_rfl⟩
theorem ty48 : TyOK Try.prog 48 ⟨1, 24, .slice 3, (.nils)⟩ := ⟨by kernel_rfl, by kernel_rfl, by kernel_rfl, by kernel_rfl, by kernel_rfl⟩
theorem ty49 : TyOK Try.prog 49 ⟨1, 8, .fn, (.nilf)⟩ := ⟨by kernel_rfl, by kernel_rfl, by kernel_rfl, by kernel_rfl, by kernel_rfl⟩
theorem ty50 : TyOK Try.prog 50 ⟨1, 8, .fn, (.nilf)⟩ := ⟨by kernel_rfl, by kernel_rfl, by kernel_rfl, by kernel_rfl, by kernel_rfl⟩
theorem ty52 : TyOK Try.prog 52 ⟨1, 8, .fn, (.nilf)⟩ := ⟨by kernel_rfl, by kernel_rfl, by kernel_rfl, by kernel_rfl, by kernel_rfl⟩
theorem ty53 : TyOK Try.prog 53 ⟨5, 40, .arr 5 39, .agg [.ints .u64 5 (List.replicate 5 0)]⟩ := ⟨by kernel_rfl, by kernel_rfl, by kernel_rfl, by kernel_rfl, by kernel_rfl⟩
theorem ty54 : TyOK Try.prog 54 ⟨1, 8, .fn, (.nilf)⟩ := ⟨by kernel_rfl, by kernel_rfl, by kernel_rfl, by kernel_rfl, by kernel_rfl⟩
theorem ty55 : TyOK Try.prog 55 ⟨1, 8, .fn, (.nilf)⟩ := ⟨by kernel_rfl, by kernel_rfl, by kernel_rfl, by kernel_rfl, by kernel_rfl⟩
theorem ty56 : TyOK Try.prog 56 ⟨4, 40, .strct [(0, 17), (1, 17), (2, 17), (3, 9)], .agg [.nilp, .nilp, .nilp, .str ByteArray.empty]⟩ := ⟨by kernel_rfl, by kernel_rfl, by kernel_rfl, by kernel_rfl, by kernel_rfl⟩
theorem ty57 : TyOK Try.prog 57 ⟨4, 40, .strct [(0, 17), (1, 17), (2, 17), (3, 9)], .agg [.nilp, .nilp, .nilp, .str ByteArray.empty]⟩ := ⟨by kernel_rfl, by kernel_rfl, by kernel_rfl, by kernel_rfl, by kernel_rfl⟩
theorem ty58 : TyOK Try.prog 58 ⟨0, 0, .arr 0 16, .agg []⟩ := ⟨by kernel_rfl, by kernel_rfl, by kernel_rfl, by kernel_rfl, by kernel_rfl⟩
theorem ty59 : TyOK Try.prog 59 ⟨0, 0, .strct [(0, 58)], .agg []⟩ := ⟨by kernel_rfl, by kernel_rfl, by kernel_rfl, by kernel_rfl, by kernel_rfl⟩
theorem ty60 : TyOK Try.prog 60 ⟨0, 0, .strct [(0, 58)], .agg []⟩ := ⟨by kernel_rfl, by kernel_rfl, by kernel_rfl, by kernel_rfl, by kernel_rfl⟩
theorem ty61 : TyOK Try.prog 61 ⟨1, 8, .fn, (.nilf)⟩ := ⟨by kernel_rfl, by kernel_rfl, by kernel_rfl, by kernel_rfl, by kernel_rfl⟩
theorem ty62 : TyOK Try.prog 62 ⟨1, 4, .int .u32, (.int .u32 0)⟩ := ⟨by kernel_rfl, by kernel_rfl, by kernel_rfl, by kernel_rfl, by kernel_rfl⟩
theorem ty63 : TyOK Try.prog 63 ⟨1, 1, .int .u8, (.int .u8 0)⟩ := ⟨by kernel_rfl, by kernel_rfl, by kernel_rfl, by kernel_rfl, by kernel_rfl⟩
theorem ty64 : TyOK Try.prog 64 ⟨1, 1, .int .u8, (.int .u8 0)⟩ := ⟨by kernel_rfl, by kernel_rfl, by kernel_rfl, by kernel_rfl, by kernel_rfl⟩
theorem ty65 : TyOK Try.prog 65 ⟨1, 8, .fn, (.nilf)⟩ := ⟨by kernel_rfl, by kernel_rfl, by kernel_rfl, by kernel_rfl, by kernel_rfl⟩
theorem ty66 : TyOK Try.prog 66 ⟨1, 8, .ptr 5, (.nilp)⟩ := ⟨by kernel_rfl, by kernel_rfl, by kernel_rfl, by kernel_rfl, by kernel_rfl⟩
theorem ty67 : TyOK Try.prog 67 ⟨1, 4, .int .i32, (.int .i32 0)⟩ := ⟨by kernel_rfl, by kernel_rfl, by kernel_rfl, by kernel_rfl, by kernel_rfl⟩
theorem ty68 : TyOK Try.prog 68 ⟨1, 4, .int .i32, (.int .i32 0)⟩ := ⟨by kernel_rfl, by kernel_rfl, by kernel_rfl, by kernel_rfl, by kernel_rfl⟩
theorem ty69 : TyOK Try.prog 69 ⟨11, 48, .strct [(0, 12), (1, 12), (2, 62), (3, 63), (4, 5), (5, 5), (6, 64), (7, 65), (8, 66), (9, 67), (10, 68)], .agg [.int .u64 0, .int .u64 0, .int .u32 0, .int .u8 0, .int .u8 0, .int .u8 0, .int .u8 0, .nilf, .nilp, .int .i32 0, .int .i32 0]⟩ := ⟨by kernel_rfl, by kernel_rfl, by kernel_rfl, by kernel_rfl, by kernel_rfl⟩
theorem ty70 : TyOK Try.prog 70 ⟨11, 48, .strct [(0, 12), (1, 12), (2, 62), (3, 63), (4, 5), (5, 5), (6, 64), (7, 65), (8, 66), (9, 67), (10, 68)], .agg [.int .u64 0, .int .u64 0, .int .u32 0, .int .u8 0, .int .u8 0, .int .u8 0, .int .u8 0, .nilf, .nilp, .int .i32 0, .int .i32 0]⟩ := ⟨by kernel_rfl, by kernel_rfl, by kernel_rfl, by kernel_rfl, by kernel_rfl⟩

def tbl : List (Nat × TI) := [
  (1, ⟨1, 8, .fn, (.nilf)⟩),
  (2, ⟨1, 8, .int .i64, (.int .i64 0)⟩),
  (3, ⟨1, 8, .int .i64, (.int .i64 0)⟩),
  (4, ⟨1, 1, .bool, (.bool false)⟩),
  (5, ⟨1, 1, .int .u8, (.int .u8 0)⟩),
  (6, ⟨1, 1, .int .u8, (.int .u8 0)⟩),
  (7, ⟨4, 24, .strct [(0, 2), (1, 3), (2, 4), (3, 6)], .agg [.int .i64 0, .int .i64 0, .bool false, .int .u8 0]⟩),
  (8, ⟨4, 24, .strct [(0, 2), (1, 3), (2, 4), (3, 6)], .agg [.int .i64 0, .int .i64 0, .bool false, .int .u8 0]⟩),
  (9, ⟨1, 16, .str, (.str ByteArray.empty)⟩),
  (10, ⟨1, 16, .str, (.str ByteArray.empty)⟩),
  (11, ⟨1, 16, .str, (.str ByteArray.empty)⟩),
  (12, ⟨1, 8, .int .u64, (.int .u64 0)⟩),
  (13, ⟨2, 24, .strct [(0, 9), (1, 12)], .agg [.str ByteArray.empty, .int .u64 0]⟩),
  (14, ⟨2, 24, .strct [(0, 9), (1, 12)], .agg [.str ByteArray.empty, .int .u64 0]⟩),
  (15, ⟨1, 8, .ptr 57, (.nilp)⟩),
  (16, ⟨1, 8, .ptr 60, (.nilp)⟩),
  (17, ⟨1, 8, .ptr 70, (.nilp)⟩),
  (18, ⟨1, 8, .strct [(0, 17)], .agg [.nilp]⟩),
  (19, ⟨1, 8, .strct [(0, 17)], .agg [.nilp]⟩),
  (20, ⟨1, 16, .ifc, (.nili)⟩),
  (21, ⟨1, 4, .int .i32, (.int .i32 0)⟩),
  (22, ⟨32, 32, .arr 32 5, .agg [.ints .u8 32 (List.replicate 32 0)]⟩),
  (23, ⟨1, 24, .slice 5, (.nils)⟩),
  (24, ⟨1, 8, .fn, (.nilf)⟩),
  (25, ⟨16, 16, .arr 16 5, .agg [.ints .u8 16 (List.replicate 16 0)]⟩),
  (26, ⟨1, 8, .fn, (.nilf)⟩),
  (27, ⟨1, 8, .fn, (.nilf)⟩),
  (28, ⟨1, 2, .int .u16, (.int .u16 0)⟩),
  (29, ⟨4, 56, .strct [(0, 23), (1, 23), (2, 28), (3, 5)], .agg [.nils, .nils, .int .u16 0, .int .u8 0]⟩),
  (30, ⟨4, 56, .strct [(0, 23), (1, 23), (2, 28), (3, 5)], .agg [.nils, .nils, .int .u16 0, .int .u8 0]⟩),
  (31, ⟨1, 8, .fn, (.nilf)⟩),
  (32, ⟨1, 8, .fn, (.nilf)⟩),
  (33, ⟨2, 48, .arr 2 23, .agg [.nils, .nils]⟩),
  (34, ⟨1, 8, .fn, (.nilf)⟩),
  (35, ⟨1, 8, .fn, (.nilf)⟩),
  (36, ⟨1, 8, .fn, (.nilf)⟩),
  (37, ⟨1, 8, .fn, (.nilf)⟩),
  (38, ⟨1, 8, .fn, (.nilf)⟩),
  (39, ⟨1, 8, .int .u64, (.int .u64 0)⟩),
  (40, ⟨1, 8, .fn, (.nilf)⟩),
  (41, ⟨2, 16, .arr 2 39, .agg [.ints .u64 2 (List.replicate 2 0)]⟩),
  (42, ⟨3, 24, .arr 3 39, .agg [.ints .u64 3 (List.replicate 3 0)]⟩),
  (43, ⟨3, 24, .arr 3 39, .agg [.ints .u64 3 (List.replicate 3 0)]⟩),
  (44, ⟨24, 24, .arr 24 5, .agg [.ints .u8 24 (List.replicate 24 0)]⟩),
  (45, ⟨1, 8, .fn, (.nilf)⟩),
  (46, ⟨1, 8, .fn, (.nilf)⟩),
  (47, ⟨1, 8, .int .u64, (.int .u64 0)⟩),
  (48, ⟨1, 24, .slice 3, (.nils)⟩),
  (49, ⟨1, 8, .fn, (.nilf)⟩),
  (50, ⟨1, 8, .fn, (.nilf)⟩),
  (52, ⟨1, 8, .fn, (.nilf)⟩),
  (53, ⟨5, 40, .arr 5 39, .agg [.ints .u64 5 (List.replicate 5 0)]⟩),
  (54, ⟨1, 8, .fn, (.nilf)⟩),
  (55, ⟨1, 8, .fn, (.nilf)⟩),
  (56, ⟨4, 40, .strct [(0, 17), (1, 17), (2, 17), (3, 9)], .agg [.nilp, .nilp, .nilp, .str ByteArray.empty]⟩),
  (57, ⟨4, 40, .strct [(0, 17), (1, 17), (2, 17), (3, 9)], .agg [.nilp, .nilp, .nilp, .str ByteArray.empty]⟩),
  (58, ⟨0, 0, .arr 0 16, .agg []⟩),
  (59, ⟨0, 0, .strct [(0, 58)], .agg []⟩),
  (60, ⟨0, 0, .strct [(0, 58)], .agg []⟩),
  (61, ⟨1, 8, .fn, (.nilf)⟩),
  (62, ⟨1, 4, .int .u32, (.int .u32 0)⟩),
  (63, ⟨1, 1, .int .u8, (.int .u8 0)⟩),
  (64, ⟨1, 1, .int .u8, (.int .u8 0)⟩),
  (65, ⟨1, 8, .fn, (.nilf)⟩),
  (66, ⟨1, 8, .ptr 5, (.nilp)⟩),
  (67, ⟨1, 4, .int .i32, (.int .i32 0)⟩),
  (68, ⟨1, 4, .int .i32, (.int .i32 0)⟩),
  (69, ⟨11, 48, .strct [(0, 12), (1, 12), (2, 62), (3, 63), (4, 5), (5, 5), (6, 64), (7, 65), (8, 66), (9, 67), (10, 68)], .agg [.int .u64 0, .int .u64 0, .int .u32 0, .int .u8 0, .int .u8 0, .int .u8 0, .int .u8 0, .nilf, .nilp, .int .i32 0, .int .i32 0]⟩),
  (70, ⟨11, 48, .strct [(0, 12), (1, 12), (2, 62), (3, 63), (4, 5), (5, 5), (6, 64), (7, 65), (8, 66), (9, 67), (10, 68)], .agg [.int .u64 0, .int .u64 0, .int .u32 0, .int .u8 0, .int .u8 0, .int .u8 0, .int .u8 0, .nilf, .nilp, .int .i32 0, .int .i32 0]⟩)]
def tt (T : Nat) : Option TI := lk tbl T
theorem tt_1 : tt 1 = some ⟨1, 8, .fn, (.nilf)⟩ := rfl
theorem tt_2 : tt 2 = some ⟨1, 8, .int .i64, (.int .i64 0)⟩ := rfl
theorem tt_3 : tt 3 = some ⟨1, 8, .int .i64, (.int .i64 0)⟩ := rfl
theorem tt_4 : tt 4 = some ⟨1, 1, .bool, (.bool false)⟩ := rfl
theorem tt_5 : tt 5 = some ⟨1, 1, .int .u8, (.int .u8 0)⟩ := rfl
theorem tt_6 : tt 6 = some ⟨1, 1, .int .u8, (.int .u8 0)⟩ := rfl
theorem tt_7 : tt 7 = some ⟨4, 24, .strct [(0, 2), (1, 3), (2, 4), (3, 6)], .agg [.int .i64 0, .int .i64 0, .bool false, .int .u8 0]⟩ := rfl
theorem tt_8 : tt 8 = some ⟨4, 24, .strct [(0, 2), (1, 3), (2, 4), (3, 6)], .agg [.int .i64 0, .int .i64 0, .bool false, .int .u8 0]⟩ := rfl
theorem tt_9 : tt 9 = some ⟨1, 16, .str, (.str ByteArray.empty)⟩ := rfl
theorem tt_10 : tt 10 = some ⟨1, 16, .str, (.str ByteArray.empty)⟩ := rfl
theorem tt_11 : tt 11 = some ⟨1, 16, .str, (.str ByteArray.empty)⟩ := rfl
theorem tt_12 : tt 12 = some ⟨1, 8, .int .u64, (.int .u64 0)⟩ := rfl
theorem tt_13 : tt 13 = some ⟨2, 24, .strct [(0, 9), (1, 12)], .agg [.str ByteArray.empty, .int .u64 0]⟩ := rfl
theorem tt_14 : tt 14 = some ⟨2, 24, .strct [(0, 9), (1, 12)], .agg [.str ByteArray.empty, .int .u64 0]⟩ := rfl
theorem tt_15 : tt 15 = some ⟨1, 8, .ptr 57, (.nilp)⟩ := rfl
theorem tt_16 : tt 16 = some ⟨1, 8, .ptr 60, (.nilp)⟩ := rfl
theorem tt_17 : tt 17 = some ⟨1, 8, .ptr 70, (.nilp)⟩ := rfl
theorem tt_18 : tt 18 = some ⟨1, 8, .strct [(0, 17)], .agg [.nilp]⟩ := rfl
theorem tt_19 : tt 19 = some ⟨1, 8, .strct [(0, 17)], .agg [.nilp]⟩ := rfl
theorem tt_20 : tt 20 = some ⟨1, 16, .ifc, (.nili)⟩ := rfl
theorem tt_21 : tt 21 = some ⟨1, 4, .int .i32, (.int .i32 0)⟩ := rfl
theorem tt_22 : tt 22 = some ⟨32, 32, .arr 32 5, .agg [.ints .u8 32 (List.replicate 32 0)]⟩ := rfl
theorem tt_23 : tt 23 = some ⟨1, 24, .slice 5, (.nils)⟩ := rfl
theorem tt_24 : tt 24 = some ⟨1, 8, .fn, (.nilf)⟩ := rfl
theorem tt_25 : tt 25 = some ⟨16, 16, .arr 16 5, .agg [.ints .u8 16 (List.replicate 16 0)]⟩ := rfl
theorem tt_26 : tt 26 = some ⟨1, 8, .fn, (.nilf)⟩ := rfl
theorem tt_27 : tt 27 = some ⟨1, 8, .fn, (.nilf)⟩ := rfl
theorem tt_28 : tt 28 = some ⟨1, 2, .int .u16, (.int .u16 0)⟩ := rfl
theorem tt_29 : tt 29 = some ⟨4, 56, .strct [(0, 23), (1, 23), (2, 28), (3, 5)], .agg [.nils, .nils, .int .u16 0, .int .u8 0]⟩ := rfl
theorem tt_30 : tt 30 = some ⟨4, 56, .strct [(0, 23), (1, 23), (2, 28), (3, 5)], .agg [.nils, .nils, .int .u16 0, .int .u8 0]⟩ := rfl
theorem tt_31 : tt 31 = some ⟨1, 8, .fn, (.nilf)⟩ := rfl
theorem tt_32 : tt 32 = some ⟨1, 8, .fn, (.nilf)⟩ := rfl
theorem tt_33 : tt 33 = some ⟨2, 48, .arr 2 23, .agg [.nils, .nils]⟩ := rfl
theorem tt_34 : tt 34 = some ⟨1, 8, .fn, (.nilf)⟩ := rfl
theorem tt_35 : tt 35 = some ⟨1, 8, .fn, (.nilf)⟩ := rfl
theorem tt_36 : tt 36 = some ⟨1, 8, .fn, (.nilf)⟩ := rfl
theorem tt_37 : tt 37 = some ⟨1, 8, .fn, (.nilf)⟩ := rfl
theorem tt_38 : tt 38 = some ⟨1, 8, .fn, (.nilf)⟩ := rfl
theorem tt_39 : tt 39 = some ⟨1, 8, .int .u64, (.int .u64 0)⟩ := rfl
theorem tt_40 : tt 40 = some ⟨1, 8, .fn, (.nilf)⟩ := rfl
theorem tt_41 : tt 41 = some ⟨2, 16, .arr 2 39, .agg [.ints .u64 2 (List.replicate 2 0)]⟩ := rfl
theorem tt_42 : tt 42 = some ⟨3, 24, .arr 3 39, .agg [.ints .u64 3 (List.replicate 3 0)]⟩ := rfl
theorem tt_43 : tt 43 = some ⟨3, 24, .arr 3 39, .agg [.ints .u64 3 (List.replicate 3 0)]⟩ := rfl
theorem tt_44 : tt 44 = some ⟨24, 24, .arr 24 5, .agg [.ints .u8 24 (List.replicate 24 0)]⟩ := rfl
theorem tt_45 : tt 45 = some ⟨1, 8, .fn, (.nilf)⟩ := rfl
theorem tt_46 : tt 46 = some ⟨1, 8, .fn, (.nilf)⟩ := rfl
theorem tt_47 : tt 47 = some ⟨1, 8, .int .u64, (.int .u64 0)⟩ := rfl
theorem tt_48 : tt 48 = some ⟨1, 24, .slice 3, (.nils)⟩ := rfl
theorem tt_49 : tt 49 = some ⟨1, 8, .fn, (.nilf)⟩ := rfl
theorem tt_50 : tt 50 = some ⟨1, 8, .fn, (.nilf)⟩ := rfl
theorem tt_52 : tt 52 = some ⟨1, 8, .fn, (.nilf)⟩ := rfl
theorem tt_53 : tt 53 = some ⟨5, 40, .arr 5 39, .agg [.ints .u64 5 (List.replicate 5 0)]⟩ := rfl
theorem tt_54 : tt 54 = some ⟨1, 8, .fn, (.nilf)⟩ := rfl
theorem tt_55 : tt 55 = some ⟨1, 8, .fn, (.nilf)⟩ := rfl
theorem tt_56 : tt 56 = some ⟨4, 40, .strct [(0, 17), (1, 17), (2, 17), (3, 9)], .agg [.nilp, .nilp, .nilp, .str ByteArray.empty]⟩ := rfl
theorem tt_57 : tt 57 = some ⟨4, 40, .strct [(0, 17), (1, 17), (2, 17), (3, 9)], .agg [.nilp, .nilp, .nilp, .str ByteArray.empty]⟩ := rfl
theorem tt_58 : tt 58 = some ⟨0, 0, .arr 0 16, .agg []⟩ := rfl
theorem tt_59 : tt 59 = some ⟨0, 0, .strct [(0, 58)], .agg []⟩ := rfl
theorem tt_60 : tt 60 = some ⟨0, 0, .strct [(0, 58)], .agg []⟩ := rfl
theorem tt_61 : tt 61 = some ⟨1, 8, .fn, (.nilf)⟩ := rfl
theorem tt_62 : tt 62 = some ⟨1, 4, .int .u32, (.int .u32 0)⟩ := rfl
theorem tt_63 : tt 63 = some ⟨1, 1, .int .u8, (.int .u8 0)⟩ := rfl
theorem tt_64 : tt 64 = some ⟨1, 1, .int .u8, (.int .u8 0)⟩ := rfl
theorem tt_65 : tt 65 = some ⟨1, 8, .fn, (.nilf)⟩ := rfl
theorem tt_66 : tt 66 = some ⟨1, 8, .ptr 5, (.nilp)⟩ := rfl
theorem tt_67 : tt 67 = some ⟨1, 4, .int .i32, (.int .i32 0)⟩ := rfl
theorem tt_68 : tt 68 = some ⟨1, 4, .int .i32, (.int .i32 0)⟩ := rfl
theorem tt_69 : tt 69 = some ⟨11, 48, .strct [(0, 12), (1, 12), (2, 62), (3, 63), (4, 5), (5, 5), (6, 64), (7, 65), (8, 66), (9, 67), (10, 68)], .agg [.int .u64 0, .int .u64 0, .int .u32 0, .int .u8 0, .int .u8 0, .int .u8 0, .int .u8 0, .nilf, .nilp, .int .i32 0, .int .i32 0]⟩ := rfl
theorem tt_70 : tt 70 = some ⟨11, 48, .strct [(0, 12), (1, 12), (2, 62), (3, 63), (4, 5), (5, 5), (6, 64), (7, 65), (8, 66), (9, 67), (10, 68)], .agg [.int .u64 0, .int .u64 0, .int .u32 0, .int .u8 0, .int .u8 0, .int .u8 0, .int .u8 0, .nilf, .nilp, .int .i32 0, .int .i32 0]⟩ := rfl
theorem tt_ok : TT Try.prog tt := by
  refine TT.of_list ?_
  simp only [tbl, List.forall_mem_cons]
  exact ⟨ty1, ty2, ty3, ty4, ty5, ty6, ty7, ty8, ty9, ty10, ty11, ty12, ty13, ty14, ty15, ty16, ty17, ty18, ty19, ty20, ty21, ty22, ty23, ty24, ty25, ty26, ty27, ty28, ty29, ty30, ty31, ty32, ty33, ty34, ty35, ty36, ty37, ty38, ty39, ty40, ty41, ty42, ty43, ty44, ty45, ty46, ty47, ty48, ty49, ty50, ty52, ty53, ty54, ty55, ty56, ty57, ty58, ty59, ty60, ty61, ty62, ty63, ty64, ty65, ty66, ty67, ty68, ty69, ty70, fun x hx => by cases hx⟩
end Go.Proofs.Ytcjmbeikjinedaa
