/- The types of the translation, as Sx reads them. Written by gen.py. -/
import Derived.Test.YtcjmbeikjinedaaDoorSxX
import Derived.Test.YtcjmbeikjinedaaDoorProg
import Derived.KernelRfl
namespace Go.Proofs.YtcjmbeikjinedaaDoor
open Sx

theorem ty1 : TyOK Tryd.prog 1 ⟨1, 8, .fn, (.nilf)⟩ := ⟨by kernel_rfl, by kernel_rfl, by kernel_rfl, by kernel_rfl, by kernel_rfl⟩
theorem ty2 : TyOK Tryd.prog 2 ⟨1, 8, .int .i64, (.int .i64 0)⟩ := ⟨by kernel_rfl, by kernel_rfl, by kernel_rfl, by kernel_rfl, by kernel_rfl⟩
theorem ty3 : TyOK Tryd.prog 3 ⟨1, 8, .int .i64, (.int .i64 0)⟩ := ⟨by kernel_rfl, by kernel_rfl, by kernel_rfl, by kernel_rfl, by kernel_rfl⟩
theorem ty4 : TyOK Tryd.prog 4 ⟨1, 1, .bool, (.bool false)⟩ := ⟨by kernel_rfl, by kernel_rfl, by kernel_rfl, by kernel_rfl, by kernel_rfl⟩
theorem ty5 : TyOK Tryd.prog 5 ⟨1, 1, .int .u8, (.int .u8 0)⟩ := ⟨by kernel_rfl, by kernel_rfl, by kernel_rfl, by kernel_rfl, by kernel_rfl⟩
theorem ty6 : TyOK Tryd.prog 6 ⟨1, 1, .int .u8, (.int .u8 0)⟩ := ⟨by kernel_rfl, by kernel_rfl, by kernel_rfl, by kernel_rfl, by kernel_rfl⟩
theorem ty7 : TyOK Tryd.prog 7 ⟨4, 24, .strct [(0, 2), (1, 3), (2, 4), (3, 6)], .agg [.int .i64 0, .int .i64 0, .bool false, .int .u8 0]⟩ := ⟨by kernel_rfl, by kernel_rfl, by kernel_rfl, by kernel_rfl, by kernel_rfl⟩
theorem ty8 : TyOK Tryd.prog 8 ⟨4, 24, .strct [(0, 2), (1, 3), (2, 4), (3, 6)], .agg [.int .i64 0, .int .i64 0, .bool false, .int .u8 0]⟩ := ⟨by kernel_rfl, by kernel_rfl, by kernel_rfl, by kernel_rfl, by kernel_rfl⟩
theorem ty9 : TyOK Tryd.prog 9 ⟨1, 16, .str, (.str ByteArray.empty)⟩ := ⟨by kernel_rfl, by kernel_rfl, by kernel_rfl, by kernel_rfl, by kernel_rfl⟩
theorem ty10 : TyOK Tryd.prog 10 ⟨1, 16, .str, (.str ByteArray.empty)⟩ := ⟨by kernel_rfl, by kernel_rfl, by kernel_rfl, by kernel_rfl, by kernel_rfl⟩
theorem ty11 : TyOK Tryd.prog 11 ⟨1, 16, .str, (.str ByteArray.empty)⟩ := ⟨by kernel_rfl, by kernel_rfl, by kernel_rfl, by kernel_rfl, by kernel_rfl⟩
theorem ty12 : TyOK Tryd.prog 12 ⟨1, 8, .int .u64, (.int .u64 0)⟩ := ⟨by kernel_rfl, by kernel_rfl, by kernel_rfl, by kernel_rfl, by kernel_rfl⟩
theorem ty13 : TyOK Tryd.prog 13 ⟨2, 24, .strct [(0, 9), (1, 12)], .agg [.str ByteArray.empty, .int .u64 0]⟩ := ⟨by kernel_rfl, by kernel_rfl, by kernel_rfl, by kernel_rfl, by kernel_rfl⟩
theorem ty14 : TyOK Tryd.prog 14 ⟨2, 24, .strct [(0, 9), (1, 12)], .agg [.str ByteArray.empty, .int .u64 0]⟩ := ⟨by kernel_rfl, by kernel_rfl, by kernel_rfl, by kernel_rfl, by kernel_rfl⟩
theorem ty15 : TyOK Tryd.prog 15 ⟨1, 8, .ptr 56, (.nilp)⟩ := ⟨by kernel_rfl, by kernel_rfl, by kernel_rfl, by kernel_rfl, by kernel_rfl⟩
theorem ty16 : TyOK Tryd.prog 16 ⟨1, 8, .ptr 59, (.nilp)⟩ := ⟨by kernel_rfl, by kernel_rfl, by kernel_rfl, by kernel_rfl, by kernel_rfl⟩
theorem ty17 : TyOK Tryd.prog 17 ⟨1, 8, .ptr 68, (.nilp)⟩ := ⟨by kernel_rfl, by kernel_rfl, by kernel_rfl, by kernel_rfl, by kernel_rfl⟩
theorem ty18 : TyOK Tryd.prog 18 ⟨1, 8, .strct [(0, 17)], .agg [.nilp]⟩ := ⟨by kernel_rfl, by kernel_rfl, by kernel_rfl, by kernel_rfl, by kernel_rfl⟩
theorem ty19 : TyOK Tryd.prog 19 ⟨1, 8, .strct [(0, 17)], .agg [.nilp]⟩ := ⟨by kernel_rfl, by kernel_rfl, by kernel_rfl, by kernel_rfl, by kernel_rfl⟩
theorem ty20 : TyOK Tryd.prog 20 ⟨1, 16, .ifc, (.nili)⟩ := ⟨by kernel_rfl, by kernel_rfl, by kernel_rfl, by kernel_rfl, by kernel_rfl⟩
theorem ty21 : TyOK Tryd.prog 21 ⟨1, 4, .int .i32, (.int .i32 0)⟩ := ⟨by kernel_rfl, by kernel_rfl, by kernel_rfl, by kernel_rfl, by kernel_rfl⟩
theorem ty22 : TyOK Tryd.prog 22 ⟨32, 32, .arr 32 5, .agg [.ints .u8 32 (List.replicate 32 0)]⟩ := ⟨by kernel_rfl, by kernel_rfl, by kernel_rfl, by kernel_rfl, by kernel_rfl⟩
theorem ty23 : TyOK Tryd.prog 23 ⟨12, 12, .arr 12 5, .agg [.ints .u8 12 (List.replicate 12 0)]⟩ := ⟨by kernel_rfl, by kernel_rfl, by kernel_rfl, by kernel_rfl, by kernel_rfl⟩
theorem ty24 : TyOK Tryd.prog 24 ⟨1, 4, .int .u32, (.int .u32 0)⟩ := ⟨by kernel_rfl, by kernel_rfl, by kernel_rfl, by kernel_rfl, by kernel_rfl⟩
theorem ty25 : TyOK Tryd.prog 25 ⟨45, 48, .strct [(0, 22), (32, 23), (44, 24)], .agg [.ints .u8 32 (List.replicate 32 0), .ints .u8 12 (List.replicate 12 0), .int .u32 0]⟩ := ⟨by kernel_rfl, by kernel_rfl, by kernel_rfl, by kernel_rfl, by kernel_rfl⟩
theorem ty26 : TyOK Tryd.prog 26 ⟨45, 48, .strct [(0, 22), (32, 23), (44, 24)], .agg [.ints .u8 32 (List.replicate 32 0), .ints .u8 12 (List.replicate 12 0), .int .u32 0]⟩ := ⟨by kernel_rfl, by kernel_rfl, by kernel_rfl, by kernel_rfl, by kernel_rfl⟩
theorem ty27 : TyOK Tryd.prog 27 ⟨1, 24, .slice 5, (.nils)⟩ := ⟨by kernel_rfl, by kernel_rfl, by kernel_rfl, by kernel_rfl, by kernel_rfl⟩
theorem ty28 : TyOK Tryd.prog 28 ⟨1, 8, .fn, (.nilf)⟩ := ⟨by kernel_rfl, by kernel_rfl, by kernel_rfl, by kernel_rfl, by kernel_rfl⟩
theorem ty29 : TyOK Tryd.prog 29 ⟨1, 8, .int .i64, (.int .i64 0)⟩ := ⟨by kernel_rfl, by kernel_rfl, by kernel_rfl, by kernel_rfl, by kernel_rfl⟩
theorem ty31 : TyOK Tryd.prog 31 ⟨1, 8, .fn, (.nilf)⟩ := ⟨by kernel_rfl, by kernel_rfl, by kernel_rfl, by kernel_rfl, by kernel_rfl⟩
theorem ty33 : TyOK Tryd.prog 33 ⟨1, 8, .fn, (.nilf)⟩ := ⟨by kernel_rfl, by kernel_rfl, by kernel_rfl, by kernel_rfl, by kernel_rfl⟩
theorem ty34 : TyOK Tryd.prog 34 ⟨64, 64, .arr 64 5, .agg [.ints .u8 64 (List.replicate 64 0)]⟩ := ⟨by kernel_rfl, by kernel_rfl, by kernel_rfl, by kernel_rfl, by kernel_rfl⟩
theorem ty35 : TyOK Tryd.prog 35 ⟨1, 8, .fn, (.nilf)⟩ := ⟨by kernel_rfl, by kernel_rfl, by kernel_rfl, by kernel_rfl, by kernel_rfl⟩
theorem ty36 : TyOK Tryd.prog 36 ⟨1, 8, .fn, (.nilf)⟩ := ⟨by kernel_rfl, by kernel_rfl, by kernel_rfl, by kernel_rfl, by kernel_rfl⟩
theorem ty37 : TyOK Tryd.prog 37 ⟨1, 8, .int .u64, (.int .u64 0)⟩ := ⟨by kernel_rfl, by kernel_rfl, by kernel_rfl, by kernel_rfl, by kernel_rfl⟩
theorem ty38 : TyOK Tryd.prog 38 ⟨1, 8, .fn, (.nilf)⟩ := ⟨by kernel_rfl, by kernel_rfl, by kernel_rfl, by kernel_rfl, by kernel_rfl⟩
theorem ty39 : TyOK Tryd.prog 39 ⟨1, 8, .fn, (.nilf)⟩ := ⟨by kernel_rfl, by kernel_rfl, by kernel_rfl, by kernel_rfl, by kernel_rfl⟩
theorem ty40 : TyOK Tryd.prog 40 ⟨1, 2, .int .u16, (.int .u16 0)⟩ := ⟨by kernel_rfl, by kernel_rfl, by kernel_rfl, by kernel_rfl, by kernel_rfl⟩
theorem ty41 : TyOK Tryd.prog 41 ⟨1, 8, .fn, (.nilf)⟩ := ⟨by kernel_rfl, by kernel_rfl, by kernel_rfl, by kernel_rfl, by kernel_rfl⟩
theorem ty42 : TyOK Tryd.prog 42 ⟨16, 64, .arr 16 24, .agg [.ints .u32 16 (List.replicate 16 0)]⟩ := ⟨by kernel_rfl, by kernel_rfl, by kernel_rfl, by kernel_rfl, by kernel_rfl⟩
theorem ty43 : TyOK Tryd.prog 43 ⟨16, 64, .arr 16 24, .agg [.ints .u32 16 (List.replicate 16 0)]⟩ := ⟨by kernel_rfl, by kernel_rfl, by kernel_rfl, by kernel_rfl, by kernel_rfl⟩
theorem ty44 : TyOK Tryd.prog 44 ⟨1, 24, .slice 24, (.nils)⟩ := ⟨by kernel_rfl, by kernel_rfl, by kernel_rfl, by kernel_rfl, by kernel_rfl⟩
theorem ty45 : TyOK Tryd.prog 45 ⟨4, 16, .arr 4 24, .agg [.ints .u32 4 (List.replicate 4 0)]⟩ := ⟨by kernel_rfl, by kernel_rfl, by kernel_rfl, by kernel_rfl, by kernel_rfl⟩
theorem ty46 : TyOK Tryd.prog 46 ⟨1, 8, .fn, (.nilf)⟩ := ⟨by kernel_rfl, by kernel_rfl, by kernel_rfl, by kernel_rfl, by kernel_rfl⟩
theorem ty47 : TyOK Tryd.prog 47 ⟨1, 8, .fn, (.nilf)⟩ := ⟨by kernel_rfl, by kernel_rfl, by kernel_rfl, by kernel_rfl, by kernel_rfl⟩
theorem ty48 : TyOK Tryd.prog 48 ⟨1, 8, .fn, (.nilf)⟩ := ⟨by kernel_rfl, by kernel_rfl, by kernel_rfl, by kernel_rfl, by kernel_rfl⟩
theorem ty49 : TyOK Tryd.prog 49 ⟨1, 8, .int .u64, (.int .u64 0)⟩ := ⟨by kernel_rfl, by kernel_rfl, by kernel_rfl, by kernel_rfl, by kernel_rfl⟩
theorem ty50 : TyOK Tryd.prog 50 ⟨1, 8, .ptr 43, (.nilp)⟩ := ⟨by kernel_rfl, by kernel_rfl, by kernel_rfl, by kernel_rfl, by kernel_rfl⟩
theorem ty51 : TyOK Tryd.prog 51 ⟨2, 16, .arr 2 3, .agg [.ints .i64 2 (List.replicate 2 0)]⟩ := ⟨by kernel_rfl, by kernel_rfl, by kernel_rfl, by kernel_rfl, by kernel_rfl⟩
theorem ty52 : TyOK Tryd.prog 52 ⟨4, 32, .arr 2 51, .agg [.ints .i64 2 (List.replicate 2 0), .ints .i64 2 (List.replicate 2 0)]⟩ := ⟨by kernel_rfl, by kernel_rfl, by kernel_rfl, by kernel_rfl, by kernel_rfl⟩
theorem ty53 : TyOK Tryd.prog 53 ⟨1, 8, .fn, (.nilf)⟩ := ⟨by kernel_rfl, by kernel_rfl, by kernel_rfl, by kernel_rfl, by kernel_rfl⟩
theorem ty54 : TyOK Tryd.prog 54 ⟨1, 8, .fn, (.nilf)⟩ := ⟨by kernel_rfl, by kernel_rfl, by kernel_rfl, by kernel_rfl, by kernel_rfl⟩
theorem ty55 : TyOK Tryd.prog 55 ⟨4, 40, .strct [(0, 17), (1, 17), (2, 17), (3, 9)], .agg [.nilp, .nilp, .nilp, .str ByteArray.empty]⟩ := ⟨by kernel_rfl, by kernel_rfl, by kernel_rfl, by kernel_rfl, by kernel_rfl⟩
theorem ty56 : TyOK Tryd.prog 56 ⟨4, 40, .strct [(0, 17), (1, 17), (2, 17), (3, 9)], .agg [.nilp, .nilp, .nilp, .str ByteArray.empty]⟩ := ⟨by kernel_rfl, by kernel_rfl, by kernel_rfl, by kernel_rfl, by kernel_rfl⟩
theorem ty57 : TyOK Tryd.prog 57 ⟨0, 0, .arr 0 16, .agg []⟩ := ⟨by kernel_rfl, by kernel_rfl, by kernel_rfl, by kernel_rfl, by kernel_rfl⟩
theorem ty58 : TyOK Tryd.prog 58 ⟨0, 0, .strct [(0, 57)], .agg []⟩ := ⟨by kernel_rfl, by kernel_rfl, by kernel_rfl, by kernel_rfl, by kernel_rfl⟩
theorem ty59 : TyOK Tryd.prog 59 ⟨0, 0, .strct [(0, 57)], .agg []⟩ := ⟨by kernel_rfl, by kernel_rfl, by kernel_rfl, by kernel_rfl, by kernel_rfl⟩
theorem ty60 : TyOK Tryd.prog 60 ⟨1, 8, .fn, (.nilf)⟩ := ⟨by kernel_rfl, by kernel_rfl, by kernel_rfl, by kernel_rfl, by kernel_rfl⟩
theorem ty61 : TyOK Tryd.prog 61 ⟨1, 1, .int .u8, (.int .u8 0)⟩ := ⟨by kernel_rfl, by kernel_rfl, by kernel_rfl, by kernel_rfl, by kernel_rfl⟩
theorem ty62 : TyOK Tryd.prog 62 ⟨1, 1, .int .u8, (.int .u8 0)⟩ := ⟨by kernel_rfl, by kernel_rfl, by kernel_rfl, by kernel_rfl, by kernel_rfl⟩
theorem ty63 : TyOK Tryd.prog 63 ⟨1, 8, .fn, (.nilf)⟩ := ⟨by kernel_rfl, by kernel_rfl, by kernel_rfl, by kernel_rfl, by kernel_rfl⟩
theorem ty64 : TyOK Tryd.prog 64 ⟨1, 8, .ptr 5, (.nilp)⟩ := ⟨by kernel_rfl, by kernel_rfl, by kernel_rfl, by kernel_rfl, by kernel_rfl⟩
theorem ty65 : TyOK Tryd.prog 65 ⟨1, 4, .int .i32, (.int .i32 0)⟩ := ⟨by kernel_rfl, by kernel_rfl, by kernel_rfl, by kernel_rfl, by kernel_rfl⟩
theorem ty66 : TyOK Tryd.prog 66 ⟨1, 4, .int .i32, (.int .i32 0)⟩ := ⟨by kernel_rfl, by kernel_rfl, by kernel_rfl, by kernel_rfl, by kernel_rfl⟩
theorem ty67 : TyOK Tryd.prog 67 ⟨11, 48, .strct [(0, 12), (1, 12), (2, 24), (3, 61), (4, 5), (5, 5), (6, 62), (7, 63), (8, 64), (9, 65), (10, 66)], .agg [.int .u64 0, .int .u64 0, .int .u32 0, .int .u8 0, .int .u8 0, .int .u8 0, .int .u8 0, .nilf, .nilp, .int .i32 0, .int .i32 0]⟩ := ⟨by kernel_rfl, by kernel_rfl, by kernel_rfl, by kernel_rfl, by kernel_rfl⟩
theorem ty68 : TyOK Tryd.prog 68 ⟨11, 48, .strct [(0, 12), (1, 12), (2, 24), (3, 61), (4, 5), (5, 5), (6, 62), (7, 63), (8, 64), (9, 65), (10, 66)], .agg [.int .u64 0, .int .u64 0, .int .u32 0, .int .u8 0, .int .u8 0, .int .u8 0, .int .u8 0, .nilf, .nilp, .int .i32 0, .int .i32 0]⟩ := ⟨by kernel_rfl, by kernel_rfl, by kernel_rfl, by kernel_rfl, by kernel_rfl⟩

def tbl : List (Nat × TI) := [
  (1, ⟨1, 8, .fn, (.nilf)⟩),
  (2, ⟨1, 8, .int .i64, (.int .i64 0)⟩),
  (3, ⟨1, 8, .int .i64, (.int .i64 0)⟩),
  (4, ⟨1, 1, .bool, (.bool false)⟩),
  (5, ⟨1, 1, .int .u8, (.int .u8 0)⟩),
  (6, ⟨1, 1, .int .u8, (.int .u8 0)⟩),
  (7, ⟨4, 24, .strct [(0, 2), (1, 3), (2, 4), (3, 6)], .agg [.int .i64 0, .int .i64 0, .bool false, .int .u8 0]⟩),
  (8, ⟨4, 24, .strct [(0, 2), (1, 3), (2, 4), (3, 6)], .agg [.int .i64 0, .int .i64 0, .bool false, .int .u8 0]⟩),
  (9, ⟨1, 16, .str, (.str ByteArray.empty)⟩),
  (10, ⟨1, 16, .str, (.str ByteArray.empty)⟩),
  (11, ⟨1, 16, .str, (.str ByteArray.empty)⟩),
  (12, ⟨1, 8, .int .u64, (.int .u64 0)⟩),
  (13, ⟨2, 24, .strct [(0, 9), (1, 12)], .agg [.str ByteArray.empty, .int .u64 0]⟩),
  (14, ⟨2, 24, .strct [(0, 9), (1, 12)], .agg [.str ByteArray.empty, .int .u64 0]⟩),
  (15, ⟨1, 8, .ptr 56, (.nilp)⟩),
  (16, ⟨1, 8, .ptr 59, (.nilp)⟩),
  (17, ⟨1, 8, .ptr 68, (.nilp)⟩),
  (18, ⟨1, 8, .strct [(0, 17)], .agg [.nilp]⟩),
  (19, ⟨1, 8, .strct [(0, 17)], .agg [.nilp]⟩),
  (20, ⟨1, 16, .ifc, (.nili)⟩),
  (21, ⟨1, 4, .int .i32, (.int .i32 0)⟩),
  (22, ⟨32, 32, .arr 32 5, .agg [.ints .u8 32 (List.replicate 32 0)]⟩),
  (23, ⟨12, 12, .arr 12 5, .agg [.ints .u8 12 (List.replicate 12 0)]⟩),
  (24, ⟨1, 4, .int .u32, (.int .u32 0)⟩),
  (25, ⟨45, 48, .strct [(0, 22), (32, 23), (44, 24)], .agg [.ints .u8 32 (List.replicate 32 0), .ints .u8 12 (List.replicate 12 0), .int .u32 0]⟩),
  (26, ⟨45, 48, .strct [(0, 22), (32, 23), (44, 24)], .agg [.ints .u8 32 (List.replicate 32 0), .ints .u8 12 (List.replicate 12 0), .int .u32 0]⟩),
  (27, ⟨1, 24, .slice 5, (.nils)⟩),
  (28, ⟨1, 8, .fn, (.nilf)⟩),
  (29, ⟨1, 8, .int .i64, (.int .i64 0)⟩),
  (31, ⟨1, 8, .fn, (.nilf)⟩),
  (33, ⟨1, 8, .fn, (.nilf)⟩),
  (34, ⟨64, 64, .arr 64 5, .agg [.ints .u8 64 (List.replicate 64 0)]⟩),
  (35, ⟨1, 8, .fn, (.nilf)⟩),
  (36, ⟨1, 8, .fn, (.nilf)⟩),
  (37, ⟨1, 8, .int .u64, (.int .u64 0)⟩),
  (38, ⟨1, 8, .fn, (.nilf)⟩),
  (39, ⟨1, 8, .fn, (.nilf)⟩),
  (40, ⟨1, 2, .int .u16, (.int .u16 0)⟩),
  (41, ⟨1, 8, .fn, (.nilf)⟩),
  (42, ⟨16, 64, .arr 16 24, .agg [.ints .u32 16 (List.replicate 16 0)]⟩),
  (43, ⟨16, 64, .arr 16 24, .agg [.ints .u32 16 (List.replicate 16 0)]⟩),
  (44, ⟨1, 24, .slice 24, (.nils)⟩),
  (45, ⟨4, 16, .arr 4 24, .agg [.ints .u32 4 (List.replicate 4 0)]⟩),
  (46, ⟨1, 8, .fn, (.nilf)⟩),
  (47, ⟨1, 8, .fn, (.nilf)⟩),
  (48, ⟨1, 8, .fn, (.nilf)⟩),
  (49, ⟨1, 8, .int .u64, (.int .u64 0)⟩),
  (50, ⟨1, 8, .ptr 43, (.nilp)⟩),
  (51, ⟨2, 16, .arr 2 3, .agg [.ints .i64 2 (List.replicate 2 0)]⟩),
  (52, ⟨4, 32, .arr 2 51, .agg [.ints .i64 2 (List.replicate 2 0), .ints .i64 2 (List.replicate 2 0)]⟩),
  (53, ⟨1, 8, .fn, (.nilf)⟩),
  (54, ⟨1, 8, .fn, (.nilf)⟩),
  (55, ⟨4, 40, .strct [(0, 17), (1, 17), (2, 17), (3, 9)], .agg [.nilp, .nilp, .nilp, .str ByteArray.empty]⟩),
  (56, ⟨4, 40, .strct [(0, 17), (1, 17), (2, 17), (3, 9)], .agg [.nilp, .nilp, .nilp, .str ByteArray.empty]⟩),
  (57, ⟨0, 0, .arr 0 16, .agg []⟩),
  (58, ⟨0, 0, .strct [(0, 57)], .agg []⟩),
  (59, ⟨0, 0, .strct [(0, 57)], .agg []⟩),
  (60, ⟨1, 8, .fn, (.nilf)⟩),
  (61, ⟨1, 1, .int .u8, (.int .u8 0)⟩),
  (62, ⟨1, 1, .int .u8, (.int .u8 0)⟩),
  (63, ⟨1, 8, .fn, (.nilf)⟩),
  (64, ⟨1, 8, .ptr 5, (.nilp)⟩),
  (65, ⟨1, 4, .int .i32, (.int .i32 0)⟩),
  (66, ⟨1, 4, .int .i32, (.int .i32 0)⟩),
  (67, ⟨11, 48, .strct [(0, 12), (1, 12), (2, 24), (3, 61), (4, 5), (5, 5), (6, 62), (7, 63), (8, 64), (9, 65), (10, 66)], .agg [.int .u64 0, .int .u64 0, .int .u32 0, .int .u8 0, .int .u8 0, .int .u8 0, .int .u8 0, .nilf, .nilp, .int .i32 0, .int .i32 0]⟩),
  (68, ⟨11, 48, .strct [(0, 12), (1, 12), (2, 24), (3, 61), (4, 5), (5, 5), (6, 62), (7, 63), (8, 64), (9, 65), (10, 66)], .agg [.int .u64 0, .int .u64 0, .int .u32 0, .int .u8 0, .int .u8 0, .int .u8 0, .int .u8 0, .nilf, .nilp, .int .i32 0, .int .i32 0]⟩)]
def tt (T : Nat) : Option TI := lk tbl T
theorem tt_1 : tt 1 = some ⟨1, 8, .fn, (.nilf)⟩ := rfl
theorem tt_2 : tt 2 = some ⟨1, 8, .int .i64, (.int .i64 0)⟩ := rfl
theorem tt_3 : tt 3 = some ⟨1, 8, .int .i64, (.int .i64 0)⟩ := rfl
theorem tt_4 : tt 4 = some ⟨1, 1, .bool, (.bool false)⟩ := rfl
theorem tt_5 : tt 5 = some ⟨1, 1, .int .u8, (.int .u8 0)⟩ := rfl
theorem tt_6 : tt 6 = some ⟨1, 1, .int .u8, (.int .u8 0)⟩ := rfl
theorem tt_7 : tt 7 = some ⟨4, 24, .strct [(0, 2), (1, 3), (2, 4), (3, 6)], .agg [.int .i64 0, .int .i64 0, .bool false, .int .u8 0]⟩ := rfl
theorem tt_8 : tt 8 = some ⟨4, 24, .strct [(0, 2), (1, 3), (2, 4), (3, 6)], .agg [.int .i64 0, .int .i64 0, .bool false, .int .u8 0]⟩ := rfl
theorem tt_9 : tt 9 = some ⟨1, 16, .str, (.str ByteArray.empty)⟩ := rfl
theorem tt_10 : tt 10 = some ⟨1, 16, .str, (.str ByteArray.empty)⟩ := rfl
theorem tt_11 : tt 11 = some ⟨1, 16, .str, (.str ByteArray.empty)⟩ := rfl
theorem tt_12 : tt 12 = some ⟨1, 8, .int .u64, (.int .u64 0)⟩ := rfl
theorem tt_13 : tt 13 = some ⟨2, 24, .strct [(0, 9), (1, 12)], .agg [.str ByteArray.empty, .int .u64 0]⟩ := rfl
theorem tt_14 : tt 14 = some ⟨2, 24, .strct [(0, 9), (1, 12)], .agg [.str ByteArray.empty, .int .u64 0]⟩ := rfl
theorem tt_15 : tt 15 = some ⟨1, 8, .ptr 56, (.nilp)⟩ := rfl
theorem tt_16 : tt 16 = some ⟨1, 8, .ptr 59, (.nilp)⟩ := rfl
theorem tt_17 : tt 17 = some ⟨1, 8, .ptr 68, (.nilp)⟩ := rfl
theorem tt_18 : tt 18 = some ⟨1, 8, .strct [(0, 17)], .agg [.nilp]⟩ := rfl
theorem tt_19 : tt 19 = some ⟨1, 8, .strct [(0, 17)], .agg [.nilp]⟩ := rfl
theorem tt_20 : tt 20 = some ⟨1, 16, .ifc, (.nili)⟩ := rfl
theorem tt_21 : tt 21 = some ⟨1, 4, .int .i32, (.int .i32 0)⟩ := rfl
theorem tt_22 : tt 22 = some ⟨32, 32, .arr 32 5, .agg [.ints .u8 32 (List.replicate 32 0)]⟩ := rfl
theorem tt_23 : tt 23 = some ⟨12, 12, .arr 12 5, .agg [.ints .u8 12 (List.replicate 12 0)]⟩ := rfl
theorem tt_24 : tt 24 = some ⟨1, 4, .int .u32, (.int .u32 0)⟩ := rfl
theorem tt_25 : tt 25 = some ⟨45, 48, .strct [(0, 22), (32, 23), (44, 24)], .agg [.ints .u8 32 (List.replicate 32 0), .ints .u8 12 (List.replicate 12 0), .int .u32 0]⟩ := rfl
theorem tt_26 : tt 26 = some ⟨45, 48, .strct [(0, 22), (32, 23), (44, 24)], .agg [.ints .u8 32 (List.replicate 32 0), .ints .u8 12 (List.replicate 12 0), .int .u32 0]⟩ := rfl
theorem tt_27 : tt 27 = some ⟨1, 24, .slice 5, (.nils)⟩ := rfl
theorem tt_28 : tt 28 = some ⟨1, 8, .fn, (.nilf)⟩ := rfl
theorem tt_29 : tt 29 = some ⟨1, 8, .int .i64, (.int .i64 0)⟩ := rfl
theorem tt_31 : tt 31 = some ⟨1, 8, .fn, (.nilf)⟩ := rfl
theorem tt_33 : tt 33 = some ⟨1, 8, .fn, (.nilf)⟩ := rfl
theorem tt_34 : tt 34 = some ⟨64, 64, .arr 64 5, .agg [.ints .u8 64 (List.replicate 64 0)]⟩ := rfl
theorem tt_35 : tt 35 = some ⟨1, 8, .fn, (.nilf)⟩ := rfl
theorem tt_36 : tt 36 = some ⟨1, 8, .fn, (.nilf)⟩ := rfl
theorem tt_37 : tt 37 = some ⟨1, 8, .int .u64, (.int .u64 0)⟩ := rfl
theorem tt_38 : tt 38 = some ⟨1, 8, .fn, (.nilf)⟩ := rfl
theorem tt_39 : tt 39 = some ⟨1, 8, .fn, (.nilf)⟩ := rfl
theorem tt_40 : tt 40 = some ⟨1, 2, .int .u16, (.int .u16 0)⟩ := rfl
theorem tt_41 : tt 41 = some ⟨1, 8, .fn, (.nilf)⟩ := rfl
theorem tt_42 : tt 42 = some ⟨16, 64, .arr 16 24, .agg [.ints .u32 16 (List.replicate 16 0)]⟩ := rfl
theorem tt_43 : tt 43 = some ⟨16, 64, .arr 16 24, .agg [.ints .u32 16 (List.replicate 16 0)]⟩ := rfl
theorem tt_44 : tt 44 = some ⟨1, 24, .slice 24, (.nils)⟩ := rfl
theorem tt_45 : tt 45 = some ⟨4, 16, .arr 4 24, .agg [.ints .u32 4 (List.replicate 4 0)]⟩ := rfl
theorem tt_46 : tt 46 = some ⟨1, 8, .fn, (.nilf)⟩ := rfl
theorem tt_47 : tt 47 = some ⟨1, 8, .fn, (.nilf)⟩ := rfl
theorem tt_48 : tt 48 = some ⟨1, 8, .fn, (.nilf)⟩ := rfl
theorem tt_49 : tt 49 = some ⟨1, 8, .int .u64, (.int .u64 0)⟩ := rfl
theorem tt_50 : tt 50 = some ⟨1, 8, .ptr 43, (.nilp)⟩ := rfl
theorem tt_51 : tt 51 = some ⟨2, 16, .arr 2 3, .agg [.ints .i64 2 (List.replicate 2 0)]⟩ := rfl
theorem tt_52 : tt 52 = some ⟨4, 32, .arr 2 51, .agg [.ints .i64 2 (List.replicate 2 0), .ints .i64 2 (List.replicate 2 0)]⟩ := rfl
theorem tt_53 : tt 53 = some ⟨1, 8, .fn, (.nilf)⟩ := rfl
theorem tt_54 : tt 54 = some ⟨1, 8, .fn, (.nilf)⟩ := rfl
theorem tt_55 : tt 55 = some ⟨4, 40, .strct [(0, 17), (1, 17), (2, 17), (3, 9)], .agg [.nilp, .nilp, .nilp, .str ByteArray.empty]⟩ := rfl
theorem tt_56 : tt 56 = some ⟨4, 40, .strct [(0, 17), (1, 17), (2, 17), (3, 9)], .agg [.nilp, .nilp, .nilp, .str ByteArray.empty]⟩ := rfl
theorem tt_57 : tt 57 = some ⟨0, 0, .arr 0 16, .agg []⟩ := rfl
theorem tt_58 : tt 58 = some ⟨0, 0, .strct [(0, 57)], .agg []⟩ := rfl
theorem tt_59 : tt 59 = some ⟨0, 0, .strct [(0, 57)], .agg []⟩ := rfl
theorem tt_60 : tt 60 = some ⟨1, 8, .fn, (.nilf)⟩ := rfl
theorem tt_61 : tt 61 = some ⟨1, 1, .int .u8, (.int .u8 0)⟩ := rfl
theorem tt_62 : tt 62 = some ⟨1, 1, .int .u8, (.int .u8 0)⟩ := rfl
theorem tt_63 : tt 63 = some ⟨1, 8, .fn, (.nilf)⟩ := rfl
theorem tt_64 : tt 64 = some ⟨1, 8, .ptr 5, (.nilp)⟩ := rfl
theorem tt_65 : tt 65 = some ⟨1, 4, .int .i32, (.int .i32 0)⟩ := rfl
theorem tt_66 : tt 66 = some ⟨1, 4, .int .i32, (.int .i32 0)⟩ := rfl
theorem tt_67 : tt 67 = some ⟨11, 48, .strct [(0, 12), (1, 12), (2, 24), (3, 61), (4, 5), (5, 5), (6, 62), (7, 63), (8, 64), (9, 65), (10, 66)], .agg [.int .u64 0, .int .u64 0, .int .u32 0, .int .u8 0, .int .u8 0, .int .u8 0, .int .u8 0, .nilf, .nilp, .int .i32 0, .int .i32 0]⟩ := rfl
theorem tt_68 : tt 68 = some ⟨11, 48, .strct [(0, 12), (1, 12), (2, 24), (3, 61), (4, 5), (5, 5), (6, 62), (7, 63), (8, 64), (9, 65), (10, 66)], .agg [.int .u64 0, .int .u64 0, .int .u32 0, .int .u8 0, .int .u8 0, .int .u8 0, .int .u8 0, .nilf, .nilp, .int .i32 0, .int .i32 0]⟩ := rfl
theorem tt_ok : TT Tryd.prog tt := by
  refine TT.of_list ?_
  simp only [tbl, List.forall_mem_cons]
  exact ⟨ty1, ty2, ty3, ty4, ty5, ty6, ty7, ty8, ty9, ty10, ty11, ty12, ty13, ty14, ty15, ty16, ty17, ty18, ty19, ty20, ty21, ty22, ty23, ty24, ty25, ty26, ty27, ty28, ty29, ty31, ty33, ty34, ty35, ty36, ty37, ty38, ty39, ty40, ty41, ty42, ty43, ty44, ty45, ty46, ty47, ty48, ty49, ty50, ty51, ty52, ty53, ty54, ty55, ty56, ty57, ty58, ty59, ty60, ty61, ty62, ty63, ty64, ty65, ty66, ty67, ty68, fun x hx => by cases hx⟩
end Go.Proofs.YtcjmbeikjinedaaDoor
