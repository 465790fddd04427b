/- The types of the translation, as Sx reads them. Written by gen.py. -/
import Derived.Test.YtageadccfdbmjaaDoorSxW
import Derived.Test.YtageadccfdbmjaaDoorProg
import Derived.KernelRfl
namespace Go.Proofs.YtageadccfdbmjaaDoor
open Sx

theorem ty1 : TyOK Tryd.prog 1 ⟨1, 8, .fn, (.nilf)⟩ := ⟨by kernel_rfl, by kernel_rfl, by kernel_rfl, by kernel_rfl, by kernel_rfl, by kernel_rfl⟩
theorem ty2 : TyOK Tryd.prog 2 ⟨1, 8, .int .i64, (.int .i64 0)⟩ := ⟨by kernel_rfl, by kernel_rfl, by kernel_rfl, by kernel_rfl, by kernel_rfl, by kernel_rfl⟩
theorem ty3 : TyOK Tryd.prog 3 ⟨1, 8, .int .i64, (.int .i64 0)⟩ := ⟨by kernel_rfl, by kernel_rfl, by kernel_rfl, by kernel_rfl, by kernel_rfl, by kernel_rfl⟩
theorem ty4 : TyOK Tryd.prog 4 ⟨1, 1, .bool, (.bool false)⟩ := ⟨by kernel_rfl, by kernel_rfl, by kernel_rfl, by kernel_rfl, by kernel_rfl, by kernel_rfl⟩
theorem ty5 : TyOK Tryd.prog 5 ⟨1, 1, .int .u8, (.int .u8 0)⟩ := ⟨by kernel_rfl, by kernel_rfl, by kernel_rfl, by kernel_rfl, by kernel_rfl, by kernel_rfl⟩
theorem ty6 : TyOK Tryd.prog 6 ⟨1, 1, .int .u8, (.int .u8 0)⟩ := ⟨by kernel_rfl, by kernel_rfl, by kernel_rfl, by kernel_rfl, by kernel_rfl, by kernel_rfl⟩
theorem ty7 : TyOK Tryd.prog 7 ⟨4, 24, .strct [(0, 2), (1, 3), (2, 4), (3, 6)], .agg [.int .i64 0, .int .i64 0, .bool false, .int .u8 0]⟩ := ⟨by kernel_rfl, by kernel_rfl, by kernel_rfl, by kernel_rfl, by kernel_rfl, by kernel_rfl⟩
theorem ty8 : TyOK Tryd.prog 8 ⟨4, 24, .strct [(0, 2), (1, 3), (2, 4), (3, 6)], .agg [.int .i64 0, .int .i64 0, .bool false, .int .u8 0]⟩ := ⟨by kernel_rfl, by kernel_rfl, by kernel_rfl, by kernel_rfl, by kernel_rfl, by kernel_rfl⟩
theorem ty9 : TyOK Tryd.prog 9 ⟨1, 16, .str, (.str ByteArray.empty)⟩ := ⟨by kernel_rfl, by kernel_rfl, by kernel_rfl, by kernel_rfl, by kernel_rfl, by kernel_rfl⟩
theorem ty10 : TyOK Tryd.prog 10 ⟨1, 16, .str, (.str ByteArray.empty)⟩ := ⟨by kernel_rfl, by kernel_rfl, by kernel_rfl, by kernel_rfl, by kernel_rfl, by kernel_rfl⟩
theorem ty11 : TyOK Tryd.prog 11 ⟨1, 16, .str, (.str ByteArray.empty)⟩ := ⟨by kernel_rfl, by kernel_rfl, by kernel_rfl, by kernel_rfl, by kernel_rfl, by kernel_rfl⟩
theorem ty12 : TyOK Tryd.prog 12 ⟨1, 8, .int .u64, (.int .u64 0)⟩ := ⟨by kernel_rfl, by kernel_rfl, by kernel_rfl, by kernel_rfl, by kernel_rfl, by kernel_rfl⟩
theorem ty15 : TyOK Tryd.prog 15 ⟨1, 8, .ptr 86, (.nilp)⟩ := ⟨by kernel_rfl, by kernel_rfl, by kernel_rfl, by kernel_rfl, by kernel_rfl, by kernel_rfl⟩
theorem ty16 : TyOK Tryd.prog 16 ⟨1, 8, .ptr 89, (.nilp)⟩ := ⟨by kernel_rfl, by kernel_rfl, by kernel_rfl, by kernel_rfl, by kernel_rfl, by kernel_rfl⟩
theorem ty17 : TyOK Tryd.prog 17 ⟨1, 8, .ptr 98, (.nilp)⟩ := ⟨by kernel_rfl, by kernel_rfl, by kernel_rfl, by kernel_rfl, by kernel_rfl, by kernel_rfl⟩
theorem ty20 : TyOK Tryd.prog 20 ⟨1, 16, .ifc, (.nili)⟩ := ⟨by kernel_rfl, by kernel_rfl, by kernel_rfl, by kernel_rfl, by kernel_rfl, by kernel_rfl⟩
theorem ty21 : TyOK Tryd.prog 21 ⟨1, 4, .int .i32, (.int .i32 0)⟩ := ⟨by kernel_rfl, by kernel_rfl, by kernel_rfl, by kernel_rfl, by kernel_rfl, by kernel_rfl⟩
theorem ty22 : TyOK Tryd.prog 22 ⟨1, 24, .slice 5, (.nils)⟩ := ⟨by kernel_rfl, by kernel_rfl, by kernel_rfl, by kernel_rfl, by kernel_rfl, by kernel_rfl⟩
theorem ty23 : TyOK Tryd.prog 23 ⟨1, 8, .fn, (.nilf)⟩ := ⟨by kernel_rfl, by kernel_rfl, by kernel_rfl, by kernel_rfl, by kernel_rfl, by kernel_rfl⟩
theorem ty24 : TyOK Tryd.prog 24 ⟨32, 32, .arr 32 5, .agg [.ints .u8 32 (List.replicate 32 0)]⟩ := ⟨by kernel_rfl, by kernel_rfl, by kernel_rfl, by kernel_rfl, by kernel_rfl, by kernel_rfl⟩
theorem ty25 : TyOK Tryd.prog 25 ⟨1, 8, .fn, (.nilf)⟩ := ⟨by kernel_rfl, by kernel_rfl, by kernel_rfl, by kernel_rfl, by kernel_rfl, by kernel_rfl⟩
theorem ty26 : TyOK Tryd.prog 26 ⟨1, 4, .int .u32, (.int .u32 0)⟩ := ⟨by kernel_rfl, by kernel_rfl, by kernel_rfl, by kernel_rfl, by kernel_rfl, by kernel_rfl⟩
theorem ty27 : TyOK Tryd.prog 27 ⟨8, 32, .arr 8 26, .agg [.ints .u32 8 (List.replicate 8 0)]⟩ := ⟨by kernel_rfl, by kernel_rfl, by kernel_rfl, by kernel_rfl, by kernel_rfl, by kernel_rfl⟩
theorem ty28 : TyOK Tryd.prog 28 ⟨1, 8, .int .u64, (.int .u64 0)⟩ := ⟨by kernel_rfl, by kernel_rfl, by kernel_rfl, by kernel_rfl, by kernel_rfl, by kernel_rfl⟩
theorem ty29 : TyOK Tryd.prog 29 ⟨10, 64, .strct [(0, 27), (8, 22), (9, 28)], .agg [.ints .u32 8 (List.replicate 8 0), .nils, .int .u64 0]⟩ := ⟨by kernel_rfl, by kernel_rfl, by kernel_rfl, by kernel_rfl, by kernel_rfl, by kernel_rfl⟩
theorem ty30 : TyOK Tryd.prog 30 ⟨10, 64, .strct [(0, 27), (8, 22), (9, 28)], .agg [.ints .u32 8 (List.replicate 8 0), .nils, .int .u64 0]⟩ := ⟨by kernel_rfl, by kernel_rfl, by kernel_rfl, by kernel_rfl, by kernel_rfl, by kernel_rfl⟩
theorem ty31 : TyOK Tryd.prog 31 ⟨1, 8, .fn, (.nilf)⟩ := ⟨by kernel_rfl, by kernel_rfl, by kernel_rfl, by kernel_rfl, by kernel_rfl, by kernel_rfl⟩
theorem ty32 : TyOK Tryd.prog 32 ⟨1, 8, .fn, (.nilf)⟩ := ⟨by kernel_rfl, by kernel_rfl, by kernel_rfl, by kernel_rfl, by kernel_rfl, by kernel_rfl⟩
theorem ty33 : TyOK Tryd.prog 33 ⟨1, 8, .fn, (.nilf)⟩ := ⟨by kernel_rfl, by kernel_rfl, by kernel_rfl, by kernel_rfl, by kernel_rfl, by kernel_rfl⟩
theorem ty34 : TyOK Tryd.prog 34 ⟨1, 24, .slice 22, (.nils)⟩ := ⟨by kernel_rfl, by kernel_rfl, by kernel_rfl, by kernel_rfl, by kernel_rfl, by kernel_rfl⟩
theorem ty35 : TyOK Tryd.prog 35 ⟨1, 24, .slice 30, (.nils)⟩ := ⟨by kernel_rfl, by kernel_rfl, by kernel_rfl, by kernel_rfl, by kernel_rfl, by kernel_rfl⟩
theorem ty36 : TyOK Tryd.prog 36 ⟨1, 8, .fn, (.nilf)⟩ := ⟨by kernel_rfl, by kernel_rfl, by kernel_rfl, by kernel_rfl, by kernel_rfl, by kernel_rfl⟩
theorem ty37 : TyOK Tryd.prog 37 ⟨1, 8, .fn, (.nilf)⟩ := ⟨by kernel_rfl, by kernel_rfl, by kernel_rfl, by kernel_rfl, by kernel_rfl, by kernel_rfl⟩
theorem ty38 : TyOK Tryd.prog 38 ⟨1, 2, .int .u16, (.int .u16 0)⟩ := ⟨by kernel_rfl, by kernel_rfl, by kernel_rfl, by kernel_rfl, by kernel_rfl, by kernel_rfl⟩
theorem ty39 : TyOK Tryd.prog 39 ⟨1, 8, .fn, (.nilf)⟩ := ⟨by kernel_rfl, by kernel_rfl, by kernel_rfl, by kernel_rfl, by kernel_rfl, by kernel_rfl⟩
theorem ty40 : TyOK Tryd.prog 40 ⟨1, 8, .fn, (.nilf)⟩ := ⟨by kernel_rfl, by kernel_rfl, by kernel_rfl, by kernel_rfl, by kernel_rfl, by kernel_rfl⟩
theorem ty41 : TyOK Tryd.prog 41 ⟨1, 8, .fn, (.nilf)⟩ := ⟨by kernel_rfl, by kernel_rfl, by kernel_rfl, by kernel_rfl, by kernel_rfl, by kernel_rfl⟩
theorem ty42 : TyOK Tryd.prog 42 ⟨1, 8, .int .i64, (.int .i64 0)⟩ := ⟨by kernel_rfl, by kernel_rfl, by kernel_rfl, by kernel_rfl, by kernel_rfl, by kernel_rfl⟩
theorem ty44 : TyOK Tryd.prog 44 ⟨1, 8, .fn, (.nilf)⟩ := ⟨by kernel_rfl, by kernel_rfl, by kernel_rfl, by kernel_rfl, by kernel_rfl, by kernel_rfl⟩
theorem ty46 : TyOK Tryd.prog 46 ⟨1, 8, .fn, (.nilf)⟩ := ⟨by kernel_rfl, by kernel_rfl, by kernel_rfl, by kernel_rfl, by kernel_rfl, by kernel_rfl⟩
theorem ty47 : TyOK Tryd.prog 47 ⟨1, 24, .slice 24, (.nils)⟩ := ⟨by kernel_rfl, by kernel_rfl, by kernel_rfl, by kernel_rfl, by kernel_rfl, by kernel_rfl⟩
theorem ty49 : TyOK Tryd.prog 49 ⟨1, 8, .fn, (.nilf)⟩ := ⟨by kernel_rfl, by kernel_rfl, by kernel_rfl, by kernel_rfl, by kernel_rfl, by kernel_rfl⟩
theorem ty51 : TyOK Tryd.prog 51 ⟨1, 8, .fn, (.nilf)⟩ := ⟨by kernel_rfl, by kernel_rfl, by kernel_rfl, by kernel_rfl, by kernel_rfl, by kernel_rfl⟩
theorem ty52 : TyOK Tryd.prog 52 ⟨1, 8, .fn, (.nilf)⟩ := ⟨by kernel_rfl, by kernel_rfl, by kernel_rfl, by kernel_rfl, by kernel_rfl, by kernel_rfl⟩
theorem ty53 : TyOK Tryd.prog 53 ⟨1, 8, .fn, (.nilf)⟩ := ⟨by kernel_rfl, by kernel_rfl, by kernel_rfl, by kernel_rfl, by kernel_rfl, by kernel_rfl⟩
theorem ty54 : TyOK Tryd.prog 54 ⟨2, 4, .arr 2 38, .agg [.ints .u16 2 (List.replicate 2 0)]⟩ := ⟨by kernel_rfl, by kernel_rfl, by kernel_rfl, by kernel_rfl, by kernel_rfl, by kernel_rfl⟩
theorem ty55 : TyOK Tryd.prog 55 ⟨1, 8, .fn, (.nilf)⟩ := ⟨by kernel_rfl, by kernel_rfl, by kernel_rfl, by kernel_rfl, by kernel_rfl, by kernel_rfl⟩
theorem ty56 : TyOK Tryd.prog 56 ⟨1, 8, .fn, (.nilf)⟩ := ⟨by kernel_rfl, by kernel_rfl, by kernel_rfl, by kernel_rfl, by kernel_rfl, by kernel_rfl⟩
theorem ty57 : TyOK Tryd.prog 57 ⟨1, 8, .fn, (.nilf)⟩ := ⟨by kernel_rfl, by kernel_rfl, by kernel_rfl, by kernel_rfl, by kernel_rfl, by kernel_rfl⟩
theorem ty58 : TyOK Tryd.prog 58 ⟨1, 8, .fn, (.nilf)⟩ := ⟨by kernel_rfl, by kernel_rfl, by kernel_rfl, by kernel_rfl, by kernel_rfl, by kernel_rfl⟩
theorem ty59 : TyOK Tryd.prog 59 ⟨1, 24, .slice 26, (.nils)⟩ := ⟨by kernel_rfl, by kernel_rfl, by kernel_rfl, by kernel_rfl, by kernel_rfl, by kernel_rfl⟩
theorem ty60 : TyOK Tryd.prog 60 ⟨1, 8, .fn, (.nilf)⟩ := ⟨by kernel_rfl, by kernel_rfl, by kernel_rfl, by kernel_rfl, by kernel_rfl, by kernel_rfl⟩
theorem ty61 : TyOK Tryd.prog 61 ⟨1, 8, .fn, (.nilf)⟩ := ⟨by kernel_rfl, by kernel_rfl, by kernel_rfl, by kernel_rfl, by kernel_rfl, by kernel_rfl⟩
theorem ty62 : TyOK Tryd.prog 62 ⟨1, 8, .fn, (.nilf)⟩ := ⟨by kernel_rfl, by kernel_rfl, by kernel_rfl, by kernel_rfl, by kernel_rfl, by kernel_rfl⟩
theorem ty63 : TyOK Tryd.prog 63 ⟨1, 8, .fn, (.nilf)⟩ := ⟨by kernel_rfl, by kernel_rfl, by kernel_rfl, by kernel_rfl, by kernel_rfl, by kernel_rfl⟩
theorem ty64 : TyOK Tryd.prog 64 ⟨1, 8, .fn, (.nilf)⟩ := ⟨by kernel_rfl, by kernel_rfl, by kernel_rfl, by kernel_rfl, by kernel_rfl, by kernel_rfl⟩
theorem ty65 : TyOK Tryd.prog 65 ⟨1, 8, .int .u64, (.int .u64 0)⟩ := ⟨by kernel_rfl, by kernel_rfl, by kernel_rfl, by kernel_rfl, by kernel_rfl, by kernel_rfl⟩
theorem ty66 : TyOK Tryd.prog 66 ⟨1, 8, .fn, (.nilf)⟩ := ⟨by kernel_rfl, by kernel_rfl, by kernel_rfl, by kernel_rfl, by kernel_rfl, by kernel_rfl⟩
theorem ty67 : TyOK Tryd.prog 67 ⟨1, 8, .fn, (.nilf)⟩ := ⟨by kernel_rfl, by kernel_rfl, by kernel_rfl, by kernel_rfl, by kernel_rfl, by kernel_rfl⟩
theorem ty68 : TyOK Tryd.prog 68 ⟨1, 8, .fn, (.nilf)⟩ := ⟨by kernel_rfl, by kernel_rfl, by kernel_rfl, by kernel_rfl, by kernel_rfl, by kernel_rfl⟩
theorem ty69 : TyOK Tryd.prog 69 ⟨1, 8, .fn, (.nilf)⟩ := ⟨by kernel_rfl, by kernel_rfl, by kernel_rfl, by kernel_rfl, by kernel_rfl, by kernel_rfl⟩
theorem ty70 : TyOK Tryd.prog 70 ⟨1, 8, .fn, (.nilf)⟩ := ⟨by kernel_rfl, by kernel_rfl, by kernel_rfl, by kernel_rfl, by kernel_rfl, by kernel_rfl⟩
theorem ty71 : TyOK Tryd.prog 71 ⟨1, 24, .slice 28, (.nils)⟩ := ⟨by kernel_rfl, by kernel_rfl, by kernel_rfl, by kernel_rfl, by kernel_rfl, by kernel_rfl⟩
theorem ty72 : TyOK Tryd.prog 72 ⟨1, 8, .fn, (.nilf)⟩ := ⟨by kernel_rfl, by kernel_rfl, by kernel_rfl, by kernel_rfl, by kernel_rfl, by kernel_rfl⟩
theorem ty73 : TyOK Tryd.prog 73 ⟨1, 8, .fn, (.nilf)⟩ := ⟨by kernel_rfl, by kernel_rfl, by kernel_rfl, by kernel_rfl, by kernel_rfl, by kernel_rfl⟩
theorem ty74 : TyOK Tryd.prog 74 ⟨1, 8, .fn, (.nilf)⟩ := ⟨by kernel_rfl, by kernel_rfl, by kernel_rfl, by kernel_rfl, by kernel_rfl, by kernel_rfl⟩
theorem ty75 : TyOK Tryd.prog 75 ⟨1, 8, .fn, (.nilf)⟩ := ⟨by kernel_rfl, by kernel_rfl, by kernel_rfl, by kernel_rfl, by kernel_rfl, by kernel_rfl⟩
theorem ty76 : TyOK Tryd.prog 76 ⟨1, 8, .fn, (.nilf)⟩ := ⟨by kernel_rfl, by kernel_rfl, by kernel_rfl, by kernel_rfl, by kernel_rfl, by kernel_rfl⟩
theorem ty77 : TyOK Tryd.prog 77 ⟨64, 256, .arr 64 26, .agg [.ints .u32 64 (List.replicate 64 0)]⟩ := ⟨by kernel_rfl, by kernel_rfl, by kernel_rfl, by kernel_rfl, by kernel_rfl, by kernel_rfl⟩
theorem ty78 : TyOK Tryd.prog 78 ⟨1, 8, .fn, (.nilf)⟩ := ⟨by kernel_rfl, by kernel_rfl, by kernel_rfl, by kernel_rfl, by kernel_rfl, by kernel_rfl⟩
theorem ty79 : TyOK Tryd.prog 79 ⟨64, 64, .arr 64 5, .agg [.ints .u8 64 (List.replicate 64 0)]⟩ := ⟨by kernel_rfl, by kernel_rfl, by kernel_rfl, by kernel_rfl, by kernel_rfl, by kernel_rfl⟩
theorem ty80 : TyOK Tryd.prog 80 ⟨1, 8, .fn, (.nilf)⟩ := ⟨by kernel_rfl, by kernel_rfl, by kernel_rfl, by kernel_rfl, by kernel_rfl, by kernel_rfl⟩
theorem ty81 : TyOK Tryd.prog 81 ⟨1, 8, .fn, (.nilf)⟩ := ⟨by kernel_rfl, by kernel_rfl, by kernel_rfl, by kernel_rfl, by kernel_rfl, by kernel_rfl⟩
theorem ty82 : TyOK Tryd.prog 82 ⟨1, 24, .slice 3, (.nils)⟩ := ⟨by kernel_rfl, by kernel_rfl, by kernel_rfl, by kernel_rfl, by kernel_rfl, by kernel_rfl⟩
theorem ty83 : TyOK Tryd.prog 83 ⟨1, 8, .fn, (.nilf)⟩ := ⟨by kernel_rfl, by kernel_rfl, by kernel_rfl, by kernel_rfl, by kernel_rfl, by kernel_rfl⟩
theorem ty84 : TyOK Tryd.prog 84 ⟨1, 8, .fn, (.nilf)⟩ := ⟨by kernel_rfl, by kernel_rfl, by kernel_rfl, by kernel_rfl, by kernel_rfl, by kernel_rfl⟩
theorem ty87 : TyOK Tryd.prog 87 ⟨0, 0, .arr 0 16, .agg []⟩ := ⟨by kernel_rfl, by kernel_rfl, by kernel_rfl, by kernel_rfl, by kernel_rfl, by kernel_rfl⟩
theorem ty90 : TyOK Tryd.prog 90 ⟨1, 8, .fn, (.nilf)⟩ := ⟨by kernel_rfl, by kernel_rfl, by kernel_rfl, by kernel_rfl, by kernel_rfl, by kernel_rfl⟩
theorem ty91 : TyOK Tryd.prog 91 ⟨1, 1, .int .u8, (.int .u8 0)⟩ := ⟨by kernel_rfl, by kernel_rfl, by kernel_rfl, by kernel_rfl, by kernel_rfl, by kernel_rfl⟩
theorem ty92 : TyOK Tryd.prog 92 ⟨1, 1, .int .u8, (.int .u8 0)⟩ := ⟨by kernel_rfl, by kernel_rfl, by kernel_rfl, by kernel_rfl, by kernel_rfl, by kernel_rfl⟩
theorem ty93 : TyOK Tryd.prog 93 ⟨1, 8, .fn, (.nilf)⟩ := ⟨by kernel_rfl, by kernel_rfl, by kernel_rfl, by kernel_rfl, by kernel_rfl, by kernel_rfl⟩
theorem ty94 : TyOK Tryd.prog 94 ⟨1, 8, .ptr 5, (.nilp)⟩ := ⟨by kernel_rfl, by kernel_rfl, by kernel_rfl, by kernel_rfl, by kernel_rfl, by kernel_rfl⟩
theorem ty95 : TyOK Tryd.prog 95 ⟨1, 4, .int .i32, (.int .i32 0)⟩ := ⟨by kernel_rfl, by kernel_rfl, by kernel_rfl, by kernel_rfl, by kernel_rfl, by kernel_rfl⟩
theorem ty96 : TyOK Tryd.prog 96 ⟨1, 4, .int .i32, (.int .i32 0)⟩ := ⟨by kernel_rfl, by kernel_rfl, by kernel_rfl, by kernel_rfl, by kernel_rfl, by kernel_rfl⟩

def tbl : List (Nat × TI) := [  (1, ⟨1, 8, .fn, (.nilf)⟩),
  (2, ⟨1, 8, .int .i64, (.int .i64 0)⟩),
  (3, ⟨1, 8, .int .i64, (.int .i64 0)⟩),
  (4, ⟨1, 1, .bool, (.bool false)⟩),
  (5, ⟨1, 1, .int .u8, (.int .u8 0)⟩),
  (6, ⟨1, 1, .int .u8, (.int .u8 0)⟩),
  (7, ⟨4, 24, .strct [(0, 2), (1, 3), (2, 4), (3, 6)], .agg [.int .i64 0, .int .i64 0, .bool false, .int .u8 0]⟩),
  (8, ⟨4, 24, .strct [(0, 2), (1, 3), (2, 4), (3, 6)], .agg [.int .i64 0, .int .i64 0, .bool false, .int .u8 0]⟩),
  (9, ⟨1, 16, .str, (.str ByteArray.empty)⟩),
  (10, ⟨1, 16, .str, (.str ByteArray.empty)⟩),
  (11, ⟨1, 16, .str, (.str ByteArray.empty)⟩),
  (12, ⟨1, 8, .int .u64, (.int .u64 0)⟩),
  (15, ⟨1, 8, .ptr 86, (.nilp)⟩),
  (16, ⟨1, 8, .ptr 89, (.nilp)⟩),
  (17, ⟨1, 8, .ptr 98, (.nilp)⟩),
  (20, ⟨1, 16, .ifc, (.nili)⟩),
  (21, ⟨1, 4, .int .i32, (.int .i32 0)⟩),
  (22, ⟨1, 24, .slice 5, (.nils)⟩),
  (23, ⟨1, 8, .fn, (.nilf)⟩),
  (24, ⟨32, 32, .arr 32 5, .agg [.ints .u8 32 (List.replicate 32 0)]⟩),
  (25, ⟨1, 8, .fn, (.nilf)⟩),
  (26, ⟨1, 4, .int .u32, (.int .u32 0)⟩),
  (27, ⟨8, 32, .arr 8 26, .agg [.ints .u32 8 (List.replicate 8 0)]⟩),
  (28, ⟨1, 8, .int .u64, (.int .u64 0)⟩),
  (29, ⟨10, 64, .strct [(0, 27), (8, 22), (9, 28)], .agg [.ints .u32 8 (List.replicate 8 0), .nils, .int .u64 0]⟩),
  (30, ⟨10, 64, .strct [(0, 27), (8, 22), (9, 28)], .agg [.ints .u32 8 (List.replicate 8 0), .nils, .int .u64 0]⟩),
  (31, ⟨1, 8, .fn, (.nilf)⟩),
  (32, ⟨1, 8, .fn, (.nilf)⟩),
  (33, ⟨1, 8, .fn, (.nilf)⟩),
  (34, ⟨1, 24, .slice 22, (.nils)⟩),
  (35, ⟨1, 24, .slice 30, (.nils)⟩),
  (36, ⟨1, 8, .fn, (.nilf)⟩),
  (37, ⟨1, 8, .fn, (.nilf)⟩),
  (38, ⟨1, 2, .int .u16, (.int .u16 0)⟩),
  (39, ⟨1, 8, .fn, (.nilf)⟩),
  (40, ⟨1, 8, .fn, (.nilf)⟩),
  (41, ⟨1, 8, .fn, (.nilf)⟩),
  (42, ⟨1, 8, .int .i64, (.int .i64 0)⟩),
  (44, ⟨1, 8, .fn, (.nilf)⟩),
  (46, ⟨1, 8, .fn, (.nilf)⟩),
  (47, ⟨1, 24, .slice 24, (.nils)⟩),
  (49, ⟨1, 8, .fn, (.nilf)⟩),
  (51, ⟨1, 8, .fn, (.nilf)⟩),
  (52, ⟨1, 8, .fn, (.nilf)⟩),
  (53, ⟨1, 8, .fn, (.nilf)⟩),
  (54, ⟨2, 4, .arr 2 38, .agg [.ints .u16 2 (List.replicate 2 0)]⟩),
  (55, ⟨1, 8, .fn, (.nilf)⟩),
  (56, ⟨1, 8, .fn, (.nilf)⟩),
  (57, ⟨1, 8, .fn, (.nilf)⟩),
  (58, ⟨1, 8, .fn, (.nilf)⟩),
  (59, ⟨1, 24, .slice 26, (.nils)⟩),
  (60, ⟨1, 8, .fn, (.nilf)⟩),
  (61, ⟨1, 8, .fn, (.nilf)⟩),
  (62, ⟨1, 8, .fn, (.nilf)⟩),
  (63, ⟨1, 8, .fn, (.nilf)⟩),
  (64, ⟨1, 8, .fn, (.nilf)⟩),
  (65, ⟨1, 8, .int .u64, (.int .u64 0)⟩),
  (66, ⟨1, 8, .fn, (.nilf)⟩),
  (67, ⟨1, 8, .fn, (.nilf)⟩),
  (68, ⟨1, 8, .fn, (.nilf)⟩),
  (69, ⟨1, 8, .fn, (.nilf)⟩),
  (70, ⟨1, 8, .fn, (.nilf)⟩),
  (71, ⟨1, 24, .slice 28, (.nils)⟩),
  (72, ⟨1, 8, .fn, (.nilf)⟩),
  (73, ⟨1, 8, .fn, (.nilf)⟩),
  (74, ⟨1, 8, .fn, (.nilf)⟩),
  (75, ⟨1, 8, .fn, (.nilf)⟩),
  (76, ⟨1, 8, .fn, (.nilf)⟩),
  (77, ⟨64, 256, .arr 64 26, .agg [.ints .u32 64 (List.replicate 64 0)]⟩),
  (78, ⟨1, 8, .fn, (.nilf)⟩),
  (79, ⟨64, 64, .arr 64 5, .agg [.ints .u8 64 (List.replicate 64 0)]⟩),
  (80, ⟨1, 8, .fn, (.nilf)⟩),
  (81, ⟨1, 8, .fn, (.nilf)⟩),
  (82, ⟨1, 24, .slice 3, (.nils)⟩),
  (83, ⟨1, 8, .fn, (.nilf)⟩),
  (84, ⟨1, 8, .fn, (.nilf)⟩),
  (87, ⟨0, 0, .arr 0 16, .agg []⟩),
  (90, ⟨1, 8, .fn, (.nilf)⟩),
  (91, ⟨1, 1, .int .u8, (.int .u8 0)⟩),
  (92, ⟨1, 1, .int .u8, (.int .u8 0)⟩),
  (93, ⟨1, 8, .fn, (.nilf)⟩),
  (94, ⟨1, 8, .ptr 5, (.nilp)⟩),
  (95, ⟨1, 4, .int .i32, (.int .i32 0)⟩),
  (96, ⟨1, 4, .int .i32, (.int .i32 0)⟩)]
def tt (T : Nat) : Option TI := lk tbl T
theorem tt_1 : tt 1 = some ⟨1, 8, .fn, (.nilf)⟩ := rfl
theorem tt_2 : tt 2 = some ⟨1, 8, .int .i64, (.int .i64 0)⟩ := rfl
theorem tt_3 : tt 3 = some ⟨1, 8, .int .i64, (.int .i64 0)⟩ := rfl
theorem tt_4 : tt 4 = some ⟨1, 1, .bool, (.bool false)⟩ := rfl
theorem tt_5 : tt 5 = some ⟨1, 1, .int .u8, (.int .u8 0)⟩ := rfl
theorem tt_6 : tt 6 = some ⟨1, 1, .int .u8, (.int .u8 0)⟩ := rfl
theorem tt_7 : tt 7 = some ⟨4, 24, .strct [(0, 2), (1, 3), (2, 4), (3, 6)], .agg [.int .i64 0, .int .i64 0, .bool false, .int .u8 0]⟩ := rfl
theorem tt_8 : tt 8 = some ⟨4, 24, .strct [(0, 2), (1, 3), (2, 4), (3, 6)], .agg [.int .i64 0, .int .i64 0, .bool false, .int .u8 0]⟩ := rfl
theorem tt_9 : tt 9 = some ⟨1, 16, .str, (.str ByteArray.empty)⟩ := rfl
theorem tt_10 : tt 10 = some ⟨1, 16, .str, (.str ByteArray.empty)⟩ := rfl
theorem tt_11 : tt 11 = some ⟨1, 16, .str, (.str ByteArray.empty)⟩ := rfl
theorem tt_12 : tt 12 = some ⟨1, 8, .int .u64, (.int .u64 0)⟩ := rfl
theorem tt_15 : tt 15 = some ⟨1, 8, .ptr 86, (.nilp)⟩ := rfl
theorem tt_16 : tt 16 = some ⟨1, 8, .ptr 89, (.nilp)⟩ := rfl
theorem tt_17 : tt 17 = some ⟨1, 8, .ptr 98, (.nilp)⟩ := rfl
theorem tt_20 : tt 20 = some ⟨1, 16, .ifc, (.nili)⟩ := rfl
theorem tt_21 : tt 21 = some ⟨1, 4, .int .i32, (.int .i32 0)⟩ := rfl
theorem tt_22 : tt 22 = some ⟨1, 24, .slice 5, (.nils)⟩ := rfl
theorem tt_23 : tt 23 = some ⟨1, 8, .fn, (.nilf)⟩ := rfl
theorem tt_24 : tt 24 = some ⟨32, 32, .arr 32 5, .agg [.ints .u8 32 (List.replicate 32 0)]⟩ := rfl
theorem tt_25 : tt 25 = some ⟨1, 8, .fn, (.nilf)⟩ := rfl
theorem tt_26 : tt 26 = some ⟨1, 4, .int .u32, (.int .u32 0)⟩ := rfl
theorem tt_27 : tt 27 = some ⟨8, 32, .arr 8 26, .agg [.ints .u32 8 (List.replicate 8 0)]⟩ := rfl
theorem tt_28 : tt 28 = some ⟨1, 8, .int .u64, (.int .u64 0)⟩ := rfl
theorem tt_29 : tt 29 = some ⟨10, 64, .strct [(0, 27), (8, 22), (9, 28)], .agg [.ints .u32 8 (List.replicate 8 0), .nils, .int .u64 0]⟩ := rfl
theorem tt_30 : tt 30 = some ⟨10, 64, .strct [(0, 27), (8, 22), (9, 28)], .agg [.ints .u32 8 (List.replicate 8 0), .nils, .int .u64 0]⟩ := rfl
theorem tt_31 : tt 31 = some ⟨1, 8, .fn, (.nilf)⟩ := rfl
theorem tt_32 : tt 32 = some ⟨1, 8, .fn, (.nilf)⟩ := rfl
theorem tt_33 : tt 33 = some ⟨1, 8, .fn, (.nilf)⟩ := rfl
theorem tt_34 : tt 34 = some ⟨1, 24, .slice 22, (.nils)⟩ := rfl
theorem tt_35 : tt 35 = some ⟨1, 24, .slice 30, (.nils)⟩ := rfl
theorem tt_36 : tt 36 = some ⟨1, 8, .fn, (.nilf)⟩ := rfl
theorem tt_37 : tt 37 = some ⟨1, 8, .fn, (.nilf)⟩ := rfl
theorem tt_38 : tt 38 = some ⟨1, 2, .int .u16, (.int .u16 0)⟩ := rfl
theorem tt_39 : tt 39 = some ⟨1, 8, .fn, (.nilf)⟩ := rfl
theorem tt_40 : tt 40 = some ⟨1, 8, .fn, (.nilf)⟩ := rfl
theorem tt_41 : tt 41 = some ⟨1, 8, .fn, (.nilf)⟩ := rfl
theorem tt_42 : tt 42 = some ⟨1, 8, .int .i64, (.int .i64 0)⟩ := rfl
theorem tt_44 : tt 44 = some ⟨1, 8, .fn, (.nilf)⟩ := rfl
theorem tt_46 : tt 46 = some ⟨1, 8, .fn, (.nilf)⟩ := rfl
theorem tt_47 : tt 47 = some ⟨1, 24, .slice 24, (.nils)⟩ := rfl
theorem tt_49 : tt 49 = some ⟨1, 8, .fn, (.nilf)⟩ := rfl
theorem tt_51 : tt 51 = some ⟨1, 8, .fn, (.nilf)⟩ := rfl
theorem tt_52 : tt 52 = some ⟨1, 8, .fn, (.nilf)⟩ := rfl
theorem tt_53 : tt 53 = some ⟨1, 8, .fn, (.nilf)⟩ := rfl
theorem tt_54 : tt 54 = some ⟨2, 4, .arr 2 38, .agg [.ints .u16 2 (List.replicate 2 0)]⟩ := rfl
theorem tt_55 : tt 55 = some ⟨1, 8, .fn, (.nilf)⟩ := rfl
theorem tt_56 : tt 56 = some ⟨1, 8, .fn, (.nilf)⟩ := rfl
theorem tt_57 : tt 57 = some ⟨1, 8, .fn, (.nilf)⟩ := rfl
theorem tt_58 : tt 58 = some ⟨1, 8, .fn, (.nilf)⟩ := rfl
theorem tt_59 : tt 59 = some ⟨1, 24, .slice 26, (.nils)⟩ := rfl
theorem tt_60 : tt 60 = some ⟨1, 8, .fn, (.nilf)⟩ := rfl
theorem tt_61 : tt 61 = some ⟨1, 8, .fn, (.nilf)⟩ := rfl
theorem tt_62 : tt 62 = some ⟨1, 8, .fn, (.nilf)⟩ := rfl
theorem tt_63 : tt 63 = some ⟨1, 8, .fn, (.nilf)⟩ := rfl
theorem tt_64 : tt 64 = some ⟨1, 8, .fn, (.nilf)⟩ := rfl
theorem tt_65 : tt 65 = some ⟨1, 8, .int .u64, (.int .u64 0)⟩ := rfl
theorem tt_66 : tt 66 = some ⟨1, 8, .fn, (.nilf)⟩ := rfl
theorem tt_67 : tt 67 = some ⟨1, 8, .fn, (.nilf)⟩ := rfl
theorem tt_68 : tt 68 = some ⟨1, 8, .fn, (.nilf)⟩ := rfl
theorem tt_69 : tt 69 = some ⟨1, 8, .fn, (.nilf)⟩ := rfl
theorem tt_70 : tt 70 = some ⟨1, 8, .fn, (.nilf)⟩ := rfl
theorem tt_71 : tt 71 = some ⟨1, 24, .slice 28, (.nils)⟩ := rfl
theorem tt_72 : tt 72 = some ⟨1, 8, .fn, (.nilf)⟩ := rfl
theorem tt_73 : tt 73 = some ⟨1, 8, .fn, (.nilf)⟩ := rfl
theorem tt_74 : tt 74 = some ⟨1, 8, .fn, (.nilf)⟩ := rfl
theorem tt_75 : tt 75 = some ⟨1, 8, .fn, (.nilf)⟩ := rfl
theorem tt_76 : tt 76 = some ⟨1, 8, .fn, (.nilf)⟩ := rfl
theorem tt_77 : tt 77 = some ⟨64, 256, .arr 64 26, .agg [.ints .u32 64 (List.replicate 64 0)]⟩ := rfl
theorem tt_78 : tt 78 = some ⟨1, 8, .fn, (.nilf)⟩ := rfl
theorem tt_79 : tt 79 = some ⟨64, 64, .arr 64 5, .agg [.ints .u8 64 (List.replicate 64 0)]⟩ := rfl
theorem tt_80 : tt 80 = some ⟨1, 8, .fn, (.nilf)⟩ := rfl
theorem tt_81 : tt 81 = some ⟨1, 8, .fn, (.nilf)⟩ := rfl
theorem tt_82 : tt 82 = some ⟨1, 24, .slice 3, (.nils)⟩ := rfl
theorem tt_83 : tt 83 = some ⟨1, 8, .fn, (.nilf)⟩ := rfl
theorem tt_84 : tt 84 = some ⟨1, 8, .fn, (.nilf)⟩ := rfl
theorem tt_87 : tt 87 = some ⟨0, 0, .arr 0 16, .agg []⟩ := rfl
theorem tt_90 : tt 90 = some ⟨1, 8, .fn, (.nilf)⟩ := rfl
theorem tt_91 : tt 91 = some ⟨1, 1, .int .u8, (.int .u8 0)⟩ := rfl
theorem tt_92 : tt 92 = some ⟨1, 1, .int .u8, (.int .u8 0)⟩ := rfl
theorem tt_93 : tt 93 = some ⟨1, 8, .fn, (.nilf)⟩ := rfl
theorem tt_94 : tt 94 = some ⟨1, 8, .ptr 5, (.nilp)⟩ := rfl
theorem tt_95 : tt 95 = some ⟨1, 4, .int .i32, (.int .i32 0)⟩ := rfl
theorem tt_96 : tt 96 = some ⟨1, 4, .int .i32, (.int .i32 0)⟩ := rfl
theorem tt_ok : TT Tryd.prog tt := by
  refine TT.of_list ?_
  simp only [tbl, List.forall_mem_cons]
  exact ⟨ty1, ty2, ty3, ty4, ty5, ty6, ty7, ty8, ty9, ty10, ty11, ty12, ty15, ty16, ty17, ty20, ty21, ty22, ty23, ty24, ty25, ty26, ty27, ty28, ty29, ty30, ty31, ty32, ty33, ty34, ty35, ty36, ty37, ty38, ty39, ty40, ty41, ty42, ty44, ty46, ty47, ty49, ty51, ty52, ty53, ty54, ty55, ty56, ty57, ty58, ty59, ty60, ty61, ty62, ty63, ty64, ty65, ty66, ty67, ty68, ty69, ty70, ty71, ty72, ty73, ty74, ty75, ty76, ty77, ty78, ty79, ty80, ty81, ty82, ty83, ty84, ty87, ty90, ty91, ty92, ty93, ty94, ty95, ty96, fun x hx => by cases hx⟩
end Go.Proofs.YtageadccfdbmjaaDoor
