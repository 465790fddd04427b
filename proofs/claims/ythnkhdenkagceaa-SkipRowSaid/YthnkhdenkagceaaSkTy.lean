/- The types of the translation, as Sx reads them. Written by gen.py. -/
import Derived.Test.YthnkhdenkagceaaSxW
import Derived.Test.YthnkhdenkagceaaProg
import Derived.KernelRfl
namespace Go.Proofs.Ythnkhdenkagceaa
open Sx

theorem ty1 : TyOK Try.prog 1 ⟨1, 8, .fn, (.nilf)⟩ := ⟨by kernel_rfl, by kernel_rfl, by kernel_rfl, by kernel_rfl, by kernel_rfl, by kernel_rfl⟩
theorem ty2 : TyOK Try.prog 2 ⟨1, 8, .int .i64, (.int .i64 0)⟩ := ⟨by kernel_rfl, by kernel_rfl, by kernel_rfl, by kernel_rfl, by kernel_rfl, by kernel_rfl⟩
theorem ty3 : TyOK Try.prog 3 ⟨1, 8, .int .i64, (.int .i64 0)⟩ := ⟨by kernel_rfl, by kernel_rfl, by kernel_rfl, by kernel_rfl, by kernel_rfl, by kernel_rfl⟩
theorem ty4 : TyOK Try.prog 4 ⟨1, 1, .bool, (.bool false)⟩ := ⟨by kernel_rfl, by kernel_rfl, by kernel_rfl, by kernel_rfl, by kernel_rfl, by kernel_rfl⟩
theorem ty5 : TyOK Try.prog 5 ⟨1, 1, .int .u8, (.int .u8 0)⟩ := ⟨by kernel_rfl, by kernel_rfl, by kernel_rfl, by kernel_rfl, by kernel_rfl, by kernel_rfl⟩
theorem ty6 : TyOK Try.prog 6 ⟨1, 1, .int .u8, (.int .u8 0)⟩ := ⟨by kernel_rfl, by kernel_rfl, by kernel_rfl, by kernel_rfl, by kernel_rfl, by kernel_rfl⟩
theorem ty7 : TyOK Try.prog 7 ⟨4, 24, .strct [(0, 2), (1, 3), (2, 4), (3, 6)], .agg [.int .i64 0, .int .i64 0, .bool false, .int .u8 0]⟩ := ⟨by kernel_rfl, by kernel_rfl, by kernel_rfl, by kernel_rfl, by kernel_rfl, by kernel_rfl⟩
theorem ty8 : TyOK Try.prog 8 ⟨4, 24, .strct [(0, 2), (1, 3), (2, 4), (3, 6)], .agg [.int .i64 0, .int .i64 0, .bool false, .int .u8 0]⟩ := ⟨by kernel_rfl, by kernel_rfl, by kernel_rfl, by kernel_rfl, by kernel_rfl, by kernel_rfl⟩
theorem ty9 : TyOK Try.prog 9 ⟨1, 16, .str, (.str ByteArray.empty)⟩ := ⟨by kernel_rfl, by kernel_rfl, by kernel_rfl, by kernel_rfl, by kernel_rfl, by kernel_rfl⟩
theorem ty10 : TyOK Try.prog 10 ⟨1, 16, .str, (.str ByteArray.empty)⟩ := ⟨by kernel_rfl, by kernel_rfl, by kernel_rfl, by kernel_rfl, by kernel_rfl, by kernel_rfl⟩
theorem ty11 : TyOK Try.prog 11 ⟨1, 16, .str, (.str ByteArray.empty)⟩ := ⟨by kernel_rfl, by kernel_rfl, by kernel_rfl, by kernel_rfl, by kernel_rfl, by kernel_rfl⟩
theorem ty12 : TyOK Try.prog 12 ⟨1, 8, .int .u64, (.int .u64 0)⟩ := ⟨by kernel_rfl, by kernel_rfl, by kernel_rfl, by kernel_rfl, by kernel_rfl, by kernel_rfl⟩
theorem ty15 : TyOK Try.prog 15 ⟨1, 8, .ptr 70, (.nilp)⟩ := ⟨by kernel_rfl, by kernel_rfl, by kernel_rfl, by kernel_rfl, by kernel_rfl, by kernel_rfl⟩
theorem ty16 : TyOK Try.prog 16 ⟨1, 8, .ptr 73, (.nilp)⟩ := ⟨by kernel_rfl, by kernel_rfl, by kernel_rfl, by kernel_rfl, by kernel_rfl, by kernel_rfl⟩
theorem ty17 : TyOK Try.prog 17 ⟨1, 8, .ptr 83, (.nilp)⟩ := ⟨by kernel_rfl, by kernel_rfl, by kernel_rfl, by kernel_rfl, by kernel_rfl, by kernel_rfl⟩
theorem ty20 : TyOK Try.prog 20 ⟨1, 16, .ifc, (.nili)⟩ := ⟨by kernel_rfl, by kernel_rfl, by kernel_rfl, by kernel_rfl, by kernel_rfl, by kernel_rfl⟩
theorem ty21 : TyOK Try.prog 21 ⟨1, 4, .int .i32, (.int .i32 0)⟩ := ⟨by kernel_rfl, by kernel_rfl, by kernel_rfl, by kernel_rfl, by kernel_rfl, by kernel_rfl⟩
theorem ty22 : TyOK Try.prog 22 ⟨1, 24, .slice 24, (.nils)⟩ := ⟨by kernel_rfl, by kernel_rfl, by kernel_rfl, by kernel_rfl, by kernel_rfl, by kernel_rfl⟩
theorem ty23 : TyOK Try.prog 23 ⟨3, 40, .strct [(0, 9), (1, 3), (2, 9)], .agg [.str ByteArray.empty, .int .i64 0, .str ByteArray.empty]⟩ := ⟨by kernel_rfl, by kernel_rfl, by kernel_rfl, by kernel_rfl, by kernel_rfl, by kernel_rfl⟩
theorem ty24 : TyOK Try.prog 24 ⟨3, 40, .strct [(0, 9), (1, 3), (2, 9)], .agg [.str ByteArray.empty, .int .i64 0, .str ByteArray.empty]⟩ := ⟨by kernel_rfl, by kernel_rfl, by kernel_rfl, by kernel_rfl, by kernel_rfl, by kernel_rfl⟩
theorem ty25 : TyOK Try.prog 25 ⟨1, 8, .fn, (.nilf)⟩ := ⟨by kernel_rfl, by kernel_rfl, by kernel_rfl, by kernel_rfl, by kernel_rfl, by kernel_rfl⟩
theorem ty26 : TyOK Try.prog 26 ⟨1, 8, .fn, (.nilf)⟩ := ⟨by kernel_rfl, by kernel_rfl, by kernel_rfl, by kernel_rfl, by kernel_rfl, by kernel_rfl⟩
theorem ty27 : TyOK Try.prog 27 ⟨1, 24, .slice 33, (.nils)⟩ := ⟨by kernel_rfl, by kernel_rfl, by kernel_rfl, by kernel_rfl, by kernel_rfl, by kernel_rfl⟩
theorem ty28 : TyOK Try.prog 28 ⟨1, 24, .slice 33, (.nils)⟩ := ⟨by kernel_rfl, by kernel_rfl, by kernel_rfl, by kernel_rfl, by kernel_rfl, by kernel_rfl⟩
theorem ty29 : TyOK Try.prog 29 ⟨1, 8, .int .i64, (.int .i64 0)⟩ := ⟨by kernel_rfl, by kernel_rfl, by kernel_rfl, by kernel_rfl, by kernel_rfl, by kernel_rfl⟩
theorem ty31 : TyOK Try.prog 31 ⟨1, 8, .fn, (.nilf)⟩ := ⟨by kernel_rfl, by kernel_rfl, by kernel_rfl, by kernel_rfl, by kernel_rfl, by kernel_rfl⟩
theorem ty32 : TyOK Try.prog 32 ⟨1, 8, .fn, (.nilf)⟩ := ⟨by kernel_rfl, by kernel_rfl, by kernel_rfl, by kernel_rfl, by kernel_rfl, by kernel_rfl⟩
theorem ty33 : TyOK Try.prog 33 ⟨3, 40, .strct [(0, 9), (1, 3), (2, 9)], .agg [.str ByteArray.empty, .int .i64 0, .str ByteArray.empty]⟩ := ⟨by kernel_rfl, by kernel_rfl, by kernel_rfl, by kernel_rfl, by kernel_rfl, by kernel_rfl⟩
theorem ty35 : TyOK Try.prog 35 ⟨1, 8, .fn, (.nilf)⟩ := ⟨by kernel_rfl, by kernel_rfl, by kernel_rfl, by kernel_rfl, by kernel_rfl, by kernel_rfl⟩
theorem ty37 : TyOK Try.prog 37 ⟨1, 8, .fn, (.nilf)⟩ := ⟨by kernel_rfl, by kernel_rfl, by kernel_rfl, by kernel_rfl, by kernel_rfl, by kernel_rfl⟩
theorem ty39 : TyOK Try.prog 39 ⟨1, 8, .fn, (.nilf)⟩ := ⟨by kernel_rfl, by kernel_rfl, by kernel_rfl, by kernel_rfl, by kernel_rfl, by kernel_rfl⟩
theorem ty41 : TyOK Try.prog 41 ⟨1, 8, .fn, (.nilf)⟩ := ⟨by kernel_rfl, by kernel_rfl, by kernel_rfl, by kernel_rfl, by kernel_rfl, by kernel_rfl⟩
theorem ty43 : TyOK Try.prog 43 ⟨1, 8, .fn, (.nilf)⟩ := ⟨by kernel_rfl, by kernel_rfl, by kernel_rfl, by kernel_rfl, by kernel_rfl, by kernel_rfl⟩
theorem ty44 : TyOK Try.prog 44 ⟨1, 8, .fn, (.nilf)⟩ := ⟨by kernel_rfl, by kernel_rfl, by kernel_rfl, by kernel_rfl, by kernel_rfl, by kernel_rfl⟩
theorem ty45 : TyOK Try.prog 45 ⟨1, 8, .fn, (.nilf)⟩ := ⟨by kernel_rfl, by kernel_rfl, by kernel_rfl, by kernel_rfl, by kernel_rfl, by kernel_rfl⟩
theorem ty46 : TyOK Try.prog 46 ⟨1, 8, .fn, (.nilf)⟩ := ⟨by kernel_rfl, by kernel_rfl, by kernel_rfl, by kernel_rfl, by kernel_rfl, by kernel_rfl⟩
theorem ty47 : TyOK Try.prog 47 ⟨1, 24, .slice 9, (.nils)⟩ := ⟨by kernel_rfl, by kernel_rfl, by kernel_rfl, by kernel_rfl, by kernel_rfl, by kernel_rfl⟩
theorem ty48 : TyOK Try.prog 48 ⟨1, 8, .fn, (.nilf)⟩ := ⟨by kernel_rfl, by kernel_rfl, by kernel_rfl, by kernel_rfl, by kernel_rfl, by kernel_rfl⟩
theorem ty49 : TyOK Try.prog 49 ⟨1, 8, .fn, (.nilf)⟩ := ⟨by kernel_rfl, by kernel_rfl, by kernel_rfl, by kernel_rfl, by kernel_rfl, by kernel_rfl⟩
theorem ty50 : TyOK Try.prog 50 ⟨1, 8, .fn, (.nilf)⟩ := ⟨by kernel_rfl, by kernel_rfl, by kernel_rfl, by kernel_rfl, by kernel_rfl, by kernel_rfl⟩
theorem ty51 : TyOK Try.prog 51 ⟨1, 24, .slice 53, (.nils)⟩ := ⟨by kernel_rfl, by kernel_rfl, by kernel_rfl, by kernel_rfl, by kernel_rfl, by kernel_rfl⟩
theorem ty52 : TyOK Try.prog 52 ⟨4, 48, .strct [(0, 5), (1, 24)], .agg [.int .u8 0, .str ByteArray.empty, .int .i64 0, .str ByteArray.empty]⟩ := ⟨by kernel_rfl, by kernel_rfl, by kernel_rfl, by kernel_rfl, by kernel_rfl, by kernel_rfl⟩
theorem ty53 : TyOK Try.prog 53 ⟨4, 48, .strct [(0, 5), (1, 24)], .agg [.int .u8 0, .str ByteArray.empty, .int .i64 0, .str ByteArray.empty]⟩ := ⟨by kernel_rfl, by kernel_rfl, by kernel_rfl, by kernel_rfl, by kernel_rfl, by kernel_rfl⟩
theorem ty54 : TyOK Try.prog 54 ⟨1, 8, .fn, (.nilf)⟩ := ⟨by kernel_rfl, by kernel_rfl, by kernel_rfl, by kernel_rfl, by kernel_rfl, by kernel_rfl⟩
theorem ty55 : TyOK Try.prog 55 ⟨1, 24, .slice 5, (.nils)⟩ := ⟨by kernel_rfl, by kernel_rfl, by kernel_rfl, by kernel_rfl, by kernel_rfl, by kernel_rfl⟩
theorem ty56 : TyOK Try.prog 56 ⟨1, 8, .map 3 4, (.nilm)⟩ := ⟨by kernel_rfl, by kernel_rfl, by kernel_rfl, by kernel_rfl, by kernel_rfl, by kernel_rfl⟩
theorem ty57 : TyOK Try.prog 57 ⟨1, 8, .fn, (.nilf)⟩ := ⟨by kernel_rfl, by kernel_rfl, by kernel_rfl, by kernel_rfl, by kernel_rfl, by kernel_rfl⟩
theorem ty58 : TyOK Try.prog 58 ⟨1, 8, .fn, (.nilf)⟩ := ⟨by kernel_rfl, by kernel_rfl, by kernel_rfl, by kernel_rfl, by kernel_rfl, by kernel_rfl⟩
theorem ty59 : TyOK Try.prog 59 ⟨1, 8, .fn, (.nilf)⟩ := ⟨by kernel_rfl, by kernel_rfl, by kernel_rfl, by kernel_rfl, by kernel_rfl, by kernel_rfl⟩
theorem ty60 : TyOK Try.prog 60 ⟨1, 8, .fn, (.nilf)⟩ := ⟨by kernel_rfl, by kernel_rfl, by kernel_rfl, by kernel_rfl, by kernel_rfl, by kernel_rfl⟩
theorem ty61 : TyOK Try.prog 61 ⟨1, 8, .fn, (.nilf)⟩ := ⟨by kernel_rfl, by kernel_rfl, by kernel_rfl, by kernel_rfl, by kernel_rfl, by kernel_rfl⟩
theorem ty62 : TyOK Try.prog 62 ⟨1, 8, .fn, (.nilf)⟩ := ⟨by kernel_rfl, by kernel_rfl, by kernel_rfl, by kernel_rfl, by kernel_rfl, by kernel_rfl⟩
theorem ty63 : TyOK Try.prog 63 ⟨1, 8, .fn, (.nilf)⟩ := ⟨by kernel_rfl, by kernel_rfl, by kernel_rfl, by kernel_rfl, by kernel_rfl, by kernel_rfl⟩
theorem ty64 : TyOK Try.prog 64 ⟨1, 8, .fn, (.nilf)⟩ := ⟨by kernel_rfl, by kernel_rfl, by kernel_rfl, by kernel_rfl, by kernel_rfl, by kernel_rfl⟩
theorem ty65 : TyOK Try.prog 65 ⟨1, 8, .fn, (.nilf)⟩ := ⟨by kernel_rfl, by kernel_rfl, by kernel_rfl, by kernel_rfl, by kernel_rfl, by kernel_rfl⟩
theorem ty66 : TyOK Try.prog 66 ⟨1, 8, .fn, (.nilf)⟩ := ⟨by kernel_rfl, by kernel_rfl, by kernel_rfl, by kernel_rfl, by kernel_rfl, by kernel_rfl⟩
theorem ty67 : TyOK Try.prog 67 ⟨1, 8, .fn, (.nilf)⟩ := ⟨by kernel_rfl, by kernel_rfl, by kernel_rfl, by kernel_rfl, by kernel_rfl, by kernel_rfl⟩
theorem ty68 : TyOK Try.prog 68 ⟨1, 8, .fn, (.nilf)⟩ := ⟨by kernel_rfl, by kernel_rfl, by kernel_rfl, by kernel_rfl, by kernel_rfl, by kernel_rfl⟩
theorem ty71 : TyOK Try.prog 71 ⟨0, 0, .arr 0 16, .agg []⟩ := ⟨by kernel_rfl, by kernel_rfl, by kernel_rfl, by kernel_rfl, by kernel_rfl, by kernel_rfl⟩
theorem ty74 : TyOK Try.prog 74 ⟨1, 8, .fn, (.nilf)⟩ := ⟨by kernel_rfl, by kernel_rfl, by kernel_rfl, by kernel_rfl, by kernel_rfl, by kernel_rfl⟩
theorem ty75 : TyOK Try.prog 75 ⟨1, 4, .int .u32, (.int .u32 0)⟩ := ⟨by kernel_rfl, by kernel_rfl, by kernel_rfl, by kernel_rfl, by kernel_rfl, by kernel_rfl⟩
theorem ty76 : TyOK Try.prog 76 ⟨1, 1, .int .u8, (.int .u8 0)⟩ := ⟨by kernel_rfl, by kernel_rfl, by kernel_rfl, by kernel_rfl, by kernel_rfl, by kernel_rfl⟩
theorem ty77 : TyOK Try.prog 77 ⟨1, 1, .int .u8, (.int .u8 0)⟩ := ⟨by kernel_rfl, by kernel_rfl, by kernel_rfl, by kernel_rfl, by kernel_rfl, by kernel_rfl⟩
theorem ty78 : TyOK Try.prog 78 ⟨1, 8, .fn, (.nilf)⟩ := ⟨by kernel_rfl, by kernel_rfl, by kernel_rfl, by kernel_rfl, by kernel_rfl, by kernel_rfl⟩
theorem ty79 : TyOK Try.prog 79 ⟨1, 8, .ptr 5, (.nilp)⟩ := ⟨by kernel_rfl, by kernel_rfl, by kernel_rfl, by kernel_rfl, by kernel_rfl, by kernel_rfl⟩
theorem ty80 : TyOK Try.prog 80 ⟨1, 4, .int .i32, (.int .i32 0)⟩ := ⟨by kernel_rfl, by kernel_rfl, by kernel_rfl, by kernel_rfl, by kernel_rfl, by kernel_rfl⟩
theorem ty81 : TyOK Try.prog 81 ⟨1, 4, .int .i32, (.int .i32 0)⟩ := ⟨by kernel_rfl, by kernel_rfl, by kernel_rfl, by kernel_rfl, by kernel_rfl, by kernel_rfl⟩

def tbl : List (Nat × TI) := [  (1, ⟨1, 8, .fn, (.nilf)⟩),
  (2, ⟨1, 8, .int .i64, (.int .i64 0)⟩),
  (3, ⟨1, 8, .int .i64, (.int .i64 0)⟩),
  (4, ⟨1, 1, .bool, (.bool false)⟩),
  (5, ⟨1, 1, .int .u8, (.int .u8 0)⟩),
  (6, ⟨1, 1, .int .u8, (.int .u8 0)⟩),
  (7, ⟨4, 24, .strct [(0, 2), (1, 3), (2, 4), (3, 6)], .agg [.int .i64 0, .int .i64 0, .bool false, .int .u8 0]⟩),
  (8, ⟨4, 24, .strct [(0, 2), (1, 3), (2, 4), (3, 6)], .agg [.int .i64 0, .int .i64 0, .bool false, .int .u8 0]⟩),
  (9, ⟨1, 16, .str, (.str ByteArray.empty)⟩),
  (10, ⟨1, 16, .str, (.str ByteArray.empty)⟩),
  (11, ⟨1, 16, .str, (.str ByteArray.empty)⟩),
  (12, ⟨1, 8, .int .u64, (.int .u64 0)⟩),
  (15, ⟨1, 8, .ptr 70, (.nilp)⟩),
  (16, ⟨1, 8, .ptr 73, (.nilp)⟩),
  (17, ⟨1, 8, .ptr 83, (.nilp)⟩),
  (20, ⟨1, 16, .ifc, (.nili)⟩),
  (21, ⟨1, 4, .int .i32, (.int .i32 0)⟩),
  (22, ⟨1, 24, .slice 24, (.nils)⟩),
  (23, ⟨3, 40, .strct [(0, 9), (1, 3), (2, 9)], .agg [.str ByteArray.empty, .int .i64 0, .str ByteArray.empty]⟩),
  (24, ⟨3, 40, .strct [(0, 9), (1, 3), (2, 9)], .agg [.str ByteArray.empty, .int .i64 0, .str ByteArray.empty]⟩),
  (25, ⟨1, 8, .fn, (.nilf)⟩),
  (26, ⟨1, 8, .fn, (.nilf)⟩),
  (27, ⟨1, 24, .slice 33, (.nils)⟩),
  (28, ⟨1, 24, .slice 33, (.nils)⟩),
  (29, ⟨1, 8, .int .i64, (.int .i64 0)⟩),
  (31, ⟨1, 8, .fn, (.nilf)⟩),
  (32, ⟨1, 8, .fn, (.nilf)⟩),
  (33, ⟨3, 40, .strct [(0, 9), (1, 3), (2, 9)], .agg [.str ByteArray.empty, .int .i64 0, .str ByteArray.empty]⟩),
  (35, ⟨1, 8, .fn, (.nilf)⟩),
  (37, ⟨1, 8, .fn, (.nilf)⟩),
  (39, ⟨1, 8, .fn, (.nilf)⟩),
  (41, ⟨1, 8, .fn, (.nilf)⟩),
  (43, ⟨1, 8, .fn, (.nilf)⟩),
  (44, ⟨1, 8, .fn, (.nilf)⟩),
  (45, ⟨1, 8, .fn, (.nilf)⟩),
  (46, ⟨1, 8, .fn, (.nilf)⟩),
  (47, ⟨1, 24, .slice 9, (.nils)⟩),
  (48, ⟨1, 8, .fn, (.nilf)⟩),
  (49, ⟨1, 8, .fn, (.nilf)⟩),
  (50, ⟨1, 8, .fn, (.nilf)⟩),
  (51, ⟨1, 24, .slice 53, (.nils)⟩),
  (52, ⟨4, 48, .strct [(0, 5), (1, 24)], .agg [.int .u8 0, .str ByteArray.empty, .int .i64 0, .str ByteArray.empty]⟩),
  (53, ⟨4, 48, .strct [(0, 5), (1, 24)], .agg [.int .u8 0, .str ByteArray.empty, .int .i64 0, .str ByteArray.empty]⟩),
  (54, ⟨1, 8, .fn, (.nilf)⟩),
  (55, ⟨1, 24, .slice 5, (.nils)⟩),
  (56, ⟨1, 8, .map 3 4, (.nilm)⟩),
  (57, ⟨1, 8, .fn, (.nilf)⟩),
  (58, ⟨1, 8, .fn, (.nilf)⟩),
  (59, ⟨1, 8, .fn, (.nilf)⟩),
  (60, ⟨1, 8, .fn, (.nilf)⟩),
  (61, ⟨1, 8, .fn, (.nilf)⟩),
  (62, ⟨1, 8, .fn, (.nilf)⟩),
  (63, ⟨1, 8, .fn, (.nilf)⟩),
  (64, ⟨1, 8, .fn, (.nilf)⟩),
  (65, ⟨1, 8, .fn, (.nilf)⟩),
  (66, ⟨1, 8, .fn, (.nilf)⟩),
  (67, ⟨1, 8, .fn, (.nilf)⟩),
  (68, ⟨1, 8, .fn, (.nilf)⟩),
  (71, ⟨0, 0, .arr 0 16, .agg []⟩),
  (74, ⟨1, 8, .fn, (.nilf)⟩),
  (75, ⟨1, 4, .int .u32, (.int .u32 0)⟩),
  (76, ⟨1, 1, .int .u8, (.int .u8 0)⟩),
  (77, ⟨1, 1, .int .u8, (.int .u8 0)⟩),
  (78, ⟨1, 8, .fn, (.nilf)⟩),
  (79, ⟨1, 8, .ptr 5, (.nilp)⟩),
  (80, ⟨1, 4, .int .i32, (.int .i32 0)⟩),
  (81, ⟨1, 4, .int .i32, (.int .i32 0)⟩)]
def tt (T : Nat) : Option TI := lk tbl T
theorem tt_1 : tt 1 = some ⟨1, 8, .fn, (.nilf)⟩ := rfl
theorem tt_2 : tt 2 = some ⟨1, 8, .int .i64, (.int .i64 0)⟩ := rfl
theorem tt_3 : tt 3 = some ⟨1, 8, .int .i64, (.int .i64 0)⟩ := rfl
theorem tt_4 : tt 4 = some ⟨1, 1, .bool, (.bool false)⟩ := rfl
theorem tt_5 : tt 5 = some ⟨1, 1, .int .u8, (.int .u8 0)⟩ := rfl
theorem tt_6 : tt 6 = some ⟨1, 1, .int .u8, (.int .u8 0)⟩ := rfl
theorem tt_7 : tt 7 = some ⟨4, 24, .strct [(0, 2), (1, 3), (2, 4), (3, 6)], .agg [.int .i64 0, .int .i64 0, .bool false, .int .u8 0]⟩ := rfl
theorem tt_8 : tt 8 = some ⟨4, 24, .strct [(0, 2), (1, 3), (2, 4), (3, 6)], .agg [.int .i64 0, .int .i64 0, .bool false, .int .u8 0]⟩ := rfl
theorem tt_9 : tt 9 = some ⟨1, 16, .str, (.str ByteArray.empty)⟩ := rfl
theorem tt_10 : tt 10 = some ⟨1, 16, .str, (.str ByteArray.empty)⟩ := rfl
theorem tt_11 : tt 11 = some ⟨1, 16, .str, (.str ByteArray.empty)⟩ := rfl
theorem tt_12 : tt 12 = some ⟨1, 8, .int .u64, (.int .u64 0)⟩ := rfl
theorem tt_15 : tt 15 = some ⟨1, 8, .ptr 70, (.nilp)⟩ := rfl
theorem tt_16 : tt 16 = some ⟨1, 8, .ptr 73, (.nilp)⟩ := rfl
theorem tt_17 : tt 17 = some ⟨1, 8, .ptr 83, (.nilp)⟩ := rfl
theorem tt_20 : tt 20 = some ⟨1, 16, .ifc, (.nili)⟩ := rfl
theorem tt_21 : tt 21 = some ⟨1, 4, .int .i32, (.int .i32 0)⟩ := rfl
theorem tt_22 : tt 22 = some ⟨1, 24, .slice 24, (.nils)⟩ := rfl
theorem tt_23 : tt 23 = some ⟨3, 40, .strct [(0, 9), (1, 3), (2, 9)], .agg [.str ByteArray.empty, .int .i64 0, .str ByteArray.empty]⟩ := rfl
theorem tt_24 : tt 24 = some ⟨3, 40, .strct [(0, 9), (1, 3), (2, 9)], .agg [.str ByteArray.empty, .int .i64 0, .str ByteArray.empty]⟩ := rfl
theorem tt_25 : tt 25 = some ⟨1, 8, .fn, (.nilf)⟩ := rfl
theorem tt_26 : tt 26 = some ⟨1, 8, .fn, (.nilf)⟩ := rfl
theorem tt_27 : tt 27 = some ⟨1, 24, .slice 33, (.nils)⟩ := rfl
theorem tt_28 : tt 28 = some ⟨1, 24, .slice 33, (.nils)⟩ := rfl
theorem tt_29 : tt 29 = some ⟨1, 8, .int .i64, (.int .i64 0)⟩ := rfl
theorem tt_31 : tt 31 = some ⟨1, 8, .fn, (.nilf)⟩ := rfl
theorem tt_32 : tt 32 = some ⟨1, 8, .fn, (.nilf)⟩ := rfl
theorem tt_33 : tt 33 = some ⟨3, 40, .strct [(0, 9), (1, 3), (2, 9)], .agg [.str ByteArray.empty, .int .i64 0, .str ByteArray.empty]⟩ := rfl
theorem tt_35 : tt 35 = some ⟨1, 8, .fn, (.nilf)⟩ := rfl
theorem tt_37 : tt 37 = some ⟨1, 8, .fn, (.nilf)⟩ := rfl
theorem tt_39 : tt 39 = some ⟨1, 8, .fn, (.nilf)⟩ := rfl
theorem tt_41 : tt 41 = some ⟨1, 8, .fn, (.nilf)⟩ := rfl
theorem tt_43 : tt 43 = some ⟨1, 8, .fn, (.nilf)⟩ := rfl
theorem tt_44 : tt 44 = some ⟨1, 8, .fn, (.nilf)⟩ := rfl
theorem tt_45 : tt 45 = some ⟨1, 8, .fn, (.nilf)⟩ := rfl
theorem tt_46 : tt 46 = some ⟨1, 8, .fn, (.nilf)⟩ := rfl
theorem tt_47 : tt 47 = some ⟨1, 24, .slice 9, (.nils)⟩ := rfl
theorem tt_48 : tt 48 = some ⟨1, 8, .fn, (.nilf)⟩ := rfl
theorem tt_49 : tt 49 = some ⟨1, 8, .fn, (.nilf)⟩ := rfl
theorem tt_50 : tt 50 = some ⟨1, 8, .fn, (.nilf)⟩ := rfl
theorem tt_51 : tt 51 = some ⟨1, 24, .slice 53, (.nils)⟩ := rfl
theorem tt_52 : tt 52 = some ⟨4, 48, .strct [(0, 5), (1, 24)], .agg [.int .u8 0, .str ByteArray.empty, .int .i64 0, .str ByteArray.empty]⟩ := rfl
theorem tt_53 : tt 53 = some ⟨4, 48, .strct [(0, 5), (1, 24)], .agg [.int .u8 0, .str ByteArray.empty, .int .i64 0, .str ByteArray.empty]⟩ := rfl
theorem tt_54 : tt 54 = some ⟨1, 8, .fn, (.nilf)⟩ := rfl
theorem tt_55 : tt 55 = some ⟨1, 24, .slice 5, (.nils)⟩ := rfl
theorem tt_56 : tt 56 = some ⟨1, 8, .map 3 4, (.nilm)⟩ := rfl
theorem tt_57 : tt 57 = some ⟨1, 8, .fn, (.nilf)⟩ := rfl
theorem tt_58 : tt 58 = some ⟨1, 8, .fn, (.nilf)⟩ := rfl
theorem tt_59 : tt 59 = some ⟨1, 8, .fn, (.nilf)⟩ := rfl
theorem tt_60 : tt 60 = some ⟨1, 8, .fn, (.nilf)⟩ := rfl
theorem tt_61 : tt 61 = some ⟨1, 8, .fn, (.nilf)⟩ := rfl
theorem tt_62 : tt 62 = some ⟨1, 8, .fn, (.nilf)⟩ := rfl
theorem tt_63 : tt 63 = some ⟨1, 8, .fn, (.nilf)⟩ := rfl
theorem tt_64 : tt 64 = some ⟨1, 8, .fn, (.nilf)⟩ := rfl
theorem tt_65 : tt 65 = some ⟨1, 8, .fn, (.nilf)⟩ := rfl
theorem tt_66 : tt 66 = some ⟨1, 8, .fn, (.nilf)⟩ := rfl
theorem tt_67 : tt 67 = some ⟨1, 8, .fn, (.nilf)⟩ := rfl
theorem tt_68 : tt 68 = some ⟨1, 8, .fn, (.nilf)⟩ := rfl
theorem tt_71 : tt 71 = some ⟨0, 0, .arr 0 16, .agg []⟩ := rfl
theorem tt_74 : tt 74 = some ⟨1, 8, .fn, (.nilf)⟩ := rfl
theorem tt_75 : tt 75 = some ⟨1, 4, .int .u32, (.int .u32 0)⟩ := rfl
theorem tt_76 : tt 76 = some ⟨1, 1, .int .u8, (.int .u8 0)⟩ := rfl
theorem tt_77 : tt 77 = some ⟨1, 1, .int .u8, (.int .u8 0)⟩ := rfl
theorem tt_78 : tt 78 = some ⟨1, 8, .fn, (.nilf)⟩ := rfl
theorem tt_79 : tt 79 = some ⟨1, 8, .ptr 5, (.nilp)⟩ := rfl
theorem tt_80 : tt 80 = some ⟨1, 4, .int .i32, (.int .i32 0)⟩ := rfl
theorem tt_81 : tt 81 = some ⟨1, 4, .int .i32, (.int .i32 0)⟩ := rfl
theorem tt_ok : TT Try.prog tt := by
  refine TT.of_list ?_
  simp only [tbl, List.forall_mem_cons]
  exact ⟨ty1, ty2, ty3, ty4, ty5, ty6, ty7, ty8, ty9, ty10, ty11, ty12, ty15, ty16, ty17, ty20, ty21, ty22, ty23, ty24, ty25, ty26, ty27, ty28, ty29, ty31, ty32, ty33, ty35, ty37, ty39, ty41, ty43, ty44, ty45, ty46, ty47, ty48, ty49, ty50, ty51, ty52, ty53, ty54, ty55, ty56, ty57, ty58, ty59, ty60, ty61, ty62, ty63, ty64, ty65, ty66, ty67, ty68, ty71, ty74, ty75, ty76, ty77, ty78, ty79, ty80, ty81, fun x hx => by cases hx⟩
end Go.Proofs.Ythnkhdenkagceaa
