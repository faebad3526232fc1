/- The table of the types of this translation, as the walk reads it, and that a call of each function enters its body. No condition. -/
import Derived.Test.YtdnmnafadondkaaAw26
import Derived.Test.YtdnmnafadondkaaProg
set_option maxRecDepth 100000
namespace Go.Proofs.Ytdnmnafadondkaa
open Go

def tab (t : TypeId) : Option TI :=
  match t with
  | 1 => some ⟨.fn, 1, 8, [.nilFunc]⟩
  | 2 => some ⟨.int .i64, 1, 8, [.int .i64 0]⟩
  | 3 => some ⟨.int .i64, 1, 8, [.int .i64 0]⟩
  | 4 => some ⟨.bool, 1, 1, [.bool false]⟩
  | 5 => some ⟨.int .u8, 1, 1, [.int .u8 0]⟩
  | 6 => some ⟨.int .u8, 1, 1, [.int .u8 0]⟩
  | 7 => some ⟨.st [(0, 2), (1, 3), (2, 4), (3, 6)], 4, 24, [.int .i64 0, .int .i64 0, .bool false, .int .u8 0]⟩
  | 8 => some ⟨.st [(0, 2), (1, 3), (2, 4), (3, 6)], 4, 24, [.int .i64 0, .int .i64 0, .bool false, .int .u8 0]⟩
  | 9 => some ⟨.str, 1, 16, [.string ByteArray.empty]⟩
  | 10 => some ⟨.str, 1, 16, [.string ByteArray.empty]⟩
  | 11 => some ⟨.str, 1, 16, [.string ByteArray.empty]⟩
  | 12 => some ⟨.int .u64, 1, 8, [.int .u64 0]⟩
  | 13 => some ⟨.st [(0, 9), (1, 12)], 2, 24, [.string ByteArray.empty, .int .u64 0]⟩
  | 14 => some ⟨.st [(0, 9), (1, 12)], 2, 24, [.string ByteArray.empty, .int .u64 0]⟩
  | 15 => some ⟨.ptr 103, 1, 8, [.pointer none]⟩
  | 16 => some ⟨.ptr 106, 1, 8, [.pointer none]⟩
  | 17 => some ⟨.ptr 116, 1, 8, [.pointer none]⟩
  | 18 => some ⟨.st [(0, 17)], 1, 8, [.pointer none]⟩
  | 19 => some ⟨.st [(0, 17)], 1, 8, [.pointer none]⟩
  | 20 => some ⟨.ifc, 1, 16, [.nilIface]⟩
  | 21 => some ⟨.int .i32, 1, 4, [.int .i32 0]⟩
  | 22 => some ⟨.sl 79, 1, 24, [.slice none 0 0]⟩
  | 23 => some ⟨.st [(0, 3), (1, 3), (2, 3), (3, 22)], 4, 48, [.int .i64 0, .int .i64 0, .int .i64 0, .slice none 0 0]⟩
  | 24 => some ⟨.st [(0, 3), (1, 3), (2, 3), (3, 22)], 4, 48, [.int .i64 0, .int .i64 0, .int .i64 0, .slice none 0 0]⟩
  | 25 => some ⟨.fn, 1, 8, [.nilFunc]⟩
  | 26 => some ⟨.st [(0, 3), (1, 3), (2, 3), (3, 9)], 4, 40, [.int .i64 0, .int .i64 0, .int .i64 0, .string ByteArray.empty]⟩
  | 27 => some ⟨.st [(0, 3), (1, 3), (2, 3), (3, 9)], 4, 40, [.int .i64 0, .int .i64 0, .int .i64 0, .string ByteArray.empty]⟩
  | 28 => some ⟨.int .i64, 1, 8, [.int .i64 0]⟩
  | 29 => some ⟨.st [(0, 3), (1, 28)], 2, 16, [.int .i64 0, .int .i64 0]⟩
  | 30 => some ⟨.st [(0, 3), (1, 28)], 2, 16, [.int .i64 0, .int .i64 0]⟩
  | 32 => some ⟨.fn, 1, 8, [.nilFunc]⟩
  | 33 => some ⟨.fn, 1, 8, [.nilFunc]⟩
  | 34 => some ⟨.fn, 1, 8, [.nilFunc]⟩
  | 35 => some ⟨.sl 5, 1, 24, [.slice none 0 0]⟩
  | 36 => some ⟨.sl 47, 1, 24, [.slice none 0 0]⟩
  | 37 => some ⟨.fn, 1, 8, [.nilFunc]⟩
  | 38 => some ⟨.sl 35, 1, 24, [.slice none 0 0]⟩
  | 39 => some ⟨.st [(0, 38)], 1, 24, [.slice none 0 0]⟩
  | 40 => some ⟨.st [(0, 38)], 1, 24, [.slice none 0 0]⟩
  | 42 => some ⟨.fn, 1, 8, [.nilFunc]⟩
  | 43 => some ⟨.st [(0, 40), (1, 30), (3, 4), (4, 3), (5, 4)], 6, 64, [.slice none 0 0, .int .i64 0, .int .i64 0, .bool false, .int .i64 0, .bool false]⟩
  | 44 => some ⟨.st [(0, 40), (1, 30), (3, 4), (4, 3), (5, 4)], 6, 64, [.slice none 0 0, .int .i64 0, .int .i64 0, .bool false, .int .i64 0, .bool false]⟩
  | 45 => some ⟨.fn, 1, 8, [.nilFunc]⟩
  | 46 => some ⟨.st [(0, 4), (1, 5), (2, 35)], 3, 32, [.bool false, .int .u8 0, .slice none 0 0]⟩
  | 47 => some ⟨.st [(0, 4), (1, 5), (2, 35)], 3, 32, [.bool false, .int .u8 0, .slice none 0 0]⟩
  | 48 => some ⟨.fn, 1, 8, [.nilFunc]⟩
  | 49 => some ⟨.fn, 1, 8, [.nilFunc]⟩
  | 50 => some ⟨.fn, 1, 8, [.nilFunc]⟩
  | 51 => some ⟨.fn, 1, 8, [.nilFunc]⟩
  | 52 => some ⟨.fn, 1, 8, [.nilFunc]⟩
  | 53 => some ⟨.fn, 1, 8, [.nilFunc]⟩
  | 54 => some ⟨.fn, 1, 8, [.nilFunc]⟩
  | 55 => some ⟨.fn, 1, 8, [.nilFunc]⟩
  | 56 => some ⟨.fn, 1, 8, [.nilFunc]⟩
  | 57 => some ⟨.fn, 1, 8, [.nilFunc]⟩
  | 58 => some ⟨.ptr 68, 1, 8, [.pointer none]⟩
  | 59 => some ⟨.sl 9, 1, 24, [.slice none 0 0]⟩
  | 60 => some ⟨.st [(0, 59)], 1, 24, [.slice none 0 0]⟩
  | 61 => some ⟨.st [(0, 59)], 1, 24, [.slice none 0 0]⟩
  | 62 => some ⟨.arr 16 5, 16, 16, List.replicate 16 (.int .u8 0)⟩
  | 63 => some ⟨.arr 16 5, 16, 16, List.replicate 16 (.int .u8 0)⟩
  | 64 => some ⟨.st [(0, 40), (1, 61), (2, 63)], 18, 64, [.slice none 0 0, .slice none 0 0, .int .u8 0, .int .u8 0, .int .u8 0, .int .u8 0, .int .u8 0, .int .u8 0, .int .u8 0, .int .u8 0, .int .u8 0, .int .u8 0, .int .u8 0, .int .u8 0, .int .u8 0, .int .u8 0, .int .u8 0, .int .u8 0]⟩
  | 65 => some ⟨.st [(0, 40), (1, 61), (2, 63)], 18, 64, [.slice none 0 0, .slice none 0 0, .int .u8 0, .int .u8 0, .int .u8 0, .int .u8 0, .int .u8 0, .int .u8 0, .int .u8 0, .int .u8 0, .int .u8 0, .int .u8 0, .int .u8 0, .int .u8 0, .int .u8 0, .int .u8 0, .int .u8 0, .int .u8 0]⟩
  | 66 => some ⟨.sl 76, 1, 24, [.slice none 0 0]⟩
  | 67 => some ⟨.st [(0, 22), (1, 3), (2, 27), (6, 4), (7, 4), (8, 65), (26, 66), (27, 4)], 28, 176, [.slice none 0 0, .int .i64 0, .int .i64 0, .int .i64 0, .int .i64 0, .string ByteArray.empty, .bool false, .bool false, .slice none 0 0, .slice none 0 0, .int .u8 0, .int .u8 0, .int .u8 0, .int .u8 0, .int .u8 0, .int .u8 0, .int .u8 0, .int .u8 0, .int .u8 0, .int .u8 0, .int .u8 0, .int .u8 0, .int .u8 0, .int .u8 0, .int .u8 0, .int .u8 0, .slice none 0 0, .bool false]⟩
  | 68 => some ⟨.st [(0, 22), (1, 3), (2, 27), (6, 4), (7, 4), (8, 65), (26, 66), (27, 4)], 28, 176, [.slice none 0 0, .int .i64 0, .int .i64 0, .int .i64 0, .int .i64 0, .string ByteArray.empty, .bool false, .bool false, .slice none 0 0, .slice none 0 0, .int .u8 0, .int .u8 0, .int .u8 0, .int .u8 0, .int .u8 0, .int .u8 0, .int .u8 0, .int .u8 0, .int .u8 0, .int .u8 0, .int .u8 0, .int .u8 0, .int .u8 0, .int .u8 0, .int .u8 0, .int .u8 0, .slice none 0 0, .bool false]⟩
  | 69 => some ⟨.fn, 1, 8, [.nilFunc]⟩
  | 70 => some ⟨.fn, 1, 8, [.nilFunc]⟩
  | 72 => some ⟨.fn, 1, 8, [.nilFunc]⟩
  | 73 => some ⟨.fn, 1, 8, [.nilFunc]⟩
  | 74 => some ⟨.fn, 1, 8, [.nilFunc]⟩
  | 75 => some ⟨.st [(0, 4), (1, 3), (2, 4)], 3, 24, [.bool false, .int .i64 0, .bool false]⟩
  | 76 => some ⟨.st [(0, 4), (1, 3), (2, 4)], 3, 24, [.bool false, .int .i64 0, .bool false]⟩
  | 77 => some ⟨.fn, 1, 8, [.nilFunc]⟩
  | 78 => some ⟨.st [(0, 3), (1, 9)], 2, 24, [.int .i64 0, .string ByteArray.empty]⟩
  | 79 => some ⟨.st [(0, 3), (1, 9)], 2, 24, [.int .i64 0, .string ByteArray.empty]⟩
  | 81 => some ⟨.fn, 1, 8, [.nilFunc]⟩
  | 82 => some ⟨.fn, 1, 8, [.nilFunc]⟩
  | 83 => some ⟨.st [(0, 27)], 4, 40, [.int .i64 0, .int .i64 0, .int .i64 0, .string ByteArray.empty]⟩
  | 84 => some ⟨.st [(0, 27)], 4, 40, [.int .i64 0, .int .i64 0, .int .i64 0, .string ByteArray.empty]⟩
  | 85 => some ⟨.fn, 1, 8, [.nilFunc]⟩
  | 86 => some ⟨.fn, 1, 8, [.nilFunc]⟩
  | 87 => some ⟨.fn, 1, 8, [.nilFunc]⟩
  | 88 => some ⟨.fn, 1, 8, [.nilFunc]⟩
  | 89 => some ⟨.fn, 1, 8, [.nilFunc]⟩
  | 91 => some ⟨.fn, 1, 8, [.nilFunc]⟩
  | 93 => some ⟨.fn, 1, 8, [.nilFunc]⟩
  | 95 => some ⟨.fn, 1, 8, [.nilFunc]⟩
  | 96 => some ⟨.sl 3, 1, 24, [.slice none 0 0]⟩
  | 97 => some ⟨.fn, 1, 8, [.nilFunc]⟩
  | 98 => some ⟨.fn, 1, 8, [.nilFunc]⟩
  | 99 => some ⟨.fn, 1, 8, [.nilFunc]⟩
  | 100 => some ⟨.fn, 1, 8, [.nilFunc]⟩
  | 101 => some ⟨.fn, 1, 8, [.nilFunc]⟩
  | 102 => some ⟨.st [(0, 17), (1, 17), (2, 17), (3, 9)], 4, 40, [.pointer none, .pointer none, .pointer none, .string ByteArray.empty]⟩
  | 103 => some ⟨.st [(0, 17), (1, 17), (2, 17), (3, 9)], 4, 40, [.pointer none, .pointer none, .pointer none, .string ByteArray.empty]⟩
  | 104 => some ⟨.arr 0 16, 0, 0, []⟩
  | 105 => some ⟨.st [(0, 104)], 0, 0, []⟩
  | 106 => some ⟨.st [(0, 104)], 0, 0, []⟩
  | 107 => some ⟨.fn, 1, 8, [.nilFunc]⟩
  | 108 => some ⟨.int .u32, 1, 4, [.int .u32 0]⟩
  | 109 => some ⟨.int .u8, 1, 1, [.int .u8 0]⟩
  | 110 => some ⟨.int .u8, 1, 1, [.int .u8 0]⟩
  | 111 => some ⟨.fn, 1, 8, [.nilFunc]⟩
  | 112 => some ⟨.ptr 5, 1, 8, [.pointer none]⟩
  | 113 => some ⟨.int .i32, 1, 4, [.int .i32 0]⟩
  | 114 => some ⟨.int .i32, 1, 4, [.int .i32 0]⟩
  | 115 => some ⟨.st [(0, 12), (1, 12), (2, 108), (3, 109), (4, 5), (5, 5), (6, 110), (7, 111), (8, 112), (9, 113), (10, 114)], 11, 48, [.int .u64 0, .int .u64 0, .int .u32 0, .int .u8 0, .int .u8 0, .int .u8 0, .int .u8 0, .nilFunc, .pointer none, .int .i32 0, .int .i32 0]⟩
  | 116 => some ⟨.st [(0, 12), (1, 12), (2, 108), (3, 109), (4, 5), (5, 5), (6, 110), (7, 111), (8, 112), (9, 113), (10, 114)], 11, 48, [.int .u64 0, .int .u64 0, .int .u32 0, .int .u8 0, .int .u8 0, .int .u8 0, .int .u8 0, .nilFunc, .pointer none, .int .i32 0, .int .i32 0]⟩
  | _ => none

theorem T_1 : tab 1 = some ⟨.fn, 1, 8, [.nilFunc]⟩ := rfl
theorem ok_1 : TOk Try.prog 1 ⟨.fn, 1, 8, [.nilFunc]⟩ := ⟨by kernel_rfl, by kernel_rfl⟩
theorem T_2 : tab 2 = some ⟨.int .i64, 1, 8, [.int .i64 0]⟩ := rfl
theorem ok_2 : TOk Try.prog 2 ⟨.int .i64, 1, 8, [.int .i64 0]⟩ := ⟨by kernel_rfl, by kernel_rfl⟩
theorem T_3 : tab 3 = some ⟨.int .i64, 1, 8, [.int .i64 0]⟩ := rfl
theorem ok_3 : TOk Try.prog 3 ⟨.int .i64, 1, 8, [.int .i64 0]⟩ := ⟨by kernel_rfl, by kernel_rfl⟩
theorem T_4 : tab 4 = some ⟨.bool, 1, 1, [.bool false]⟩ := rfl
theorem ok_4 : TOk Try.prog 4 ⟨.bool, 1, 1, [.bool false]⟩ := ⟨by kernel_rfl, by kernel_rfl⟩
theorem T_5 : tab 5 = some ⟨.int .u8, 1, 1, [.int .u8 0]⟩ := rfl
theorem ok_5 : TOk Try.prog 5 ⟨.int .u8, 1, 1, [.int .u8 0]⟩ := ⟨by kernel_rfl, by kernel_rfl⟩
theorem T_6 : tab 6 = some ⟨.int .u8, 1, 1, [.int .u8 0]⟩ := rfl
theorem ok_6 : TOk Try.prog 6 ⟨.int .u8, 1, 1, [.int .u8 0]⟩ := ⟨by kernel_rfl, by kernel_rfl⟩
theorem T_7 : tab 7 = some ⟨.st [(0, 2), (1, 3), (2, 4), (3, 6)], 4, 24, [.int .i64 0, .int .i64 0, .bool false, .int .u8 0]⟩ := rfl
theorem ok_7 : TOk Try.prog 7 ⟨.st [(0, 2), (1, 3), (2, 4), (3, 6)], 4, 24, [.int .i64 0, .int .i64 0, .bool false, .int .u8 0]⟩ := ⟨by kernel_rfl, by kernel_rfl⟩
theorem T_8 : tab 8 = some ⟨.st [(0, 2), (1, 3), (2, 4), (3, 6)], 4, 24, [.int .i64 0, .int .i64 0, .bool false, .int .u8 0]⟩ := rfl
theorem ok_8 : TOk Try.prog 8 ⟨.st [(0, 2), (1, 3), (2, 4), (3, 6)], 4, 24, [.int .i64 0, .int .i64 0, .bool false, .int .u8 0]⟩ := ⟨by kernel_rfl, by kernel_rfl⟩
theorem T_9 : tab 9 = some ⟨.str, 1, 16, [.string ByteArray.empty]⟩ := rfl
theorem ok_9 : TOk Try.prog 9 ⟨.str, 1, 16, [.string ByteArray.empty]⟩ := ⟨by kernel_rfl, by kernel_rfl⟩
theorem T_10 : tab 10 = some ⟨.str, 1, 16, [.string ByteArray.empty]⟩ := rfl
theorem ok_10 : TOk Try.prog 10 ⟨.str, 1, 16, [.string ByteArray.empty]⟩ := ⟨by kernel_rfl, by kernel_rfl⟩
theorem T_11 : tab 11 = some ⟨.str, 1, 16, [.string ByteArray.empty]⟩ := rfl
theorem ok_11 : TOk Try.prog 11 ⟨.str, 1, 16, [.string ByteArray.empty]⟩ := ⟨by kernel_rfl, by kernel_rfl⟩
theorem T_12 : tab 12 = some ⟨.int .u64, 1, 8, [.int .u64 0]⟩ := rfl
theorem ok_12 : TOk Try.prog 12 ⟨.int .u64, 1, 8, [.int .u64 0]⟩ := ⟨by kernel_rfl, by kernel_rfl⟩
theorem T_13 : tab 13 = some ⟨.st [(0, 9), (1, 12)], 2, 24, [.string ByteArray.empty, .int .u64 0]⟩ := rfl
theorem ok_13 : TOk Try.prog 13 ⟨.st [(0, 9), (1, 12)], 2, 24, [.string ByteArray.empty, .int .u64 0]⟩ := ⟨by kernel_rfl, by kernel_rfl⟩
theorem T_14 : tab 14 = some ⟨.st [(0, 9), (1, 12)], 2, 24, [.string ByteArray.empty, .int .u64 0]⟩ := rfl
theorem ok_14 : TOk Try.prog 14 ⟨.st [(0, 9), (1, 12)], 2, 24, [.string ByteArray.empty, .int .u64 0]⟩ := ⟨by kernel_rfl, by kernel_rfl⟩
theorem T_15 : tab 15 = some ⟨.ptr 103, 1, 8, [.pointer none]⟩ := rfl
theorem ok_15 : TOk Try.prog 15 ⟨.ptr 103, 1, 8, [.pointer none]⟩ := ⟨by kernel_rfl, by kernel_rfl⟩
theorem T_16 : tab 16 = some ⟨.ptr 106, 1, 8, [.pointer none]⟩ := rfl
theorem ok_16 : TOk Try.prog 16 ⟨.ptr 106, 1, 8, [.pointer none]⟩ := ⟨by kernel_rfl, by kernel_rfl⟩
theorem T_17 : tab 17 = some ⟨.ptr 116, 1, 8, [.pointer none]⟩ := rfl
theorem ok_17 : TOk Try.prog 17 ⟨.ptr 116, 1, 8, [.pointer none]⟩ := ⟨by kernel_rfl, by kernel_rfl⟩
theorem T_18 : tab 18 = some ⟨.st [(0, 17)], 1, 8, [.pointer none]⟩ := rfl
theorem ok_18 : TOk Try.prog 18 ⟨.st [(0, 17)], 1, 8, [.pointer none]⟩ := ⟨by kernel_rfl, by kernel_rfl⟩
theorem T_19 : tab 19 = some ⟨.st [(0, 17)], 1, 8, [.pointer none]⟩ := rfl
theorem ok_19 : TOk Try.prog 19 ⟨.st [(0, 17)], 1, 8, [.pointer none]⟩ := ⟨by kernel_rfl, by kernel_rfl⟩
theorem T_20 : tab 20 = some ⟨.ifc, 1, 16, [.nilIface]⟩ := rfl
theorem ok_20 : TOk Try.prog 20 ⟨.ifc, 1, 16, [.nilIface]⟩ := ⟨by kernel_rfl, by kernel_rfl⟩
theorem T_21 : tab 21 = some ⟨.int .i32, 1, 4, [.int .i32 0]⟩ := rfl
theorem ok_21 : TOk Try.prog 21 ⟨.int .i32, 1, 4, [.int .i32 0]⟩ := ⟨by kernel_rfl, by kernel_rfl⟩
theorem T_22 : tab 22 = some ⟨.sl 79, 1, 24, [.slice none 0 0]⟩ := rfl
theorem ok_22 : TOk Try.prog 22 ⟨.sl 79, 1, 24, [.slice none 0 0]⟩ := ⟨by kernel_rfl, by kernel_rfl⟩
theorem T_23 : tab 23 = some ⟨.st [(0, 3), (1, 3), (2, 3), (3, 22)], 4, 48, [.int .i64 0, .int .i64 0, .int .i64 0, .slice none 0 0]⟩ := rfl
theorem ok_23 : TOk Try.prog 23 ⟨.st [(0, 3), (1, 3), (2, 3), (3, 22)], 4, 48, [.int .i64 0, .int .i64 0, .int .i64 0, .slice none 0 0]⟩ := ⟨by kernel_rfl, by kernel_rfl⟩
theorem T_24 : tab 24 = some ⟨.st [(0, 3), (1, 3), (2, 3), (3, 22)], 4, 48, [.int .i64 0, .int .i64 0, .int .i64 0, .slice none 0 0]⟩ := rfl
theorem ok_24 : TOk Try.prog 24 ⟨.st [(0, 3), (1, 3), (2, 3), (3, 22)], 4, 48, [.int .i64 0, .int .i64 0, .int .i64 0, .slice none 0 0]⟩ := ⟨by kernel_rfl, by kernel_rfl⟩
theorem T_25 : tab 25 = some ⟨.fn, 1, 8, [.nilFunc]⟩ := rfl
theorem ok_25 : TOk Try.prog 25 ⟨.fn, 1, 8, [.nilFunc]⟩ := ⟨by kernel_rfl, by kernel_rfl⟩
theorem T_26 : tab 26 = some ⟨.st [(0, 3), (1, 3), (2, 3), (3, 9)], 4, 40, [.int .i64 0, .int .i64 0, .int .i64 0, .string ByteArray.empty]⟩ := rfl
theorem ok_26 : TOk Try.prog 26 ⟨.st [(0, 3), (1, 3), (2, 3), (3, 9)], 4, 40, [.int .i64 0, .int .i64 0, .int .i64 0, .string ByteArray.empty]⟩ := ⟨by kernel_rfl, by kernel_rfl⟩
theorem T_27 : tab 27 = some ⟨.st [(0, 3), (1, 3), (2, 3), (3, 9)], 4, 40, [.int .i64 0, .int .i64 0, .int .i64 0, .string ByteArray.empty]⟩ := rfl
theorem ok_27 : TOk Try.prog 27 ⟨.st [(0, 3), (1, 3), (2, 3), (3, 9)], 4, 40, [.int .i64 0, .int .i64 0, .int .i64 0, .string ByteArray.empty]⟩ := ⟨by kernel_rfl, by kernel_rfl⟩
theorem T_28 : tab 28 = some ⟨.int .i64, 1, 8, [.int .i64 0]⟩ := rfl
theorem ok_28 : TOk Try.prog 28 ⟨.int .i64, 1, 8, [.int .i64 0]⟩ := ⟨by kernel_rfl, by kernel_rfl⟩
theorem T_29 : tab 29 = some ⟨.st [(0, 3), (1, 28)], 2, 16, [.int .i64 0, .int .i64 0]⟩ := rfl
theorem ok_29 : TOk Try.prog 29 ⟨.st [(0, 3), (1, 28)], 2, 16, [.int .i64 0, .int .i64 0]⟩ := ⟨by kernel_rfl, by kernel_rfl⟩
theorem T_30 : tab 30 = some ⟨.st [(0, 3), (1, 28)], 2, 16, [.int .i64 0, .int .i64 0]⟩ := rfl
theorem ok_30 : TOk Try.prog 30 ⟨.st [(0, 3), (1, 28)], 2, 16, [.int .i64 0, .int .i64 0]⟩ := ⟨by kernel_rfl, by kernel_rfl⟩
theorem T_32 : tab 32 = some ⟨.fn, 1, 8, [.nilFunc]⟩ := rfl
theorem ok_32 : TOk Try.prog 32 ⟨.fn, 1, 8, [.nilFunc]⟩ := ⟨by kernel_rfl, by kernel_rfl⟩
theorem T_33 : tab 33 = some ⟨.fn, 1, 8, [.nilFunc]⟩ := rfl
theorem ok_33 : TOk Try.prog 33 ⟨.fn, 1, 8, [.nilFunc]⟩ := ⟨by kernel_rfl, by kernel_rfl⟩
theorem T_34 : tab 34 = some ⟨.fn, 1, 8, [.nilFunc]⟩ := rfl
theorem ok_34 : TOk Try.prog 34 ⟨.fn, 1, 8, [.nilFunc]⟩ := ⟨by kernel_rfl, by kernel_rfl⟩
theorem T_35 : tab 35 = some ⟨.sl 5, 1, 24, [.slice none 0 0]⟩ := rfl
theorem ok_35 : TOk Try.prog 35 ⟨.sl 5, 1, 24, [.slice none 0 0]⟩ := ⟨by kernel_rfl, by kernel_rfl⟩
theorem T_36 : tab 36 = some ⟨.sl 47, 1, 24, [.slice none 0 0]⟩ := rfl
theorem ok_36 : TOk Try.prog 36 ⟨.sl 47, 1, 24, [.slice none 0 0]⟩ := ⟨by kernel_rfl, by kernel_rfl⟩
theorem T_37 : tab 37 = some ⟨.fn, 1, 8, [.nilFunc]⟩ := rfl
theorem ok_37 : TOk Try.prog 37 ⟨.fn, 1, 8, [.nilFunc]⟩ := ⟨by kernel_rfl, by kernel_rfl⟩
theorem T_38 : tab 38 = some ⟨.sl 35, 1, 24, [.slice none 0 0]⟩ := rfl
theorem ok_38 : TOk Try.prog 38 ⟨.sl 35, 1, 24, [.slice none 0 0]⟩ := ⟨by kernel_rfl, by kernel_rfl⟩
theorem T_39 : tab 39 = some ⟨.st [(0, 38)], 1, 24, [.slice none 0 0]⟩ := rfl
theorem ok_39 : TOk Try.prog 39 ⟨.st [(0, 38)], 1, 24, [.slice none 0 0]⟩ := ⟨by kernel_rfl, by kernel_rfl⟩
theorem T_40 : tab 40 = some ⟨.st [(0, 38)], 1, 24, [.slice none 0 0]⟩ := rfl
theorem ok_40 : TOk Try.prog 40 ⟨.st [(0, 38)], 1, 24, [.slice none 0 0]⟩ := ⟨by kernel_rfl, by kernel_rfl⟩
theorem T_42 : tab 42 = some ⟨.fn, 1, 8, [.nilFunc]⟩ := rfl
theorem ok_42 : TOk Try.prog 42 ⟨.fn, 1, 8, [.nilFunc]⟩ := ⟨by kernel_rfl, by kernel_rfl⟩
theorem T_43 : tab 43 = some ⟨.st [(0, 40), (1, 30), (3, 4), (4, 3), (5, 4)], 6, 64, [.slice none 0 0, .int .i64 0, .int .i64 0, .bool false, .int .i64 0, .bool false]⟩ := rfl
theorem ok_43 : TOk Try.prog 43 ⟨.st [(0, 40), (1, 30), (3, 4), (4, 3), (5, 4)], 6, 64, [.slice none 0 0, .int .i64 0, .int .i64 0, .bool false, .int .i64 0, .bool false]⟩ := ⟨by kernel_rfl, by kernel_rfl⟩
theorem T_44 : tab 44 = some ⟨.st [(0, 40), (1, 30), (3, 4), (4, 3), (5, 4)], 6, 64, [.slice none 0 0, .int .i64 0, .int .i64 0, .bool false, .int .i64 0, .bool false]⟩ := rfl
theorem ok_44 : TOk Try.prog 44 ⟨.st [(0, 40), (1, 30), (3, 4), (4, 3), (5, 4)], 6, 64, [.slice none 0 0, .int .i64 0, .int .i64 0, .bool false, .int .i64 0, .bool false]⟩ := ⟨by kernel_rfl, by kernel_rfl⟩
theorem T_45 : tab 45 = some ⟨.fn, 1, 8, [.nilFunc]⟩ := rfl
theorem ok_45 : TOk Try.prog 45 ⟨.fn, 1, 8, [.nilFunc]⟩ := ⟨by kernel_rfl, by kernel_rfl⟩
theorem T_46 : tab 46 = some ⟨.st [(0, 4), (1, 5), (2, 35)], 3, 32, [.bool false, .int .u8 0, .slice none 0 0]⟩ := rfl
theorem ok_46 : TOk Try.prog 46 ⟨.st [(0, 4), (1, 5), (2, 35)], 3, 32, [.bool false, .int .u8 0, .slice none 0 0]⟩ := ⟨by kernel_rfl, by kernel_rfl⟩
theorem T_47 : tab 47 = some ⟨.st [(0, 4), (1, 5), (2, 35)], 3, 32, [.bool false, .int .u8 0, .slice none 0 0]⟩ := rfl
theorem ok_47 : TOk Try.prog 47 ⟨.st [(0, 4), (1, 5), (2, 35)], 3, 32, [.bool false, .int .u8 0, .slice none 0 0]⟩ := ⟨by kernel_rfl, by kernel_rfl⟩
theorem T_48 : tab 48 = some ⟨.fn, 1, 8, [.nilFunc]⟩ := rfl
theorem ok_48 : TOk Try.prog 48 ⟨.fn, 1, 8, [.nilFunc]⟩ := ⟨by kernel_rfl, by kernel_rfl⟩
theorem T_49 : tab 49 = some ⟨.fn, 1, 8, [.nilFunc]⟩ := rfl
theorem ok_49 : TOk Try.prog 49 ⟨.fn, 1, 8, [.nilFunc]⟩ := ⟨by kernel_rfl, by kernel_rfl⟩
theorem T_50 : tab 50 = some ⟨.fn, 1, 8, [.nilFunc]⟩ := rfl
theorem ok_50 : TOk Try.prog 50 ⟨.fn, 1, 8, [.nilFunc]⟩ := ⟨by kernel_rfl, by kernel_rfl⟩
theorem T_51 : tab 51 = some ⟨.fn, 1, 8, [.nilFunc]⟩ := rfl
theorem ok_51 : TOk Try.prog 51 ⟨.fn, 1, 8, [.nilFunc]⟩ := ⟨by kernel_rfl, by kernel_rfl⟩
theorem T_52 : tab 52 = some ⟨.fn, 1, 8, [.nilFunc]⟩ := rfl
theorem ok_52 : TOk Try.prog 52 ⟨.fn, 1, 8, [.nilFunc]⟩ := ⟨by kernel_rfl, by kernel_rfl⟩
theorem T_53 : tab 53 = some ⟨.fn, 1, 8, [.nilFunc]⟩ := rfl
theorem ok_53 : TOk Try.prog 53 ⟨.fn, 1, 8, [.nilFunc]⟩ := ⟨by kernel_rfl, by kernel_rfl⟩
theorem T_54 : tab 54 = some ⟨.fn, 1, 8, [.nilFunc]⟩ := rfl
theorem ok_54 : TOk Try.prog 54 ⟨.fn, 1, 8, [.nilFunc]⟩ := ⟨by kernel_rfl, by kernel_rfl⟩
theorem T_55 : tab 55 = some ⟨.fn, 1, 8, [.nilFunc]⟩ := rfl
theorem ok_55 : TOk Try.prog 55 ⟨.fn, 1, 8, [.nilFunc]⟩ := ⟨by kernel_rfl, by kernel_rfl⟩
theorem T_56 : tab 56 = some ⟨.fn, 1, 8, [.nilFunc]⟩ := rfl
theorem ok_56 : TOk Try.prog 56 ⟨.fn, 1, 8, [.nilFunc]⟩ := ⟨by kernel_rfl, by kernel_rfl⟩
theorem T_57 : tab 57 = some ⟨.fn, 1, 8, [.nilFunc]⟩ := rfl
theorem ok_57 : TOk Try.prog 57 ⟨.fn, 1, 8, [.nilFunc]⟩ := ⟨by kernel_rfl, by kernel_rfl⟩
theorem T_58 : tab 58 = some ⟨.ptr 68, 1, 8, [.pointer none]⟩ := rfl
theorem ok_58 : TOk Try.prog 58 ⟨.ptr 68, 1, 8, [.pointer none]⟩ := ⟨by kernel_rfl, by kernel_rfl⟩
theorem T_59 : tab 59 = some ⟨.sl 9, 1, 24, [.slice none 0 0]⟩ := rfl
theorem ok_59 : TOk Try.prog 59 ⟨.sl 9, 1, 24, [.slice none 0 0]⟩ := ⟨by kernel_rfl, by kernel_rfl⟩
theorem T_60 : tab 60 = some ⟨.st [(0, 59)], 1, 24, [.slice none 0 0]⟩ := rfl
theorem ok_60 : TOk Try.prog 60 ⟨.st [(0, 59)], 1, 24, [.slice none 0 0]⟩ := ⟨by kernel_rfl, by kernel_rfl⟩
theorem T_61 : tab 61 = some ⟨.st [(0, 59)], 1, 24, [.slice none 0 0]⟩ := rfl
theorem ok_61 : TOk Try.prog 61 ⟨.st [(0, 59)], 1, 24, [.slice none 0 0]⟩ := ⟨by kernel_rfl, by kernel_rfl⟩
theorem T_62 : tab 62 = some ⟨.arr 16 5, 16, 16, List.replicate 16 (.int .u8 0)⟩ := rfl
theorem ok_62 : TOk Try.prog 62 ⟨.arr 16 5, 16, 16, List.replicate 16 (.int .u8 0)⟩ := ⟨by kernel_rfl, by kernel_rfl⟩
theorem T_63 : tab 63 = some ⟨.arr 16 5, 16, 16, List.replicate 16 (.int .u8 0)⟩ := rfl
theorem ok_63 : TOk Try.prog 63 ⟨.arr 16 5, 16, 16, List.replicate 16 (.int .u8 0)⟩ := ⟨by kernel_rfl, by kernel_rfl⟩
theorem T_64 : tab 64 = some ⟨.st [(0, 40), (1, 61), (2, 63)], 18, 64, [.slice none 0 0, .slice none 0 0, .int .u8 0, .int .u8 0, .int .u8 0, .int .u8 0, .int .u8 0, .int .u8 0, .int .u8 0, .int .u8 0, .int .u8 0, .int .u8 0, .int .u8 0, .int .u8 0, .int .u8 0, .int .u8 0, .int .u8 0, .int .u8 0]⟩ := rfl
theorem ok_64 : TOk Try.prog 64 ⟨.st [(0, 40), (1, 61), (2, 63)], 18, 64, [.slice none 0 0, .slice none 0 0, .int .u8 0, .int .u8 0, .int .u8 0, .int .u8 0, .int .u8 0, .int .u8 0, .int .u8 0, .int .u8 0, .int .u8 0, .int .u8 0, .int .u8 0, .int .u8 0, .int .u8 0, .int .u8 0, .int .u8 0, .int .u8 0]⟩ := ⟨by kernel_rfl, by kernel_rfl⟩
theorem T_65 : tab 65 = some ⟨.st [(0, 40), (1, 61), (2, 63)], 18, 64, [.slice none 0 0, .slice none 0 0, .int .u8 0, .int .u8 0, .int .u8 0, .int .u8 0, .int .u8 0, .int .u8 0, .int .u8 0, .int .u8 0, .int .u8 0, .int .u8 0, .int .u8 0, .int .u8 0, .int .u8 0, .int .u8 0, .int .u8 0, .int .u8 0]⟩ := rfl
theorem ok_65 : TOk Try.prog 65 ⟨.st [(0, 40), (1, 61), (2, 63)], 18, 64, [.slice none 0 0, .slice none 0 0, .int .u8 0, .int .u8 0, .int .u8 0, .int .u8 0, .int .u8 0, .int .u8 0, .int .u8 0, .int .u8 0, .int .u8 0, .int .u8 0, .int .u8 0, .int .u8 0, .int .u8 0, .int .u8 0, .int .u8 0, .int .u8 0]⟩ := ⟨by kernel_rfl, by kernel_rfl⟩
theorem T_66 : tab 66 = some ⟨.sl 76, 1, 24, [.slice none 0 0]⟩ := rfl
theorem ok_66 : TOk Try.prog 66 ⟨.sl 76, 1, 24, [.slice none 0 0]⟩ := ⟨by kernel_rfl, by kernel_rfl⟩
theorem T_67 : tab 67 = some ⟨.st [(0, 22), (1, 3), (2, 27), (6, 4), (7, 4), (8, 65), (26, 66), (27, 4)], 28, 176, [.slice none 0 0, .int .i64 0, .int .i64 0, .int .i64 0, .int .i64 0, .string ByteArray.empty, .bool false, .bool false, .slice none 0 0, .slice none 0 0, .int .u8 0, .int .u8 0, .int .u8 0, .int .u8 0, .int .u8 0, .int .u8 0, .int .u8 0, .int .u8 0, .int .u8 0, .int .u8 0, .int .u8 0, .int .u8 0, .int .u8 0, .int .u8 0, .int .u8 0, .int .u8 0, .slice none 0 0, .bool false]⟩ := rfl
theorem ok_67 : TOk Try.prog 67 ⟨.st [(0, 22), (1, 3), (2, 27), (6, 4), (7, 4), (8, 65), (26, 66), (27, 4)], 28, 176, [.slice none 0 0, .int .i64 0, .int .i64 0, .int .i64 0, .int .i64 0, .string ByteArray.empty, .bool false, .bool false, .slice none 0 0, .slice none 0 0, .int .u8 0, .int .u8 0, .int .u8 0, .int .u8 0, .int .u8 0, .int .u8 0, .int .u8 0, .int .u8 0, .int .u8 0, .int .u8 0, .int .u8 0, .int .u8 0, .int .u8 0, .int .u8 0, .int .u8 0, .int .u8 0, .slice none 0 0, .bool false]⟩ := ⟨by kernel_rfl, by kernel_rfl⟩
theorem T_68 : tab 68 = some ⟨.st [(0, 22), (1, 3), (2, 27), (6, 4), (7, 4), (8, 65), (26, 66), (27, 4)], 28, 176, [.slice none 0 0, .int .i64 0, .int .i64 0, .int .i64 0, .int .i64 0, .string ByteArray.empty, .bool false, .bool false, .slice none 0 0, .slice none 0 0, .int .u8 0, .int .u8 0, .int .u8 0, .int .u8 0, .int .u8 0, .int .u8 0, .int .u8 0, .int .u8 0, .int .u8 0, .int .u8 0, .int .u8 0, .int .u8 0, .int .u8 0, .int .u8 0, .int .u8 0, .int .u8 0, .slice none 0 0, .bool false]⟩ := rfl
theorem ok_68 : TOk Try.prog 68 ⟨.st [(0, 22), (1, 3), (2, 27), (6, 4), (7, 4), (8, 65), (26, 66), (27, 4)], 28, 176, [.slice none 0 0, .int .i64 0, .int .i64 0, .int .i64 0, .int .i64 0, .string ByteArray.empty, .bool false, .bool false, .slice none 0 0, .slice none 0 0, .int .u8 0, .int .u8 0, .int .u8 0, .int .u8 0, .int .u8 0, .int .u8 0, .int .u8 0, .int .u8 0, .int .u8 0, .int .u8 0, .int .u8 0, .int .u8 0, .int .u8 0, .int .u8 0, .int .u8 0, .int .u8 0, .slice none 0 0, .bool false]⟩ := ⟨by kernel_rfl, by kernel_rfl⟩
theorem T_69 : tab 69 = some ⟨.fn, 1, 8, [.nilFunc]⟩ := rfl
theorem ok_69 : TOk Try.prog 69 ⟨.fn, 1, 8, [.nilFunc]⟩ := ⟨by kernel_rfl, by kernel_rfl⟩
theorem T_70 : tab 70 = some ⟨.fn, 1, 8, [.nilFunc]⟩ := rfl
theorem ok_70 : TOk Try.prog 70 ⟨.fn, 1, 8, [.nilFunc]⟩ := ⟨by kernel_rfl, by kernel_rfl⟩
theorem T_72 : tab 72 = some ⟨.fn, 1, 8, [.nilFunc]⟩ := rfl
theorem ok_72 : TOk Try.prog 72 ⟨.fn, 1, 8, [.nilFunc]⟩ := ⟨by kernel_rfl, by kernel_rfl⟩
theorem T_73 : tab 73 = some ⟨.fn, 1, 8, [.nilFunc]⟩ := rfl
theorem ok_73 : TOk Try.prog 73 ⟨.fn, 1, 8, [.nilFunc]⟩ := ⟨by kernel_rfl, by kernel_rfl⟩
theorem T_74 : tab 74 = some ⟨.fn, 1, 8, [.nilFunc]⟩ := rfl
theorem ok_74 : TOk Try.prog 74 ⟨.fn, 1, 8, [.nilFunc]⟩ := ⟨by kernel_rfl, by kernel_rfl⟩
theorem T_75 : tab 75 = some ⟨.st [(0, 4), (1, 3), (2, 4)], 3, 24, [.bool false, .int .i64 0, .bool false]⟩ := rfl
theorem ok_75 : TOk Try.prog 75 ⟨.st [(0, 4), (1, 3), (2, 4)], 3, 24, [.bool false, .int .i64 0, .bool false]⟩ := ⟨by kernel_rfl, by kernel_rfl⟩
theorem T_76 : tab 76 = some ⟨.st [(0, 4), (1, 3), (2, 4)], 3, 24, [.bool false, .int .i64 0, .bool false]⟩ := rfl
theorem ok_76 : TOk Try.prog 76 ⟨.st [(0, 4), (1, 3), (2, 4)], 3, 24, [.bool false, .int .i64 0, .bool false]⟩ := ⟨by kernel_rfl, by kernel_rfl⟩
theorem T_77 : tab 77 = some ⟨.fn, 1, 8, [.nilFunc]⟩ := rfl
theorem ok_77 : TOk Try.prog 77 ⟨.fn, 1, 8, [.nilFunc]⟩ := ⟨by kernel_rfl, by kernel_rfl⟩
theorem T_78 : tab 78 = some ⟨.st [(0, 3), (1, 9)], 2, 24, [.int .i64 0, .string ByteArray.empty]⟩ := rfl
theorem ok_78 : TOk Try.prog 78 ⟨.st [(0, 3), (1, 9)], 2, 24, [.int .i64 0, .string ByteArray.empty]⟩ := ⟨by kernel_rfl, by kernel_rfl⟩
theorem T_79 : tab 79 = some ⟨.st [(0, 3), (1, 9)], 2, 24, [.int .i64 0, .string ByteArray.empty]⟩ := rfl
theorem ok_79 : TOk Try.prog 79 ⟨.st [(0, 3), (1, 9)], 2, 24, [.int .i64 0, .string ByteArray.empty]⟩ := ⟨by kernel_rfl, by kernel_rfl⟩
theorem T_81 : tab 81 = some ⟨.fn, 1, 8, [.nilFunc]⟩ := rfl
theorem ok_81 : TOk Try.prog 81 ⟨.fn, 1, 8, [.nilFunc]⟩ := ⟨by kernel_rfl, by kernel_rfl⟩
theorem T_82 : tab 82 = some ⟨.fn, 1, 8, [.nilFunc]⟩ := rfl
theorem ok_82 : TOk Try.prog 82 ⟨.fn, 1, 8, [.nilFunc]⟩ := ⟨by kernel_rfl, by kernel_rfl⟩
theorem T_83 : tab 83 = some ⟨.st [(0, 27)], 4, 40, [.int .i64 0, .int .i64 0, .int .i64 0, .string ByteArray.empty]⟩ := rfl
theorem ok_83 : TOk Try.prog 83 ⟨.st [(0, 27)], 4, 40, [.int .i64 0, .int .i64 0, .int .i64 0, .string ByteArray.empty]⟩ := ⟨by kernel_rfl, by kernel_rfl⟩
theorem T_84 : tab 84 = some ⟨.st [(0, 27)], 4, 40, [.int .i64 0, .int .i64 0, .int .i64 0, .string ByteArray.empty]⟩ := rfl
theorem ok_84 : TOk Try.prog 84 ⟨.st [(0, 27)], 4, 40, [.int .i64 0, .int .i64 0, .int .i64 0, .string ByteArray.empty]⟩ := ⟨by kernel_rfl, by kernel_rfl⟩
theorem T_85 : tab 85 = some ⟨.fn, 1, 8, [.nilFunc]⟩ := rfl
theorem ok_85 : TOk Try.prog 85 ⟨.fn, 1, 8, [.nilFunc]⟩ := ⟨by kernel_rfl, by kernel_rfl⟩
theorem T_86 : tab 86 = some ⟨.fn, 1, 8, [.nilFunc]⟩ := rfl
theorem ok_86 : TOk Try.prog 86 ⟨.fn, 1, 8, [.nilFunc]⟩ := ⟨by kernel_rfl, by kernel_rfl⟩
theorem T_87 : tab 87 = some ⟨.fn, 1, 8, [.nilFunc]⟩ := rfl
theorem ok_87 : TOk Try.prog 87 ⟨.fn, 1, 8, [.nilFunc]⟩ := ⟨by kernel_rfl, by kernel_rfl⟩
theorem T_88 : tab 88 = some ⟨.fn, 1, 8, [.nilFunc]⟩ := rfl
theorem ok_88 : TOk Try.prog 88 ⟨.fn, 1, 8, [.nilFunc]⟩ := ⟨by kernel_rfl, by kernel_rfl⟩
theorem T_89 : tab 89 = some ⟨.fn, 1, 8, [.nilFunc]⟩ := rfl
theorem ok_89 : TOk Try.prog 89 ⟨.fn, 1, 8, [.nilFunc]⟩ := ⟨by kernel_rfl, by kernel_rfl⟩
theorem T_91 : tab 91 = some ⟨.fn, 1, 8, [.nilFunc]⟩ := rfl
theorem ok_91 : TOk Try.prog 91 ⟨.fn, 1, 8, [.nilFunc]⟩ := ⟨by kernel_rfl, by kernel_rfl⟩
theorem T_93 : tab 93 = some ⟨.fn, 1, 8, [.nilFunc]⟩ := rfl
theorem ok_93 : TOk Try.prog 93 ⟨.fn, 1, 8, [.nilFunc]⟩ := ⟨by kernel_rfl, by kernel_rfl⟩
theorem T_95 : tab 95 = some ⟨.fn, 1, 8, [.nilFunc]⟩ := rfl
theorem ok_95 : TOk Try.prog 95 ⟨.fn, 1, 8, [.nilFunc]⟩ := ⟨by kernel_rfl, by kernel_rfl⟩
theorem T_96 : tab 96 = some ⟨.sl 3, 1, 24, [.slice none 0 0]⟩ := rfl
theorem ok_96 : TOk Try.prog 96 ⟨.sl 3, 1, 24, [.slice none 0 0]⟩ := ⟨by kernel_rfl, by kernel_rfl⟩
theorem T_97 : tab 97 = some ⟨.fn, 1, 8, [.nilFunc]⟩ := rfl
theorem ok_97 : TOk Try.prog 97 ⟨.fn, 1, 8, [.nilFunc]⟩ := ⟨by kernel_rfl, by kernel_rfl⟩
theorem T_98 : tab 98 = some ⟨.fn, 1, 8, [.nilFunc]⟩ := rfl
theorem ok_98 : TOk Try.prog 98 ⟨.fn, 1, 8, [.nilFunc]⟩ := ⟨by kernel_rfl, by kernel_rfl⟩
theorem T_99 : tab 99 = some ⟨.fn, 1, 8, [.nilFunc]⟩ := rfl
theorem ok_99 : TOk Try.prog 99 ⟨.fn, 1, 8, [.nilFunc]⟩ := ⟨by kernel_rfl, by kernel_rfl⟩
theorem T_100 : tab 100 = some ⟨.fn, 1, 8, [.nilFunc]⟩ := rfl
theorem ok_100 : TOk Try.prog 100 ⟨.fn, 1, 8, [.nilFunc]⟩ := ⟨by kernel_rfl, by kernel_rfl⟩
theorem T_101 : tab 101 = some ⟨.fn, 1, 8, [.nilFunc]⟩ := rfl
theorem ok_101 : TOk Try.prog 101 ⟨.fn, 1, 8, [.nilFunc]⟩ := ⟨by kernel_rfl, by kernel_rfl⟩
theorem T_102 : tab 102 = some ⟨.st [(0, 17), (1, 17), (2, 17), (3, 9)], 4, 40, [.pointer none, .pointer none, .pointer none, .string ByteArray.empty]⟩ := rfl
theorem ok_102 : TOk Try.prog 102 ⟨.st [(0, 17), (1, 17), (2, 17), (3, 9)], 4, 40, [.pointer none, .pointer none, .pointer none, .string ByteArray.empty]⟩ := ⟨by kernel_rfl, by kernel_rfl⟩
theorem T_103 : tab 103 = some ⟨.st [(0, 17), (1, 17), (2, 17), (3, 9)], 4, 40, [.pointer none, .pointer none, .pointer none, .string ByteArray.empty]⟩ := rfl
theorem ok_103 : TOk Try.prog 103 ⟨.st [(0, 17), (1, 17), (2, 17), (3, 9)], 4, 40, [.pointer none, .pointer none, .pointer none, .string ByteArray.empty]⟩ := ⟨by kernel_rfl, by kernel_rfl⟩
theorem T_104 : tab 104 = some ⟨.arr 0 16, 0, 0, []⟩ := rfl
theorem ok_104 : TOk Try.prog 104 ⟨.arr 0 16, 0, 0, []⟩ := ⟨by kernel_rfl, by kernel_rfl⟩
theorem T_105 : tab 105 = some ⟨.st [(0, 104)], 0, 0, []⟩ := rfl
theorem ok_105 : TOk Try.prog 105 ⟨.st [(0, 104)], 0, 0, []⟩ := ⟨by kernel_rfl, by kernel_rfl⟩
theorem T_106 : tab 106 = some ⟨.st [(0, 104)], 0, 0, []⟩ := rfl
theorem ok_106 : TOk Try.prog 106 ⟨.st [(0, 104)], 0, 0, []⟩ := ⟨by kernel_rfl, by kernel_rfl⟩
theorem T_107 : tab 107 = some ⟨.fn, 1, 8, [.nilFunc]⟩ := rfl
theorem ok_107 : TOk Try.prog 107 ⟨.fn, 1, 8, [.nilFunc]⟩ := ⟨by kernel_rfl, by kernel_rfl⟩
theorem T_108 : tab 108 = some ⟨.int .u32, 1, 4, [.int .u32 0]⟩ := rfl
theorem ok_108 : TOk Try.prog 108 ⟨.int .u32, 1, 4, [.int .u32 0]⟩ := ⟨by kernel_rfl, by kernel_rfl⟩
theorem T_109 : tab 109 = some ⟨.int .u8, 1, 1, [.int .u8 0]⟩ := rfl
theorem ok_109 : TOk Try.prog 109 ⟨.int .u8, 1, 1, [.int .u8 0]⟩ := ⟨by kernel_rfl, by kernel_rfl⟩
theorem T_110 : tab 110 = some ⟨.int .u8, 1, 1, [.int .u8 0]⟩ := rfl
theorem ok_110 : TOk Try.prog 110 ⟨.int .u8, 1, 1, [.int .u8 0]⟩ := ⟨by kernel_rfl, by kernel_rfl⟩
theorem T_111 : tab 111 = some ⟨.fn, 1, 8, [.nilFunc]⟩ := rfl
theorem ok_111 : TOk Try.prog 111 ⟨.fn, 1, 8, [.nilFunc]⟩ := ⟨by kernel_rfl, by kernel_rfl⟩
theorem T_112 : tab 112 = some ⟨.ptr 5, 1, 8, [.pointer none]⟩ := rfl
theorem ok_112 : TOk Try.prog 112 ⟨.ptr 5, 1, 8, [.pointer none]⟩ := ⟨by kernel_rfl, by kernel_rfl⟩
theorem T_113 : tab 113 = some ⟨.int .i32, 1, 4, [.int .i32 0]⟩ := rfl
theorem ok_113 : TOk Try.prog 113 ⟨.int .i32, 1, 4, [.int .i32 0]⟩ := ⟨by kernel_rfl, by kernel_rfl⟩
theorem T_114 : tab 114 = some ⟨.int .i32, 1, 4, [.int .i32 0]⟩ := rfl
theorem ok_114 : TOk Try.prog 114 ⟨.int .i32, 1, 4, [.int .i32 0]⟩ := ⟨by kernel_rfl, by kernel_rfl⟩
theorem T_115 : tab 115 = some ⟨.st [(0, 12), (1, 12), (2, 108), (3, 109), (4, 5), (5, 5), (6, 110), (7, 111), (8, 112), (9, 113), (10, 114)], 11, 48, [.int .u64 0, .int .u64 0, .int .u32 0, .int .u8 0, .int .u8 0, .int .u8 0, .int .u8 0, .nilFunc, .pointer none, .int .i32 0, .int .i32 0]⟩ := rfl
theorem ok_115 : TOk Try.prog 115 ⟨.st [(0, 12), (1, 12), (2, 108), (3, 109), (4, 5), (5, 5), (6, 110), (7, 111), (8, 112), (9, 113), (10, 114)], 11, 48, [.int .u64 0, .int .u64 0, .int .u32 0, .int .u8 0, .int .u8 0, .int .u8 0, .int .u8 0, .nilFunc, .pointer none, .int .i32 0, .int .i32 0]⟩ := ⟨by kernel_rfl, by kernel_rfl⟩
theorem T_116 : tab 116 = some ⟨.st [(0, 12), (1, 12), (2, 108), (3, 109), (4, 5), (5, 5), (6, 110), (7, 111), (8, 112), (9, 113), (10, 114)], 11, 48, [.int .u64 0, .int .u64 0, .int .u32 0, .int .u8 0, .int .u8 0, .int .u8 0, .int .u8 0, .nilFunc, .pointer none, .int .i32 0, .int .i32 0]⟩ := rfl
theorem ok_116 : TOk Try.prog 116 ⟨.st [(0, 12), (1, 12), (2, 108), (3, 109), (4, 5), (5, 5), (6, 110), (7, 111), (8, 112), (9, 113), (10, 114)], 11, 48, [.int .u64 0, .int .u64 0, .int .u32 0, .int .u8 0, .int .u8 0, .int .u8 0, .int .u8 0, .nilFunc, .pointer none, .int .i32 0, .int .i32 0]⟩ := ⟨by kernel_rfl, by kernel_rfl⟩
def eqt : List TypeId := [27, 30, 28, 3, 4]

theorem Q_27 : eqt.contains 27 = true := rfl
theorem Q_30 : eqt.contains 30 = true := rfl
theorem Q_28 : eqt.contains 28 = true := rfl
theorem Q_3 : eqt.contains 3 = true := rfl
theorem Q_4 : eqt.contains 4 = true := rfl

set_option linter.defProp false in
def TS := And.intro T_1 (And.intro T_2 (And.intro T_3 (And.intro T_4 (And.intro T_5 (And.intro T_6 (And.intro T_7 (And.intro T_8 (And.intro T_9 (And.intro T_10 (And.intro T_11 (And.intro T_12 (And.intro T_13 (And.intro T_14 (And.intro T_15 (And.intro T_16 (And.intro T_17 (And.intro T_18 (And.intro T_19 (And.intro T_20 (And.intro T_21 (And.intro T_22 (And.intro T_23 (And.intro T_24 (And.intro T_25 (And.intro T_26 (And.intro T_27 (And.intro T_28 (And.intro T_29 (And.intro T_30 (And.intro T_32 (And.intro T_33 (And.intro T_34 (And.intro T_35 (And.intro T_36 (And.intro T_37 (And.intro T_38 (And.intro T_39 (And.intro T_40 (And.intro T_42 (And.intro T_43 (And.intro T_44 (And.intro T_45 (And.intro T_46 (And.intro T_47 (And.intro T_48 (And.intro T_49 (And.intro T_50 (And.intro T_51 (And.intro T_52 (And.intro T_53 (And.intro T_54 (And.intro T_55 (And.intro T_56 (And.intro T_57 (And.intro T_58 (And.intro T_59 (And.intro T_60 (And.intro T_61 (And.intro T_62 (And.intro T_63 (And.intro T_64 (And.intro T_65 (And.intro T_66 (And.intro T_67 (And.intro T_68 (And.intro T_69 (And.intro T_70 (And.intro T_72 (And.intro T_73 (And.intro T_74 (And.intro T_75 (And.intro T_76 (And.intro T_77 (And.intro T_78 (And.intro T_79 (And.intro T_81 (And.intro T_82 (And.intro T_83 (And.intro T_84 (And.intro T_85 (And.intro T_86 (And.intro T_87 (And.intro T_88 (And.intro T_89 (And.intro T_91 (And.intro T_93 (And.intro T_95 (And.intro T_96 (And.intro T_97 (And.intro T_98 (And.intro T_99 (And.intro T_100 (And.intro T_101 (And.intro T_102 (And.intro T_103 (And.intro T_104 (And.intro T_105 (And.intro T_106 (And.intro T_107 (And.intro T_108 (And.intro T_109 (And.intro T_110 (And.intro T_111 (And.intro T_112 (And.intro T_113 (And.intro T_114 (And.intro T_115 (And.intro Q_4 (And.intro Q_3 (And.intro Q_28 (And.intro Q_30 (And.intro Q_27 (T_116)))))))))))))))))))))))))))))))))))))))))))))))))))))))))))))))))))))))))))))))))))))))))))))))))))))))))))))))))


theorem tabOk : TTab Try.prog tab := by
  intro t ti h
  unfold tab at h
  split at h
  · cases h; exact ok_1
  · cases h; exact ok_2
  · cases h; exact ok_3
  · cases h; exact ok_4
  · cases h; exact ok_5
  · cases h; exact ok_6
  · cases h; exact ok_7
  · cases h; exact ok_8
  · cases h; exact ok_9
  · cases h; exact ok_10
  · cases h; exact ok_11
  · cases h; exact ok_12
  · cases h; exact ok_13
  · cases h; exact ok_14
  · cases h; exact ok_15
  · cases h; exact ok_16
  · cases h; exact ok_17
  · cases h; exact ok_18
  · cases h; exact ok_19
  · cases h; exact ok_20
  · cases h; exact ok_21
  · cases h; exact ok_22
  · cases h; exact ok_23
  · cases h; exact ok_24
  · cases h; exact ok_25
  · cases h; exact ok_26
  · cases h; exact ok_27
  · cases h; exact ok_28
  · cases h; exact ok_29
  · cases h; exact ok_30
  · cases h; exact ok_32
  · cases h; exact ok_33
  · cases h; exact ok_34
  · cases h; exact ok_35
  · cases h; exact ok_36
  · cases h; exact ok_37
  · cases h; exact ok_38
  · cases h; exact ok_39
  · cases h; exact ok_40
  · cases h; exact ok_42
  · cases h; exact ok_43
  · cases h; exact ok_44
  · cases h; exact ok_45
  · cases h; exact ok_46
  · cases h; exact ok_47
  · cases h; exact ok_48
  · cases h; exact ok_49
  · cases h; exact ok_50
  · cases h; exact ok_51
  · cases h; exact ok_52
  · cases h; exact ok_53
  · cases h; exact ok_54
  · cases h; exact ok_55
  · cases h; exact ok_56
  · cases h; exact ok_57
  · cases h; exact ok_58
  · cases h; exact ok_59
  · cases h; exact ok_60
  · cases h; exact ok_61
  · cases h; exact ok_62
  · cases h; exact ok_63
  · cases h; exact ok_64
  · cases h; exact ok_65
  · cases h; exact ok_66
  · cases h; exact ok_67
  · cases h; exact ok_68
  · cases h; exact ok_69
  · cases h; exact ok_70
  · cases h; exact ok_72
  · cases h; exact ok_73
  · cases h; exact ok_74
  · cases h; exact ok_75
  · cases h; exact ok_76
  · cases h; exact ok_77
  · cases h; exact ok_78
  · cases h; exact ok_79
  · cases h; exact ok_81
  · cases h; exact ok_82
  · cases h; exact ok_83
  · cases h; exact ok_84
  · cases h; exact ok_85
  · cases h; exact ok_86
  · cases h; exact ok_87
  · cases h; exact ok_88
  · cases h; exact ok_89
  · cases h; exact ok_91
  · cases h; exact ok_93
  · cases h; exact ok_95
  · cases h; exact ok_96
  · cases h; exact ok_97
  · cases h; exact ok_98
  · cases h; exact ok_99
  · cases h; exact ok_100
  · cases h; exact ok_101
  · cases h; exact ok_102
  · cases h; exact ok_103
  · cases h; exact ok_104
  · cases h; exact ok_105
  · cases h; exact ok_106
  · cases h; exact ok_107
  · cases h; exact ok_108
  · cases h; exact ok_109
  · cases h; exact ok_110
  · cases h; exact ok_111
  · cases h; exact ok_112
  · cases h; exact ok_113
  · cases h; exact ok_114
  · cases h; exact ok_115
  · cases h; exact ok_116
  · cases h

theorem eqtOk : ∀ t, eqt.contains t = true → Try.prog.eqGuardType Try.prog.depth t = false ∧ (∀ fs, Try.prog.underlying t = some (.struct fs) → EqOk Try.prog t) := by
  intro t h
  simp only [eqt, List.contains_cons, List.contains_nil, Bool.or_false, Bool.or_eq_true, beq_iff_eq] at h
  rcases h with rfl | rfl | rfl | rfl | rfl
  · exact ⟨by kernel_rfl, fun _ _ => ⟨by kernel_rfl, by kernel_rfl, by kernel_rfl⟩⟩
  · exact ⟨by kernel_rfl, fun _ _ => ⟨by kernel_rfl, by kernel_rfl, by kernel_rfl⟩⟩
  · refine ⟨by kernel_rfl, fun fs hfs => ?_⟩
    have h2 := ok_28.2
    rw [hfs] at h2
    simp [TD.of] at h2
  · refine ⟨by kernel_rfl, fun fs hfs => ?_⟩
    have h2 := ok_3.2
    rw [hfs] at h2
    simp [TD.of] at h2
  · refine ⟨by kernel_rfl, fun fs hfs => ?_⟩
    have h2 := ok_4.2
    rw [hfs] at h2
    simp [TD.of] at h2

theorem TB : Tab Try.prog tab eqt := ⟨tabOk, eqtOk⟩

theorem enters_of {P : Program} {f : FuncId} {fn : Func} (hf : P.funcs[f]? = some fn) (hn : (fn.name == "runtime.NumGoroutine") = false) (hb : fn.body.isNone = false) : Enters P f := by
  intro args w
  have h1 : ¬ fn.name = "runtime.NumGoroutine" := by simpa using hn
  have h2 : ¬ fn.body = none := by intro h; simp [h] at hb
  simp [callFunc, hf, h1, h2]

theorem en_3 : Enters Try.prog 3 := enters_of Try.func3 (by kernel_rfl) (by kernel_rfl)
theorem en_4 : Enters Try.prog 4 := enters_of Try.func4 (by kernel_rfl) (by kernel_rfl)
theorem en_5 : Enters Try.prog 5 := enters_of Try.func5 (by kernel_rfl) (by kernel_rfl)
theorem en_6 : Enters Try.prog 6 := enters_of Try.func6 (by kernel_rfl) (by kernel_rfl)
theorem en_7 : Enters Try.prog 7 := enters_of Try.func7 (by kernel_rfl) (by kernel_rfl)
theorem en_8 : Enters Try.prog 8 := enters_of Try.func8 (by kernel_rfl) (by kernel_rfl)
theorem en_9 : Enters Try.prog 9 := enters_of Try.func9 (by kernel_rfl) (by kernel_rfl)
theorem en_10 : Enters Try.prog 10 := enters_of Try.func10 (by kernel_rfl) (by kernel_rfl)
theorem en_11 : Enters Try.prog 11 := enters_of Try.func11 (by kernel_rfl) (by kernel_rfl)
theorem en_12 : Enters Try.prog 12 := enters_of Try.func12 (by kernel_rfl) (by kernel_rfl)
theorem en_13 : Enters Try.prog 13 := enters_of Try.func13 (by kernel_rfl) (by kernel_rfl)
theorem en_14 : Enters Try.prog 14 := enters_of Try.func14 (by kernel_rfl) (by kernel_rfl)
theorem en_15 : Enters Try.prog 15 := enters_of Try.func15 (by kernel_rfl) (by kernel_rfl)
theorem en_16 : Enters Try.prog 16 := enters_of Try.func16 (by kernel_rfl) (by kernel_rfl)
theorem en_17 : Enters Try.prog 17 := enters_of Try.func17 (by kernel_rfl) (by kernel_rfl)
theorem en_18 : Enters Try.prog 18 := enters_of Try.func18 (by kernel_rfl) (by kernel_rfl)
theorem en_19 : Enters Try.prog 19 := enters_of Try.func19 (by kernel_rfl) (by kernel_rfl)
theorem en_20 : Enters Try.prog 20 := enters_of Try.func20 (by kernel_rfl) (by kernel_rfl)
theorem en_21 : Enters Try.prog 21 := enters_of Try.func21 (by kernel_rfl) (by kernel_rfl)
theorem en_22 : Enters Try.prog 22 := enters_of Try.func22 (by kernel_rfl) (by kernel_rfl)
theorem en_23 : Enters Try.prog 23 := enters_of Try.func23 (by kernel_rfl) (by kernel_rfl)
theorem en_24 : Enters Try.prog 24 := enters_of Try.func24 (by kernel_rfl) (by kernel_rfl)
theorem en_25 : Enters Try.prog 25 := enters_of Try.func25 (by kernel_rfl) (by kernel_rfl)
theorem en_26 : Enters Try.prog 26 := enters_of Try.func26 (by kernel_rfl) (by kernel_rfl)
theorem en_27 : Enters Try.prog 27 := enters_of Try.func27 (by kernel_rfl) (by kernel_rfl)
theorem en_28 : Enters Try.prog 28 := enters_of Try.func28 (by kernel_rfl) (by kernel_rfl)
theorem en_29 : Enters Try.prog 29 := enters_of Try.func29 (by kernel_rfl) (by kernel_rfl)
theorem en_30 : Enters Try.prog 30 := enters_of Try.func30 (by kernel_rfl) (by kernel_rfl)
theorem en_31 : Enters Try.prog 31 := enters_of Try.func31 (by kernel_rfl) (by kernel_rfl)
theorem en_32 : Enters Try.prog 32 := enters_of Try.func32 (by kernel_rfl) (by kernel_rfl)
theorem en_33 : Enters Try.prog 33 := enters_of Try.func33 (by kernel_rfl) (by kernel_rfl)
theorem en_34 : Enters Try.prog 34 := enters_of Try.func34 (by kernel_rfl) (by kernel_rfl)
theorem en_35 : Enters Try.prog 35 := enters_of Try.func35 (by kernel_rfl) (by kernel_rfl)
theorem en_36 : Enters Try.prog 36 := enters_of Try.func36 (by kernel_rfl) (by kernel_rfl)
theorem en_37 : Enters Try.prog 37 := enters_of Try.func37 (by kernel_rfl) (by kernel_rfl)
theorem en_38 : Enters Try.prog 38 := enters_of Try.func38 (by kernel_rfl) (by kernel_rfl)
theorem en_39 : Enters Try.prog 39 := enters_of Try.func39 (by kernel_rfl) (by kernel_rfl)
theorem en_40 : Enters Try.prog 40 := enters_of Try.func40 (by kernel_rfl) (by kernel_rfl)
theorem en_41 : Enters Try.prog 41 := enters_of Try.func41 (by kernel_rfl) (by kernel_rfl)
theorem en_42 : Enters Try.prog 42 := enters_of Try.func42 (by kernel_rfl) (by kernel_rfl)
theorem en_43 : Enters Try.prog 43 := enters_of Try.func43 (by kernel_rfl) (by kernel_rfl)
theorem en_44 : Enters Try.prog 44 := enters_of Try.func44 (by kernel_rfl) (by kernel_rfl)
theorem en_45 : Enters Try.prog 45 := enters_of Try.func45 (by kernel_rfl) (by kernel_rfl)
theorem en_46 : Enters Try.prog 46 := enters_of Try.func46 (by kernel_rfl) (by kernel_rfl)
theorem en_47 : Enters Try.prog 47 := enters_of Try.func47 (by kernel_rfl) (by kernel_rfl)
theorem en_48 : Enters Try.prog 48 := enters_of Try.func48 (by kernel_rfl) (by kernel_rfl)
theorem en_49 : Enters Try.prog 49 := enters_of Try.func49 (by kernel_rfl) (by kernel_rfl)
theorem en_50 : Enters Try.prog 50 := enters_of Try.func50 (by kernel_rfl) (by kernel_rfl)

end Go.Proofs.Ytdnmnafadondkaa
