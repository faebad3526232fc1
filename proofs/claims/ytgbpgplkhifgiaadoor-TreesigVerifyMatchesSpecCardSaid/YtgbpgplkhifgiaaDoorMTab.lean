/- The table of the types of this translation, as the walk reads it, and that a call of each function enters its body. No condition. -/
import Derived.Test.YtgbpgplkhifgiaaDoorMC
import Derived.Test.YtgbpgplkhifgiaaDoorProg
set_option maxRecDepth 100000
set_option maxHeartbeats 4000000
namespace Go.Proofs.YtgbpgplkhifgiaaDoor
open Go

def tab (t : TypeId) : Option TI :=
  match t with
  | 1 => some ⟨.fn, 1, 8, [.nilFunc]⟩
  | 2 => some ⟨.int .i64, 1, 8, [.int .i64 0]⟩
  | 3 => some ⟨.int .i64, 1, 8, [.int .i64 0]⟩
  | 4 => some ⟨.bool, 1, 1, [.bool false]⟩
  | 5 => some ⟨.int .u8, 1, 1, [.int .u8 0]⟩
  | 6 => some ⟨.int .u8, 1, 1, [.int .u8 0]⟩
  | 7 => some ⟨.st [(0, 2), (1, 3), (2, 4), (3, 6)], 4, 24, [.int .i64 0, .int .i64 0, .bool false, .int .u8 0]⟩
  | 8 => some ⟨.st [(0, 2), (1, 3), (2, 4), (3, 6)], 4, 24, [.int .i64 0, .int .i64 0, .bool false, .int .u8 0]⟩
  | 9 => some ⟨.str, 1, 16, [.string ByteArray.empty]⟩
  | 10 => some ⟨.str, 1, 16, [.string ByteArray.empty]⟩
  | 11 => some ⟨.str, 1, 16, [.string ByteArray.empty]⟩
  | 12 => some ⟨.int .u64, 1, 8, [.int .u64 0]⟩
  | 13 => some ⟨.st [(0, 9), (1, 12)], 2, 24, [.string ByteArray.empty, .int .u64 0]⟩
  | 14 => some ⟨.st [(0, 9), (1, 12)], 2, 24, [.string ByteArray.empty, .int .u64 0]⟩
  | 15 => some ⟨.ptr 228, 1, 8, [.pointer none]⟩
  | 16 => some ⟨.ptr 231, 1, 8, [.pointer none]⟩
  | 17 => some ⟨.ptr 240, 1, 8, [.pointer none]⟩
  | 18 => some ⟨.st [(0, 17)], 1, 8, [.pointer none]⟩
  | 19 => some ⟨.st [(0, 17)], 1, 8, [.pointer none]⟩
  | 20 => some ⟨.ifc, 1, 16, [.nilIface]⟩
  | 21 => some ⟨.int .i32, 1, 4, [.int .i32 0]⟩
  | 22 => some ⟨.arr 16 5, 16, 16, List.replicate 16 (.int .u8 0)⟩
  | 23 => some ⟨.arr 16 5, 16, 16, List.replicate 16 (.int .u8 0)⟩
  | 24 => some ⟨.sl 5, 1, 24, [.slice none 0 0]⟩
  | 25 => some ⟨.int .u32, 1, 4, [.int .u32 0]⟩
  | 26 => some ⟨.fn, 1, 8, [.nilFunc]⟩
  | 27 => some ⟨.sl 24, 1, 24, [.slice none 0 0]⟩
  | 28 => some ⟨.st [(0, 27)], 1, 24, [.slice none 0 0]⟩
  | 29 => some ⟨.st [(0, 27)], 1, 24, [.slice none 0 0]⟩
  | 30 => some ⟨.sl 9, 1, 24, [.slice none 0 0]⟩
  | 31 => some ⟨.st [(0, 30)], 1, 24, [.slice none 0 0]⟩
  | 32 => some ⟨.st [(0, 30)], 1, 24, [.slice none 0 0]⟩
  | 33 => some ⟨.st [(0, 29), (1, 32), (2, 23)], 18, 64, [.slice none 0 0, .slice none 0 0, .int .u8 0, .int .u8 0, .int .u8 0, .int .u8 0, .int .u8 0, .int .u8 0, .int .u8 0, .int .u8 0, .int .u8 0, .int .u8 0, .int .u8 0, .int .u8 0, .int .u8 0, .int .u8 0, .int .u8 0, .int .u8 0]⟩
  | 34 => some ⟨.st [(0, 29), (1, 32), (2, 23)], 18, 64, [.slice none 0 0, .slice none 0 0, .int .u8 0, .int .u8 0, .int .u8 0, .int .u8 0, .int .u8 0, .int .u8 0, .int .u8 0, .int .u8 0, .int .u8 0, .int .u8 0, .int .u8 0, .int .u8 0, .int .u8 0, .int .u8 0, .int .u8 0, .int .u8 0]⟩
  | 35 => some ⟨.int .i64, 1, 8, [.int .i64 0]⟩
  | 37 => some ⟨.fn, 1, 8, [.nilFunc]⟩
  | 39 => some ⟨.fn, 1, 8, [.nilFunc]⟩
  | 40 => some ⟨.sl 42, 1, 24, [.slice none 0 0]⟩
  | 41 => some ⟨.st [(0, 4), (1, 3), (2, 4)], 3, 24, [.bool false, .int .i64 0, .bool false]⟩
  | 42 => some ⟨.st [(0, 4), (1, 3), (2, 4)], 3, 24, [.bool false, .int .i64 0, .bool false]⟩
  | 43 => some ⟨.sl 23, 1, 24, [.slice none 0 0]⟩
  | 44 => some ⟨.st [(0, 3), (1, 43), (2, 43)], 3, 56, [.int .i64 0, .slice none 0 0, .slice none 0 0]⟩
  | 45 => some ⟨.st [(0, 3), (1, 43), (2, 43)], 3, 56, [.int .i64 0, .slice none 0 0, .slice none 0 0]⟩
  | 46 => some ⟨.st [(0, 45), (3, 35)], 4, 64, [.int .i64 0, .slice none 0 0, .slice none 0 0, .int .i64 0]⟩
  | 47 => some ⟨.st [(0, 45), (3, 35)], 4, 64, [.int .i64 0, .slice none 0 0, .slice none 0 0, .int .i64 0]⟩
  | 49 => some ⟨.fn, 1, 8, [.nilFunc]⟩
  | 50 => some ⟨.fn, 1, 8, [.nilFunc]⟩
  | 51 => some ⟨.fn, 1, 8, [.nilFunc]⟩
  | 52 => some ⟨.st [(0, 23), (16, 3), (17, 3), (18, 23)], 34, 48, [.int .u8 0, .int .u8 0, .int .u8 0, .int .u8 0, .int .u8 0, .int .u8 0, .int .u8 0, .int .u8 0, .int .u8 0, .int .u8 0, .int .u8 0, .int .u8 0, .int .u8 0, .int .u8 0, .int .u8 0, .int .u8 0, .int .i64 0, .int .i64 0, .int .u8 0, .int .u8 0, .int .u8 0, .int .u8 0, .int .u8 0, .int .u8 0, .int .u8 0, .int .u8 0, .int .u8 0, .int .u8 0, .int .u8 0, .int .u8 0, .int .u8 0, .int .u8 0, .int .u8 0, .int .u8 0]⟩
  | 53 => some ⟨.st [(0, 23), (16, 3), (17, 3), (18, 23)], 34, 48, [.int .u8 0, .int .u8 0, .int .u8 0, .int .u8 0, .int .u8 0, .int .u8 0, .int .u8 0, .int .u8 0, .int .u8 0, .int .u8 0, .int .u8 0, .int .u8 0, .int .u8 0, .int .u8 0, .int .u8 0, .int .u8 0, .int .i64 0, .int .i64 0, .int .u8 0, .int .u8 0, .int .u8 0, .int .u8 0, .int .u8 0, .int .u8 0, .int .u8 0, .int .u8 0, .int .u8 0, .int .u8 0, .int .u8 0, .int .u8 0, .int .u8 0, .int .u8 0, .int .u8 0, .int .u8 0]⟩
  | 55 => some ⟨.fn, 1, 8, [.nilFunc]⟩
  | 56 => some ⟨.fn, 1, 8, [.nilFunc]⟩
  | 57 => some ⟨.fn, 1, 8, [.nilFunc]⟩
  | 58 => some ⟨.st [(0, 23), (16, 3), (17, 23), (33, 45), (36, 45)], 39, 152, [.int .u8 0, .int .u8 0, .int .u8 0, .int .u8 0, .int .u8 0, .int .u8 0, .int .u8 0, .int .u8 0, .int .u8 0, .int .u8 0, .int .u8 0, .int .u8 0, .int .u8 0, .int .u8 0, .int .u8 0, .int .u8 0, .int .i64 0, .int .u8 0, .int .u8 0, .int .u8 0, .int .u8 0, .int .u8 0, .int .u8 0, .int .u8 0, .int .u8 0, .int .u8 0, .int .u8 0, .int .u8 0, .int .u8 0, .int .u8 0, .int .u8 0, .int .u8 0, .int .u8 0, .int .i64 0, .slice none 0 0, .slice none 0 0, .int .i64 0, .slice none 0 0, .slice none 0 0]⟩
  | 59 => some ⟨.st [(0, 23), (16, 3), (17, 23), (33, 45), (36, 45)], 39, 152, [.int .u8 0, .int .u8 0, .int .u8 0, .int .u8 0, .int .u8 0, .int .u8 0, .int .u8 0, .int .u8 0, .int .u8 0, .int .u8 0, .int .u8 0, .int .u8 0, .int .u8 0, .int .u8 0, .int .u8 0, .int .u8 0, .int .i64 0, .int .u8 0, .int .u8 0, .int .u8 0, .int .u8 0, .int .u8 0, .int .u8 0, .int .u8 0, .int .u8 0, .int .u8 0, .int .u8 0, .int .u8 0, .int .u8 0, .int .u8 0, .int .u8 0, .int .u8 0, .int .u8 0, .int .i64 0, .slice none 0 0, .slice none 0 0, .int .i64 0, .slice none 0 0, .slice none 0 0]⟩
  | 60 => some ⟨.fn, 1, 8, [.nilFunc]⟩
  | 61 => some ⟨.fn, 1, 8, [.nilFunc]⟩
  | 62 => some ⟨.st [(0, 23), (16, 5), (17, 5), (18, 23)], 34, 34, List.replicate 34 (.int .u8 0)⟩
  | 63 => some ⟨.st [(0, 23), (16, 5), (17, 5), (18, 23)], 34, 34, List.replicate 34 (.int .u8 0)⟩
  | 64 => some ⟨.fn, 1, 8, [.nilFunc]⟩
  | 65 => some ⟨.fn, 1, 8, [.nilFunc]⟩
  | 66 => some ⟨.st [(0, 23), (16, 5), (17, 5), (18, 23), (34, 3), (35, 5)], 36, 56, [.int .u8 0, .int .u8 0, .int .u8 0, .int .u8 0, .int .u8 0, .int .u8 0, .int .u8 0, .int .u8 0, .int .u8 0, .int .u8 0, .int .u8 0, .int .u8 0, .int .u8 0, .int .u8 0, .int .u8 0, .int .u8 0, .int .u8 0, .int .u8 0, .int .u8 0, .int .u8 0, .int .u8 0, .int .u8 0, .int .u8 0, .int .u8 0, .int .u8 0, .int .u8 0, .int .u8 0, .int .u8 0, .int .u8 0, .int .u8 0, .int .u8 0, .int .u8 0, .int .u8 0, .int .u8 0, .int .i64 0, .int .u8 0]⟩
  | 67 => some ⟨.st [(0, 23), (16, 5), (17, 5), (18, 23), (34, 3), (35, 5)], 36, 56, [.int .u8 0, .int .u8 0, .int .u8 0, .int .u8 0, .int .u8 0, .int .u8 0, .int .u8 0, .int .u8 0, .int .u8 0, .int .u8 0, .int .u8 0, .int .u8 0, .int .u8 0, .int .u8 0, .int .u8 0, .int .u8 0, .int .u8 0, .int .u8 0, .int .u8 0, .int .u8 0, .int .u8 0, .int .u8 0, .int .u8 0, .int .u8 0, .int .u8 0, .int .u8 0, .int .u8 0, .int .u8 0, .int .u8 0, .int .u8 0, .int .u8 0, .int .u8 0, .int .u8 0, .int .u8 0, .int .i64 0, .int .u8 0]⟩
  | 68 => some ⟨.fn, 1, 8, [.nilFunc]⟩
  | 69 => some ⟨.st [(0, 23), (16, 3), (17, 23), (33, 45)], 36, 96, [.int .u8 0, .int .u8 0, .int .u8 0, .int .u8 0, .int .u8 0, .int .u8 0, .int .u8 0, .int .u8 0, .int .u8 0, .int .u8 0, .int .u8 0, .int .u8 0, .int .u8 0, .int .u8 0, .int .u8 0, .int .u8 0, .int .i64 0, .int .u8 0, .int .u8 0, .int .u8 0, .int .u8 0, .int .u8 0, .int .u8 0, .int .u8 0, .int .u8 0, .int .u8 0, .int .u8 0, .int .u8 0, .int .u8 0, .int .u8 0, .int .u8 0, .int .u8 0, .int .u8 0, .int .i64 0, .slice none 0 0, .slice none 0 0]⟩
  | 70 => some ⟨.st [(0, 23), (16, 3), (17, 23), (33, 45)], 36, 96, [.int .u8 0, .int .u8 0, .int .u8 0, .int .u8 0, .int .u8 0, .int .u8 0, .int .u8 0, .int .u8 0, .int .u8 0, .int .u8 0, .int .u8 0, .int .u8 0, .int .u8 0, .int .u8 0, .int .u8 0, .int .u8 0, .int .i64 0, .int .u8 0, .int .u8 0, .int .u8 0, .int .u8 0, .int .u8 0, .int .u8 0, .int .u8 0, .int .u8 0, .int .u8 0, .int .u8 0, .int .u8 0, .int .u8 0, .int .u8 0, .int .u8 0, .int .u8 0, .int .u8 0, .int .i64 0, .slice none 0 0, .slice none 0 0]⟩
  | 71 => some ⟨.fn, 1, 8, [.nilFunc]⟩
  | 72 => some ⟨.fn, 1, 8, [.nilFunc]⟩
  | 73 => some ⟨.fn, 1, 8, [.nilFunc]⟩
  | 74 => some ⟨.fn, 1, 8, [.nilFunc]⟩
  | 75 => some ⟨.fn, 1, 8, [.nilFunc]⟩
  | 76 => some ⟨.st [(0, 3), (1, 3), (2, 3), (3, 43)], 4, 48, [.int .i64 0, .int .i64 0, .int .i64 0, .slice none 0 0]⟩
  | 77 => some ⟨.st [(0, 3), (1, 3), (2, 3), (3, 43)], 4, 48, [.int .i64 0, .int .i64 0, .int .i64 0, .slice none 0 0]⟩
  | 78 => some ⟨.sl 95, 1, 24, [.slice none 0 0]⟩
  | 79 => some ⟨.fn, 1, 8, [.nilFunc]⟩
  | 80 => some ⟨.fn, 1, 8, [.nilFunc]⟩
  | 81 => some ⟨.fn, 1, 8, [.nilFunc]⟩
  | 82 => some ⟨.fn, 1, 8, [.nilFunc]⟩
  | 83 => some ⟨.fn, 1, 8, [.nilFunc]⟩
  | 84 => some ⟨.fn, 1, 8, [.nilFunc]⟩
  | 85 => some ⟨.fn, 1, 8, [.nilFunc]⟩
  | 86 => some ⟨.fn, 1, 8, [.nilFunc]⟩
  | 87 => some ⟨.fn, 1, 8, [.nilFunc]⟩
  | 88 => some ⟨.fn, 1, 8, [.nilFunc]⟩
  | 90 => some ⟨.fn, 1, 8, [.nilFunc]⟩
  | 91 => some ⟨.st [(0, 77), (4, 78)], 5, 72, [.int .i64 0, .int .i64 0, .int .i64 0, .slice none 0 0, .slice none 0 0]⟩
  | 92 => some ⟨.st [(0, 77), (4, 78)], 5, 72, [.int .i64 0, .int .i64 0, .int .i64 0, .slice none 0 0, .slice none 0 0]⟩
  | 93 => some ⟨.fn, 1, 8, [.nilFunc]⟩
  | 94 => some ⟨.st [(0, 3), (1, 45)], 4, 64, [.int .i64 0, .int .i64 0, .slice none 0 0, .slice none 0 0]⟩
  | 95 => some ⟨.st [(0, 3), (1, 45)], 4, 64, [.int .i64 0, .int .i64 0, .slice none 0 0, .slice none 0 0]⟩
  | 96 => some ⟨.fn, 1, 8, [.nilFunc]⟩
  | 97 => some ⟨.st [(0, 3), (1, 3), (2, 3), (3, 43)], 4, 48, [.int .i64 0, .int .i64 0, .int .i64 0, .slice none 0 0]⟩
  | 98 => some ⟨.st [(0, 3), (1, 3), (2, 3), (3, 43)], 4, 48, [.int .i64 0, .int .i64 0, .int .i64 0, .slice none 0 0]⟩
  | 99 => some ⟨.fn, 1, 8, [.nilFunc]⟩
  | 100 => some ⟨.fn, 1, 8, [.nilFunc]⟩
  | 101 => some ⟨.st [(0, 98), (4, 78), (5, 30)], 6, 96, [.int .i64 0, .int .i64 0, .int .i64 0, .slice none 0 0, .slice none 0 0, .slice none 0 0]⟩
  | 102 => some ⟨.st [(0, 98), (4, 78), (5, 30)], 6, 96, [.int .i64 0, .int .i64 0, .int .i64 0, .slice none 0 0, .slice none 0 0, .slice none 0 0]⟩
  | 103 => some ⟨.fn, 1, 8, [.nilFunc]⟩
  | 104 => some ⟨.fn, 1, 8, [.nilFunc]⟩
  | 105 => some ⟨.fn, 1, 8, [.nilFunc]⟩
  | 106 => some ⟨.fn, 1, 8, [.nilFunc]⟩
  | 107 => some ⟨.sl 3, 1, 24, [.slice none 0 0]⟩
  | 109 => some ⟨.fn, 1, 8, [.nilFunc]⟩
  | 111 => some ⟨.fn, 1, 8, [.nilFunc]⟩
  | 112 => some ⟨.fn, 1, 8, [.nilFunc]⟩
  | 113 => some ⟨.fn, 1, 8, [.nilFunc]⟩
  | 114 => some ⟨.fn, 1, 8, [.nilFunc]⟩
  | 115 => some ⟨.fn, 1, 8, [.nilFunc]⟩
  | 116 => some ⟨.fn, 1, 8, [.nilFunc]⟩
  | 117 => some ⟨.fn, 1, 8, [.nilFunc]⟩
  | 118 => some ⟨.fn, 1, 8, [.nilFunc]⟩
  | 120 => some ⟨.fn, 1, 8, [.nilFunc]⟩
  | 121 => some ⟨.fn, 1, 8, [.nilFunc]⟩
  | 122 => some ⟨.fn, 1, 8, [.nilFunc]⟩
  | 123 => some ⟨.fn, 1, 8, [.nilFunc]⟩
  | 124 => some ⟨.fn, 1, 8, [.nilFunc]⟩
  | 125 => some ⟨.fn, 1, 8, [.nilFunc]⟩
  | 126 => some ⟨.fn, 1, 8, [.nilFunc]⟩
  | 127 => some ⟨.fn, 1, 8, [.nilFunc]⟩
  | 128 => some ⟨.arr 32 5, 32, 32, List.replicate 32 (.int .u8 0)⟩
  | 129 => some ⟨.fn, 1, 8, [.nilFunc]⟩
  | 130 => some ⟨.fn, 1, 8, [.nilFunc]⟩
  | 131 => some ⟨.st [(0, 77), (4, 23), (20, 78)], 21, 88, [.int .i64 0, .int .i64 0, .int .i64 0, .slice none 0 0, .int .u8 0, .int .u8 0, .int .u8 0, .int .u8 0, .int .u8 0, .int .u8 0, .int .u8 0, .int .u8 0, .int .u8 0, .int .u8 0, .int .u8 0, .int .u8 0, .int .u8 0, .int .u8 0, .int .u8 0, .int .u8 0, .slice none 0 0]⟩
  | 132 => some ⟨.st [(0, 77), (4, 23), (20, 78)], 21, 88, [.int .i64 0, .int .i64 0, .int .i64 0, .slice none 0 0, .int .u8 0, .int .u8 0, .int .u8 0, .int .u8 0, .int .u8 0, .int .u8 0, .int .u8 0, .int .u8 0, .int .u8 0, .int .u8 0, .int .u8 0, .int .u8 0, .int .u8 0, .int .u8 0, .int .u8 0, .int .u8 0, .slice none 0 0]⟩
  | 133 => some ⟨.fn, 1, 8, [.nilFunc]⟩
  | 134 => some ⟨.fn, 1, 8, [.nilFunc]⟩
  | 135 => some ⟨.fn, 1, 8, [.nilFunc]⟩
  | 136 => some ⟨.fn, 1, 8, [.nilFunc]⟩
  | 137 => some ⟨.fn, 1, 8, [.nilFunc]⟩
  | 138 => some ⟨.fn, 1, 8, [.nilFunc]⟩
  | 139 => some ⟨.fn, 1, 8, [.nilFunc]⟩
  | 140 => some ⟨.fn, 1, 8, [.nilFunc]⟩
  | 141 => some ⟨.fn, 1, 8, [.nilFunc]⟩
  | 142 => some ⟨.st [(0, 3), (1, 3), (2, 3), (3, 9)], 4, 40, [.int .i64 0, .int .i64 0, .int .i64 0, .string ByteArray.empty]⟩
  | 143 => some ⟨.st [(0, 3), (1, 3), (2, 3), (3, 9)], 4, 40, [.int .i64 0, .int .i64 0, .int .i64 0, .string ByteArray.empty]⟩
  | 144 => some ⟨.st [(0, 3), (1, 9)], 2, 24, [.int .i64 0, .string ByteArray.empty]⟩
  | 145 => some ⟨.st [(0, 3), (1, 9)], 2, 24, [.int .i64 0, .string ByteArray.empty]⟩
  | 147 => some ⟨.fn, 1, 8, [.nilFunc]⟩
  | 148 => some ⟨.st [], 0, 0, []⟩
  | 149 => some ⟨.st [], 0, 0, []⟩
  | 150 => some ⟨.fn, 1, 8, [.nilFunc]⟩
  | 151 => some ⟨.fn, 1, 8, [.nilFunc]⟩
  | 152 => some ⟨.fn, 1, 8, [.nilFunc]⟩
  | 153 => some ⟨.sl 4, 1, 24, [.slice none 0 0]⟩
  | 154 => some ⟨.fn, 1, 8, [.nilFunc]⟩
  | 155 => some ⟨.fn, 1, 8, [.nilFunc]⟩
  | 157 => some ⟨.fn, 1, 8, [.nilFunc]⟩
  | 158 => some ⟨.arr 68 3, 68, 544, List.replicate 68 (.int .i64 0)⟩
  | 159 => some ⟨.fn, 1, 8, [.nilFunc]⟩
  | 160 => some ⟨.int .u64, 1, 8, [.int .u64 0]⟩
  | 161 => some ⟨.sl 25, 1, 24, [.slice none 0 0]⟩
  | 162 => some ⟨.fn, 1, 8, [.nilFunc]⟩
  | 163 => some ⟨.fn, 1, 8, [.nilFunc]⟩
  | 164 => some ⟨.fn, 1, 8, [.nilFunc]⟩
  | 165 => some ⟨.sl 134, 1, 24, [.slice none 0 0]⟩
  | 166 => some ⟨.fn, 1, 8, [.nilFunc]⟩
  | 167 => some ⟨.fn, 1, 8, [.nilFunc]⟩
  | 168 => some ⟨.fn, 1, 8, [.nilFunc]⟩
  | 169 => some ⟨.fn, 1, 8, [.nilFunc]⟩
  | 170 => some ⟨.fn, 1, 8, [.nilFunc]⟩
  | 171 => some ⟨.fn, 1, 8, [.nilFunc]⟩
  | 172 => some ⟨.fn, 1, 8, [.nilFunc]⟩
  | 173 => some ⟨.st [(0, 171), (1, 172)], 2, 16, [.nilFunc, .nilFunc]⟩
  | 174 => some ⟨.st [(0, 171), (1, 172)], 2, 16, [.nilFunc, .nilFunc]⟩
  | 175 => some ⟨.arr 5 174, 10, 80, List.replicate 10 (.nilFunc)⟩
  | 176 => some ⟨.fn, 1, 8, [.nilFunc]⟩
  | 178 => some ⟨.ptr 34, 1, 8, [.pointer none]⟩
  | 179 => some ⟨.fn, 1, 8, [.nilFunc]⟩
  | 181 => some ⟨.fn, 1, 8, [.nilFunc]⟩
  | 182 => some ⟨.fn, 1, 8, [.nilFunc]⟩
  | 183 => some ⟨.fn, 1, 8, [.nilFunc]⟩
  | 184 => some ⟨.int .u64, 1, 8, [.int .u64 0]⟩
  | 185 => some ⟨.fn, 1, 8, [.nilFunc]⟩
  | 186 => some ⟨.fn, 1, 8, [.nilFunc]⟩
  | 187 => some ⟨.fn, 1, 8, [.nilFunc]⟩
  | 188 => some ⟨.fn, 1, 8, [.nilFunc]⟩
  | 189 => some ⟨.fn, 1, 8, [.nilFunc]⟩
  | 190 => some ⟨.fn, 1, 8, [.nilFunc]⟩
  | 191 => some ⟨.arr 8 25, 8, 32, [.int .u32 0, .int .u32 0, .int .u32 0, .int .u32 0, .int .u32 0, .int .u32 0, .int .u32 0, .int .u32 0]⟩
  | 192 => some ⟨.arr 8 25, 8, 32, [.int .u32 0, .int .u32 0, .int .u32 0, .int .u32 0, .int .u32 0, .int .u32 0, .int .u32 0, .int .u32 0]⟩
  | 193 => some ⟨.fn, 1, 8, [.nilFunc]⟩
  | 194 => some ⟨.fn, 1, 8, [.nilFunc]⟩
  | 195 => some ⟨.fn, 1, 8, [.nilFunc]⟩
  | 196 => some ⟨.fn, 1, 8, [.nilFunc]⟩
  | 197 => some ⟨.fn, 1, 8, [.nilFunc]⟩
  | 198 => some ⟨.fn, 1, 8, [.nilFunc]⟩
  | 199 => some ⟨.fn, 1, 8, [.nilFunc]⟩
  | 201 => some ⟨.fn, 1, 8, [.nilFunc]⟩
  | 202 => some ⟨.fn, 1, 8, [.nilFunc]⟩
  | 203 => some ⟨.fn, 1, 8, [.nilFunc]⟩
  | 204 => some ⟨.fn, 1, 8, [.nilFunc]⟩
  | 205 => some ⟨.fn, 1, 8, [.nilFunc]⟩
  | 206 => some ⟨.arr 64 25, 64, 256, List.replicate 64 (.int .u32 0)⟩
  | 207 => some ⟨.fn, 1, 8, [.nilFunc]⟩
  | 208 => some ⟨.fn, 1, 8, [.nilFunc]⟩
  | 209 => some ⟨.fn, 1, 8, [.nilFunc]⟩
  | 210 => some ⟨.fn, 1, 8, [.nilFunc]⟩
  | 211 => some ⟨.fn, 1, 8, [.nilFunc]⟩
  | 212 => some ⟨.fn, 1, 8, [.nilFunc]⟩
  | 213 => some ⟨.fn, 1, 8, [.nilFunc]⟩
  | 214 => some ⟨.fn, 1, 8, [.nilFunc]⟩
  | 215 => some ⟨.fn, 1, 8, [.nilFunc]⟩
  | 216 => some ⟨.fn, 1, 8, [.nilFunc]⟩
  | 217 => some ⟨.fn, 1, 8, [.nilFunc]⟩
  | 218 => some ⟨.fn, 1, 8, [.nilFunc]⟩
  | 219 => some ⟨.fn, 1, 8, [.nilFunc]⟩
  | 221 => some ⟨.fn, 1, 8, [.nilFunc]⟩
  | 223 => some ⟨.fn, 1, 8, [.nilFunc]⟩
  | 225 => some ⟨.fn, 1, 8, [.nilFunc]⟩
  | 226 => some ⟨.fn, 1, 8, [.nilFunc]⟩
  | 227 => some ⟨.st [(0, 17), (1, 17), (2, 17), (3, 9)], 4, 40, [.pointer none, .pointer none, .pointer none, .string ByteArray.empty]⟩
  | 228 => some ⟨.st [(0, 17), (1, 17), (2, 17), (3, 9)], 4, 40, [.pointer none, .pointer none, .pointer none, .string ByteArray.empty]⟩
  | 229 => some ⟨.arr 0 16, 0, 0, []⟩
  | 230 => some ⟨.st [(0, 229)], 0, 0, []⟩
  | 231 => some ⟨.st [(0, 229)], 0, 0, []⟩
  | 232 => some ⟨.fn, 1, 8, [.nilFunc]⟩
  | 233 => some ⟨.int .u8, 1, 1, [.int .u8 0]⟩
  | 234 => some ⟨.int .u8, 1, 1, [.int .u8 0]⟩
  | 235 => some ⟨.fn, 1, 8, [.nilFunc]⟩
  | 236 => some ⟨.ptr 5, 1, 8, [.pointer none]⟩
  | 237 => some ⟨.int .i32, 1, 4, [.int .i32 0]⟩
  | 238 => some ⟨.int .i32, 1, 4, [.int .i32 0]⟩
  | 239 => some ⟨.st [(0, 12), (1, 12), (2, 25), (3, 233), (4, 5), (5, 5), (6, 234), (7, 235), (8, 236), (9, 237), (10, 238)], 11, 48, [.int .u64 0, .int .u64 0, .int .u32 0, .int .u8 0, .int .u8 0, .int .u8 0, .int .u8 0, .nilFunc, .pointer none, .int .i32 0, .int .i32 0]⟩
  | 240 => some ⟨.st [(0, 12), (1, 12), (2, 25), (3, 233), (4, 5), (5, 5), (6, 234), (7, 235), (8, 236), (9, 237), (10, 238)], 11, 48, [.int .u64 0, .int .u64 0, .int .u32 0, .int .u8 0, .int .u8 0, .int .u8 0, .int .u8 0, .nilFunc, .pointer none, .int .i32 0, .int .i32 0]⟩
  | _ => none

theorem T_1 : tab 1 = some ⟨.fn, 1, 8, [.nilFunc]⟩ := rfl
theorem ok_1 : TOk Tryd.prog 1 ⟨.fn, 1, 8, [.nilFunc]⟩ := ⟨by kernel_rfl, by kernel_rfl⟩
theorem T_2 : tab 2 = some ⟨.int .i64, 1, 8, [.int .i64 0]⟩ := rfl
theorem ok_2 : TOk Tryd.prog 2 ⟨.int .i64, 1, 8, [.int .i64 0]⟩ := ⟨by kernel_rfl, by kernel_rfl⟩
theorem T_3 : tab 3 = some ⟨.int .i64, 1, 8, [.int .i64 0]⟩ := rfl
theorem ok_3 : TOk Tryd.prog 3 ⟨.int .i64, 1, 8, [.int .i64 0]⟩ := ⟨by kernel_rfl, by kernel_rfl⟩
theorem T_4 : tab 4 = some ⟨.bool, 1, 1, [.bool false]⟩ := rfl
theorem ok_4 : TOk Tryd.prog 4 ⟨.bool, 1, 1, [.bool false]⟩ := ⟨by kernel_rfl, by kernel_rfl⟩
theorem T_5 : tab 5 = some ⟨.int .u8, 1, 1, [.int .u8 0]⟩ := rfl
theorem ok_5 : TOk Tryd.prog 5 ⟨.int .u8, 1, 1, [.int .u8 0]⟩ := ⟨by kernel_rfl, by kernel_rfl⟩
theorem T_6 : tab 6 = some ⟨.int .u8, 1, 1, [.int .u8 0]⟩ := rfl
theorem ok_6 : TOk Tryd.prog 6 ⟨.int .u8, 1, 1, [.int .u8 0]⟩ := ⟨by kernel_rfl, by kernel_rfl⟩
theorem T_7 : tab 7 = some ⟨.st [(0, 2), (1, 3), (2, 4), (3, 6)], 4, 24, [.int .i64 0, .int .i64 0, .bool false, .int .u8 0]⟩ := rfl
theorem ok_7 : TOk Tryd.prog 7 ⟨.st [(0, 2), (1, 3), (2, 4), (3, 6)], 4, 24, [.int .i64 0, .int .i64 0, .bool false, .int .u8 0]⟩ := ⟨by kernel_rfl, by kernel_rfl⟩
theorem T_8 : tab 8 = some ⟨.st [(0, 2), (1, 3), (2, 4), (3, 6)], 4, 24, [.int .i64 0, .int .i64 0, .bool false, .int .u8 0]⟩ := rfl
theorem ok_8 : TOk Tryd.prog 8 ⟨.st [(0, 2), (1, 3), (2, 4), (3, 6)], 4, 24, [.int .i64 0, .int .i64 0, .bool false, .int .u8 0]⟩ := ⟨by kernel_rfl, by kernel_rfl⟩
theorem T_9 : tab 9 = some ⟨.str, 1, 16, [.string ByteArray.empty]⟩ := rfl
theorem ok_9 : TOk Tryd.prog 9 ⟨.str, 1, 16, [.string ByteArray.empty]⟩ := ⟨by kernel_rfl, by kernel_rfl⟩
theorem T_10 : tab 10 = some ⟨.str, 1, 16, [.string ByteArray.empty]⟩ := rfl
theorem ok_10 : TOk Tryd.prog 10 ⟨.str, 1, 16, [.string ByteArray.empty]⟩ := ⟨by kernel_rfl, by kernel_rfl⟩
theorem T_11 : tab 11 = some ⟨.str, 1, 16, [.string ByteArray.empty]⟩ := rfl
theorem ok_11 : TOk Tryd.prog 11 ⟨.str, 1, 16, [.string ByteArray.empty]⟩ := ⟨by kernel_rfl, by kernel_rfl⟩
theorem T_12 : tab 12 = some ⟨.int .u64, 1, 8, [.int .u64 0]⟩ := rfl
theorem ok_12 : TOk Tryd.prog 12 ⟨.int .u64, 1, 8, [.int .u64 0]⟩ := ⟨by kernel_rfl, by kernel_rfl⟩
theorem T_13 : tab 13 = some ⟨.st [(0, 9), (1, 12)], 2, 24, [.string ByteArray.empty, .int .u64 0]⟩ := rfl
theorem ok_13 : TOk Tryd.prog 13 ⟨.st [(0, 9), (1, 12)], 2, 24, [.string ByteArray.empty, .int .u64 0]⟩ := ⟨by kernel_rfl, by kernel_rfl⟩
theorem T_14 : tab 14 = some ⟨.st [(0, 9), (1, 12)], 2, 24, [.string ByteArray.empty, .int .u64 0]⟩ := rfl
theorem ok_14 : TOk Tryd.prog 14 ⟨.st [(0, 9), (1, 12)], 2, 24, [.string ByteArray.empty, .int .u64 0]⟩ := ⟨by kernel_rfl, by kernel_rfl⟩
theorem T_15 : tab 15 = some ⟨.ptr 228, 1, 8, [.pointer none]⟩ := rfl
theorem ok_15 : TOk Tryd.prog 15 ⟨.ptr 228, 1, 8, [.pointer none]⟩ := ⟨by kernel_rfl, by kernel_rfl⟩
theorem T_16 : tab 16 = some ⟨.ptr 231, 1, 8, [.pointer none]⟩ := rfl
theorem ok_16 : TOk Tryd.prog 16 ⟨.ptr 231, 1, 8, [.pointer none]⟩ := ⟨by kernel_rfl, by kernel_rfl⟩
theorem T_17 : tab 17 = some ⟨.ptr 240, 1, 8, [.pointer none]⟩ := rfl
theorem ok_17 : TOk Tryd.prog 17 ⟨.ptr 240, 1, 8, [.pointer none]⟩ := ⟨by kernel_rfl, by kernel_rfl⟩
theorem T_18 : tab 18 = some ⟨.st [(0, 17)], 1, 8, [.pointer none]⟩ := rfl
theorem ok_18 : TOk Tryd.prog 18 ⟨.st [(0, 17)], 1, 8, [.pointer none]⟩ := ⟨by kernel_rfl, by kernel_rfl⟩
theorem T_19 : tab 19 = some ⟨.st [(0, 17)], 1, 8, [.pointer none]⟩ := rfl
theorem ok_19 : TOk Tryd.prog 19 ⟨.st [(0, 17)], 1, 8, [.pointer none]⟩ := ⟨by kernel_rfl, by kernel_rfl⟩
theorem T_20 : tab 20 = some ⟨.ifc, 1, 16, [.nilIface]⟩ := rfl
theorem ok_20 : TOk Tryd.prog 20 ⟨.ifc, 1, 16, [.nilIface]⟩ := ⟨by kernel_rfl, by kernel_rfl⟩
theorem T_21 : tab 21 = some ⟨.int .i32, 1, 4, [.int .i32 0]⟩ := rfl
theorem ok_21 : TOk Tryd.prog 21 ⟨.int .i32, 1, 4, [.int .i32 0]⟩ := ⟨by kernel_rfl, by kernel_rfl⟩
theorem T_22 : tab 22 = some ⟨.arr 16 5, 16, 16, List.replicate 16 (.int .u8 0)⟩ := rfl
theorem ok_22 : TOk Tryd.prog 22 ⟨.arr 16 5, 16, 16, List.replicate 16 (.int .u8 0)⟩ := ⟨by kernel_rfl, by kernel_rfl⟩
theorem T_23 : tab 23 = some ⟨.arr 16 5, 16, 16, List.replicate 16 (.int .u8 0)⟩ := rfl
theorem ok_23 : TOk Tryd.prog 23 ⟨.arr 16 5, 16, 16, List.replicate 16 (.int .u8 0)⟩ := ⟨by kernel_rfl, by kernel_rfl⟩
theorem T_24 : tab 24 = some ⟨.sl 5, 1, 24, [.slice none 0 0]⟩ := rfl
theorem ok_24 : TOk Tryd.prog 24 ⟨.sl 5, 1, 24, [.slice none 0 0]⟩ := ⟨by kernel_rfl, by kernel_rfl⟩
theorem T_25 : tab 25 = some ⟨.int .u32, 1, 4, [.int .u32 0]⟩ := rfl
theorem ok_25 : TOk Tryd.prog 25 ⟨.int .u32, 1, 4, [.int .u32 0]⟩ := ⟨by kernel_rfl, by kernel_rfl⟩
theorem T_26 : tab 26 = some ⟨.fn, 1, 8, [.nilFunc]⟩ := rfl
theorem ok_26 : TOk Tryd.prog 26 ⟨.fn, 1, 8, [.nilFunc]⟩ := ⟨by kernel_rfl, by kernel_rfl⟩
theorem T_27 : tab 27 = some ⟨.sl 24, 1, 24, [.slice none 0 0]⟩ := rfl
theorem ok_27 : TOk Tryd.prog 27 ⟨.sl 24, 1, 24, [.slice none 0 0]⟩ := ⟨by kernel_rfl, by kernel_rfl⟩
theorem T_28 : tab 28 = some ⟨.st [(0, 27)], 1, 24, [.slice none 0 0]⟩ := rfl
theorem ok_28 : TOk Tryd.prog 28 ⟨.st [(0, 27)], 1, 24, [.slice none 0 0]⟩ := ⟨by kernel_rfl, by kernel_rfl⟩
theorem T_29 : tab 29 = some ⟨.st [(0, 27)], 1, 24, [.slice none 0 0]⟩ := rfl
theorem ok_29 : TOk Tryd.prog 29 ⟨.st [(0, 27)], 1, 24, [.slice none 0 0]⟩ := ⟨by kernel_rfl, by kernel_rfl⟩
theorem T_30 : tab 30 = some ⟨.sl 9, 1, 24, [.slice none 0 0]⟩ := rfl
theorem ok_30 : TOk Tryd.prog 30 ⟨.sl 9, 1, 24, [.slice none 0 0]⟩ := ⟨by kernel_rfl, by kernel_rfl⟩
theorem T_31 : tab 31 = some ⟨.st [(0, 30)], 1, 24, [.slice none 0 0]⟩ := rfl
theorem ok_31 : TOk Tryd.prog 31 ⟨.st [(0, 30)], 1, 24, [.slice none 0 0]⟩ := ⟨by kernel_rfl, by kernel_rfl⟩
theorem T_32 : tab 32 = some ⟨.st [(0, 30)], 1, 24, [.slice none 0 0]⟩ := rfl
theorem ok_32 : TOk Tryd.prog 32 ⟨.st [(0, 30)], 1, 24, [.slice none 0 0]⟩ := ⟨by kernel_rfl, by kernel_rfl⟩
theorem T_33 : tab 33 = some ⟨.st [(0, 29), (1, 32), (2, 23)], 18, 64, [.slice none 0 0, .slice none 0 0, .int .u8 0, .int .u8 0, .int .u8 0, .int .u8 0, .int .u8 0, .int .u8 0, .int .u8 0, .int .u8 0, .int .u8 0, .int .u8 0, .int .u8 0, .int .u8 0, .int .u8 0, .int .u8 0, .int .u8 0, .int .u8 0]⟩ := rfl
theorem ok_33 : TOk Tryd.prog 33 ⟨.st [(0, 29), (1, 32), (2, 23)], 18, 64, [.slice none 0 0, .slice none 0 0, .int .u8 0, .int .u8 0, .int .u8 0, .int .u8 0, .int .u8 0, .int .u8 0, .int .u8 0, .int .u8 0, .int .u8 0, .int .u8 0, .int .u8 0, .int .u8 0, .int .u8 0, .int .u8 0, .int .u8 0, .int .u8 0]⟩ := ⟨by kernel_rfl, by kernel_rfl⟩
theorem T_34 : tab 34 = some ⟨.st [(0, 29), (1, 32), (2, 23)], 18, 64, [.slice none 0 0, .slice none 0 0, .int .u8 0, .int .u8 0, .int .u8 0, .int .u8 0, .int .u8 0, .int .u8 0, .int .u8 0, .int .u8 0, .int .u8 0, .int .u8 0, .int .u8 0, .int .u8 0, .int .u8 0, .int .u8 0, .int .u8 0, .int .u8 0]⟩ := rfl
theorem ok_34 : TOk Tryd.prog 34 ⟨.st [(0, 29), (1, 32), (2, 23)], 18, 64, [.slice none 0 0, .slice none 0 0, .int .u8 0, .int .u8 0, .int .u8 0, .int .u8 0, .int .u8 0, .int .u8 0, .int .u8 0, .int .u8 0, .int .u8 0, .int .u8 0, .int .u8 0, .int .u8 0, .int .u8 0, .int .u8 0, .int .u8 0, .int .u8 0]⟩ := ⟨by kernel_rfl, by kernel_rfl⟩
theorem T_35 : tab 35 = some ⟨.int .i64, 1, 8, [.int .i64 0]⟩ := rfl
theorem ok_35 : TOk Tryd.prog 35 ⟨.int .i64, 1, 8, [.int .i64 0]⟩ := ⟨by kernel_rfl, by kernel_rfl⟩
theorem T_37 : tab 37 = some ⟨.fn, 1, 8, [.nilFunc]⟩ := rfl
theorem ok_37 : TOk Tryd.prog 37 ⟨.fn, 1, 8, [.nilFunc]⟩ := ⟨by kernel_rfl, by kernel_rfl⟩
theorem T_39 : tab 39 = some ⟨.fn, 1, 8, [.nilFunc]⟩ := rfl
theorem ok_39 : TOk Tryd.prog 39 ⟨.fn, 1, 8, [.nilFunc]⟩ := ⟨by kernel_rfl, by kernel_rfl⟩
theorem T_40 : tab 40 = some ⟨.sl 42, 1, 24, [.slice none 0 0]⟩ := rfl
theorem ok_40 : TOk Tryd.prog 40 ⟨.sl 42, 1, 24, [.slice none 0 0]⟩ := ⟨by kernel_rfl, by kernel_rfl⟩
theorem T_41 : tab 41 = some ⟨.st [(0, 4), (1, 3), (2, 4)], 3, 24, [.bool false, .int .i64 0, .bool false]⟩ := rfl
theorem ok_41 : TOk Tryd.prog 41 ⟨.st [(0, 4), (1, 3), (2, 4)], 3, 24, [.bool false, .int .i64 0, .bool false]⟩ := ⟨by kernel_rfl, by kernel_rfl⟩
theorem T_42 : tab 42 = some ⟨.st [(0, 4), (1, 3), (2, 4)], 3, 24, [.bool false, .int .i64 0, .bool false]⟩ := rfl
theorem ok_42 : TOk Tryd.prog 42 ⟨.st [(0, 4), (1, 3), (2, 4)], 3, 24, [.bool false, .int .i64 0, .bool false]⟩ := ⟨by kernel_rfl, by kernel_rfl⟩
theorem T_43 : tab 43 = some ⟨.sl 23, 1, 24, [.slice none 0 0]⟩ := rfl
theorem ok_43 : TOk Tryd.prog 43 ⟨.sl 23, 1, 24, [.slice none 0 0]⟩ := ⟨by kernel_rfl, by kernel_rfl⟩
theorem T_44 : tab 44 = some ⟨.st [(0, 3), (1, 43), (2, 43)], 3, 56, [.int .i64 0, .slice none 0 0, .slice none 0 0]⟩ := rfl
theorem ok_44 : TOk Tryd.prog 44 ⟨.st [(0, 3), (1, 43), (2, 43)], 3, 56, [.int .i64 0, .slice none 0 0, .slice none 0 0]⟩ := ⟨by kernel_rfl, by kernel_rfl⟩
theorem T_45 : tab 45 = some ⟨.st [(0, 3), (1, 43), (2, 43)], 3, 56, [.int .i64 0, .slice none 0 0, .slice none 0 0]⟩ := rfl
theorem ok_45 : TOk Tryd.prog 45 ⟨.st [(0, 3), (1, 43), (2, 43)], 3, 56, [.int .i64 0, .slice none 0 0, .slice none 0 0]⟩ := ⟨by kernel_rfl, by kernel_rfl⟩
theorem T_46 : tab 46 = some ⟨.st [(0, 45), (3, 35)], 4, 64, [.int .i64 0, .slice none 0 0, .slice none 0 0, .int .i64 0]⟩ := rfl
theorem ok_46 : TOk Tryd.prog 46 ⟨.st [(0, 45), (3, 35)], 4, 64, [.int .i64 0, .slice none 0 0, .slice none 0 0, .int .i64 0]⟩ := ⟨by kernel_rfl, by kernel_rfl⟩
theorem T_47 : tab 47 = some ⟨.st [(0, 45), (3, 35)], 4, 64, [.int .i64 0, .slice none 0 0, .slice none 0 0, .int .i64 0]⟩ := rfl
theorem ok_47 : TOk Tryd.prog 47 ⟨.st [(0, 45), (3, 35)], 4, 64, [.int .i64 0, .slice none 0 0, .slice none 0 0, .int .i64 0]⟩ := ⟨by kernel_rfl, by kernel_rfl⟩
theorem T_49 : tab 49 = some ⟨.fn, 1, 8, [.nilFunc]⟩ := rfl
theorem ok_49 : TOk Tryd.prog 49 ⟨.fn, 1, 8, [.nilFunc]⟩ := ⟨by kernel_rfl, by kernel_rfl⟩
theorem T_50 : tab 50 = some ⟨.fn, 1, 8, [.nilFunc]⟩ := rfl
theorem ok_50 : TOk Tryd.prog 50 ⟨.fn, 1, 8, [.nilFunc]⟩ := ⟨by kernel_rfl, by kernel_rfl⟩
theorem T_51 : tab 51 = some ⟨.fn, 1, 8, [.nilFunc]⟩ := rfl
theorem ok_51 : TOk Tryd.prog 51 ⟨.fn, 1, 8, [.nilFunc]⟩ := ⟨by kernel_rfl, by kernel_rfl⟩
theorem T_52 : tab 52 = some ⟨.st [(0, 23), (16, 3), (17, 3), (18, 23)], 34, 48, [.int .u8 0, .int .u8 0, .int .u8 0, .int .u8 0, .int .u8 0, .int .u8 0, .int .u8 0, .int .u8 0, .int .u8 0, .int .u8 0, .int .u8 0, .int .u8 0, .int .u8 0, .int .u8 0, .int .u8 0, .int .u8 0, .int .i64 0, .int .i64 0, .int .u8 0, .int .u8 0, .int .u8 0, .int .u8 0, .int .u8 0, .int .u8 0, .int .u8 0, .int .u8 0, .int .u8 0, .int .u8 0, .int .u8 0, .int .u8 0, .int .u8 0, .int .u8 0, .int .u8 0, .int .u8 0]⟩ := rfl
theorem ok_52 : TOk Tryd.prog 52 ⟨.st [(0, 23), (16, 3), (17, 3), (18, 23)], 34, 48, [.int .u8 0, .int .u8 0, .int .u8 0, .int .u8 0, .int .u8 0, .int .u8 0, .int .u8 0, .int .u8 0, .int .u8 0, .int .u8 0, .int .u8 0, .int .u8 0, .int .u8 0, .int .u8 0, .int .u8 0, .int .u8 0, .int .i64 0, .int .i64 0, .int .u8 0, .int .u8 0, .int .u8 0, .int .u8 0, .int .u8 0, .int .u8 0, .int .u8 0, .int .u8 0, .int .u8 0, .int .u8 0, .int .u8 0, .int .u8 0, .int .u8 0, .int .u8 0, .int .u8 0, .int .u8 0]⟩ := ⟨by kernel_rfl, by kernel_rfl⟩
theorem T_53 : tab 53 = some ⟨.st [(0, 23), (16, 3), (17, 3), (18, 23)], 34, 48, [.int .u8 0, .int .u8 0, .int .u8 0, .int .u8 0, .int .u8 0, .int .u8 0, .int .u8 0, .int .u8 0, .int .u8 0, .int .u8 0, .int .u8 0, .int .u8 0, .int .u8 0, .int .u8 0, .int .u8 0, .int .u8 0, .int .i64 0, .int .i64 0, .int .u8 0, .int .u8 0, .int .u8 0, .int .u8 0, .int .u8 0, .int .u8 0, .int .u8 0, .int .u8 0, .int .u8 0, .int .u8 0, .int .u8 0, .int .u8 0, .int .u8 0, .int .u8 0, .int .u8 0, .int .u8 0]⟩ := rfl
theorem ok_53 : TOk Tryd.prog 53 ⟨.st [(0, 23), (16, 3), (17, 3), (18, 23)], 34, 48, [.int .u8 0, .int .u8 0, .int .u8 0, .int .u8 0, .int .u8 0, .int .u8 0, .int .u8 0, .int .u8 0, .int .u8 0, .int .u8 0, .int .u8 0, .int .u8 0, .int .u8 0, .int .u8 0, .int .u8 0, .int .u8 0, .int .i64 0, .int .i64 0, .int .u8 0, .int .u8 0, .int .u8 0, .int .u8 0, .int .u8 0, .int .u8 0, .int .u8 0, .int .u8 0, .int .u8 0, .int .u8 0, .int .u8 0, .int .u8 0, .int .u8 0, .int .u8 0, .int .u8 0, .int .u8 0]⟩ := ⟨by kernel_rfl, by kernel_rfl⟩
theorem T_55 : tab 55 = some ⟨.fn, 1, 8, [.nilFunc]⟩ := rfl
theorem ok_55 : TOk Tryd.prog 55 ⟨.fn, 1, 8, [.nilFunc]⟩ := ⟨by kernel_rfl, by kernel_rfl⟩
theorem T_56 : tab 56 = some ⟨.fn, 1, 8, [.nilFunc]⟩ := rfl
theorem ok_56 : TOk Tryd.prog 56 ⟨.fn, 1, 8, [.nilFunc]⟩ := ⟨by kernel_rfl, by kernel_rfl⟩
theorem T_57 : tab 57 = some ⟨.fn, 1, 8, [.nilFunc]⟩ := rfl
theorem ok_57 : TOk Tryd.prog 57 ⟨.fn, 1, 8, [.nilFunc]⟩ := ⟨by kernel_rfl, by kernel_rfl⟩
theorem T_58 : tab 58 = some ⟨.st [(0, 23), (16, 3), (17, 23), (33, 45), (36, 45)], 39, 152, [.int .u8 0, .int .u8 0, .int .u8 0, .int .u8 0, .int .u8 0, .int .u8 0, .int .u8 0, .int .u8 0, .int .u8 0, .int .u8 0, .int .u8 0, .int .u8 0, .int .u8 0, .int .u8 0, .int .u8 0, .int .u8 0, .int .i64 0, .int .u8 0, .int .u8 0, .int .u8 0, .int .u8 0, .int .u8 0, .int .u8 0, .int .u8 0, .int .u8 0, .int .u8 0, .int .u8 0, .int .u8 0, .int .u8 0, .int .u8 0, .int .u8 0, .int .u8 0, .int .u8 0, .int .i64 0, .slice none 0 0, .slice none 0 0, .int .i64 0, .slice none 0 0, .slice none 0 0]⟩ := rfl
theorem ok_58 : TOk Tryd.prog 58 ⟨.st [(0, 23), (16, 3), (17, 23), (33, 45), (36, 45)], 39, 152, [.int .u8 0, .int .u8 0, .int .u8 0, .int .u8 0, .int .u8 0, .int .u8 0, .int .u8 0, .int .u8 0, .int .u8 0, .int .u8 0, .int .u8 0, .int .u8 0, .int .u8 0, .int .u8 0, .int .u8 0, .int .u8 0, .int .i64 0, .int .u8 0, .int .u8 0, .int .u8 0, .int .u8 0, .int .u8 0, .int .u8 0, .int .u8 0, .int .u8 0, .int .u8 0, .int .u8 0, .int .u8 0, .int .u8 0, .int .u8 0, .int .u8 0, .int .u8 0, .int .u8 0, .int .i64 0, .slice none 0 0, .slice none 0 0, .int .i64 0, .slice none 0 0, .slice none 0 0]⟩ := ⟨by kernel_rfl, by kernel_rfl⟩
theorem T_59 : tab 59 = some ⟨.st [(0, 23), (16, 3), (17, 23), (33, 45), (36, 45)], 39, 152, [.int .u8 0, .int .u8 0, .int .u8 0, .int .u8 0, .int .u8 0, .int .u8 0, .int .u8 0, .int .u8 0, .int .u8 0, .int .u8 0, .int .u8 0, .int .u8 0, .int .u8 0, .int .u8 0, .int .u8 0, .int .u8 0, .int .i64 0, .int .u8 0, .int .u8 0, .int .u8 0, .int .u8 0, .int .u8 0, .int .u8 0, .int .u8 0, .int .u8 0, .int .u8 0, .int .u8 0, .int .u8 0, .int .u8 0, .int .u8 0, .int .u8 0, .int .u8 0, .int .u8 0, .int .i64 0, .slice none 0 0, .slice none 0 0, .int .i64 0, .slice none 0 0, .slice none 0 0]⟩ := rfl
theorem ok_59 : TOk Tryd.prog 59 ⟨.st [(0, 23), (16, 3), (17, 23), (33, 45), (36, 45)], 39, 152, [.int .u8 0, .int .u8 0, .int .u8 0, .int .u8 0, .int .u8 0, .int .u8 0, .int .u8 0, .int .u8 0, .int .u8 0, .int .u8 0, .int .u8 0, .int .u8 0, .int .u8 0, .int .u8 0, .int .u8 0, .int .u8 0, .int .i64 0, .int .u8 0, .int .u8 0, .int .u8 0, .int .u8 0, .int .u8 0, .int .u8 0, .int .u8 0, .int .u8 0, .int .u8 0, .int .u8 0, .int .u8 0, .int .u8 0, .int .u8 0, .int .u8 0, .int .u8 0, .int .u8 0, .int .i64 0, .slice none 0 0, .slice none 0 0, .int .i64 0, .slice none 0 0, .slice none 0 0]⟩ := ⟨by kernel_rfl, by kernel_rfl⟩
theorem T_60 : tab 60 = some ⟨.fn, 1, 8, [.nilFunc]⟩ := rfl
theorem ok_60 : TOk Tryd.prog 60 ⟨.fn, 1, 8, [.nilFunc]⟩ := ⟨by kernel_rfl, by kernel_rfl⟩
theorem T_61 : tab 61 = some ⟨.fn, 1, 8, [.nilFunc]⟩ := rfl
theorem ok_61 : TOk Tryd.prog 61 ⟨.fn, 1, 8, [.nilFunc]⟩ := ⟨by kernel_rfl, by kernel_rfl⟩
theorem T_62 : tab 62 = some ⟨.st [(0, 23), (16, 5), (17, 5), (18, 23)], 34, 34, List.replicate 34 (.int .u8 0)⟩ := rfl
theorem ok_62 : TOk Tryd.prog 62 ⟨.st [(0, 23), (16, 5), (17, 5), (18, 23)], 34, 34, List.replicate 34 (.int .u8 0)⟩ := ⟨by kernel_rfl, by kernel_rfl⟩
theorem T_63 : tab 63 = some ⟨.st [(0, 23), (16, 5), (17, 5), (18, 23)], 34, 34, List.replicate 34 (.int .u8 0)⟩ := rfl
theorem ok_63 : TOk Tryd.prog 63 ⟨.st [(0, 23), (16, 5), (17, 5), (18, 23)], 34, 34, List.replicate 34 (.int .u8 0)⟩ := ⟨by kernel_rfl, by kernel_rfl⟩
theorem T_64 : tab 64 = some ⟨.fn, 1, 8, [.nilFunc]⟩ := rfl
theorem ok_64 : TOk Tryd.prog 64 ⟨.fn, 1, 8, [.nilFunc]⟩ := ⟨by kernel_rfl, by kernel_rfl⟩
theorem T_65 : tab 65 = some ⟨.fn, 1, 8, [.nilFunc]⟩ := rfl
theorem ok_65 : TOk Tryd.prog 65 ⟨.fn, 1, 8, [.nilFunc]⟩ := ⟨by kernel_rfl, by kernel_rfl⟩
theorem T_66 : tab 66 = some ⟨.st [(0, 23), (16, 5), (17, 5), (18, 23), (34, 3), (35, 5)], 36, 56, [.int .u8 0, .int .u8 0, .int .u8 0, .int .u8 0, .int .u8 0, .int .u8 0, .int .u8 0, .int .u8 0, .int .u8 0, .int .u8 0, .int .u8 0, .int .u8 0, .int .u8 0, .int .u8 0, .int .u8 0, .int .u8 0, .int .u8 0, .int .u8 0, .int .u8 0, .int .u8 0, .int .u8 0, .int .u8 0, .int .u8 0, .int .u8 0, .int .u8 0, .int .u8 0, .int .u8 0, .int .u8 0, .int .u8 0, .int .u8 0, .int .u8 0, .int .u8 0, .int .u8 0, .int .u8 0, .int .i64 0, .int .u8 0]⟩ := rfl
theorem ok_66 : TOk Tryd.prog 66 ⟨.st [(0, 23), (16, 5), (17, 5), (18, 23), (34, 3), (35, 5)], 36, 56, [.int .u8 0, .int .u8 0, .int .u8 0, .int .u8 0, .int .u8 0, .int .u8 0, .int .u8 0, .int .u8 0, .int .u8 0, .int .u8 0, .int .u8 0, .int .u8 0, .int .u8 0, .int .u8 0, .int .u8 0, .int .u8 0, .int .u8 0, .int .u8 0, .int .u8 0, .int .u8 0, .int .u8 0, .int .u8 0, .int .u8 0, .int .u8 0, .int .u8 0, .int .u8 0, .int .u8 0, .int .u8 0, .int .u8 0, .int .u8 0, .int .u8 0, .int .u8 0, .int .u8 0, .int .u8 0, .int .i64 0, .int .u8 0]⟩ := ⟨by kernel_rfl, by kernel_rfl⟩
theorem T_67 : tab 67 = some ⟨.st [(0, 23), (16, 5), (17, 5), (18, 23), (34, 3), (35, 5)], 36, 56, [.int .u8 0, .int .u8 0, .int .u8 0, .int .u8 0, .int .u8 0, .int .u8 0, .int .u8 0, .int .u8 0, .int .u8 0, .int .u8 0, .int .u8 0, .int .u8 0, .int .u8 0, .int .u8 0, .int .u8 0, .int .u8 0, .int .u8 0, .int .u8 0, .int .u8 0, .int .u8 0, .int .u8 0, .int .u8 0, .int .u8 0, .int .u8 0, .int .u8 0, .int .u8 0, .int .u8 0, .int .u8 0, .int .u8 0, .int .u8 0, .int .u8 0, .int .u8 0, .int .u8 0, .int .u8 0, .int .i64 0, .int .u8 0]⟩ := rfl
theorem ok_67 : TOk Tryd.prog 67 ⟨.st [(0, 23), (16, 5), (17, 5), (18, 23), (34, 3), (35, 5)], 36, 56, [.int .u8 0, .int .u8 0, .int .u8 0, .int .u8 0, .int .u8 0, .int .u8 0, .int .u8 0, .int .u8 0, .int .u8 0, .int .u8 0, .int .u8 0, .int .u8 0, .int .u8 0, .int .u8 0, .int .u8 0, .int .u8 0, .int .u8 0, .int .u8 0, .int .u8 0, .int .u8 0, .int .u8 0, .int .u8 0, .int .u8 0, .int .u8 0, .int .u8 0, .int .u8 0, .int .u8 0, .int .u8 0, .int .u8 0, .int .u8 0, .int .u8 0, .int .u8 0, .int .u8 0, .int .u8 0, .int .i64 0, .int .u8 0]⟩ := ⟨by kernel_rfl, by kernel_rfl⟩
theorem T_68 : tab 68 = some ⟨.fn, 1, 8, [.nilFunc]⟩ := rfl
theorem ok_68 : TOk Tryd.prog 68 ⟨.fn, 1, 8, [.nilFunc]⟩ := ⟨by kernel_rfl, by kernel_rfl⟩
theorem T_69 : tab 69 = some ⟨.st [(0, 23), (16, 3), (17, 23), (33, 45)], 36, 96, [.int .u8 0, .int .u8 0, .int .u8 0, .int .u8 0, .int .u8 0, .int .u8 0, .int .u8 0, .int .u8 0, .int .u8 0, .int .u8 0, .int .u8 0, .int .u8 0, .int .u8 0, .int .u8 0, .int .u8 0, .int .u8 0, .int .i64 0, .int .u8 0, .int .u8 0, .int .u8 0, .int .u8 0, .int .u8 0, .int .u8 0, .int .u8 0, .int .u8 0, .int .u8 0, .int .u8 0, .int .u8 0, .int .u8 0, .int .u8 0, .int .u8 0, .int .u8 0, .int .u8 0, .int .i64 0, .slice none 0 0, .slice none 0 0]⟩ := rfl
theorem ok_69 : TOk Tryd.prog 69 ⟨.st [(0, 23), (16, 3), (17, 23), (33, 45)], 36, 96, [.int .u8 0, .int .u8 0, .int .u8 0, .int .u8 0, .int .u8 0, .int .u8 0, .int .u8 0, .int .u8 0, .int .u8 0, .int .u8 0, .int .u8 0, .int .u8 0, .int .u8 0, .int .u8 0, .int .u8 0, .int .u8 0, .int .i64 0, .int .u8 0, .int .u8 0, .int .u8 0, .int .u8 0, .int .u8 0, .int .u8 0, .int .u8 0, .int .u8 0, .int .u8 0, .int .u8 0, .int .u8 0, .int .u8 0, .int .u8 0, .int .u8 0, .int .u8 0, .int .u8 0, .int .i64 0, .slice none 0 0, .slice none 0 0]⟩ := ⟨by kernel_rfl, by kernel_rfl⟩
theorem T_70 : tab 70 = some ⟨.st [(0, 23), (16, 3), (17, 23), (33, 45)], 36, 96, [.int .u8 0, .int .u8 0, .int .u8 0, .int .u8 0, .int .u8 0, .int .u8 0, .int .u8 0, .int .u8 0, .int .u8 0, .int .u8 0, .int .u8 0, .int .u8 0, .int .u8 0, .int .u8 0, .int .u8 0, .int .u8 0, .int .i64 0, .int .u8 0, .int .u8 0, .int .u8 0, .int .u8 0, .int .u8 0, .int .u8 0, .int .u8 0, .int .u8 0, .int .u8 0, .int .u8 0, .int .u8 0, .int .u8 0, .int .u8 0, .int .u8 0, .int .u8 0, .int .u8 0, .int .i64 0, .slice none 0 0, .slice none 0 0]⟩ := rfl
theorem ok_70 : TOk Tryd.prog 70 ⟨.st [(0, 23), (16, 3), (17, 23), (33, 45)], 36, 96, [.int .u8 0, .int .u8 0, .int .u8 0, .int .u8 0, .int .u8 0, .int .u8 0, .int .u8 0, .int .u8 0, .int .u8 0, .int .u8 0, .int .u8 0, .int .u8 0, .int .u8 0, .int .u8 0, .int .u8 0, .int .u8 0, .int .i64 0, .int .u8 0, .int .u8 0, .int .u8 0, .int .u8 0, .int .u8 0, .int .u8 0, .int .u8 0, .int .u8 0, .int .u8 0, .int .u8 0, .int .u8 0, .int .u8 0, .int .u8 0, .int .u8 0, .int .u8 0, .int .u8 0, .int .i64 0, .slice none 0 0, .slice none 0 0]⟩ := ⟨by kernel_rfl, by kernel_rfl⟩
theorem T_71 : tab 71 = some ⟨.fn, 1, 8, [.nilFunc]⟩ := rfl
theorem ok_71 : TOk Tryd.prog 71 ⟨.fn, 1, 8, [.nilFunc]⟩ := ⟨by kernel_rfl, by kernel_rfl⟩
theorem T_72 : tab 72 = some ⟨.fn, 1, 8, [.nilFunc]⟩ := rfl
theorem ok_72 : TOk Tryd.prog 72 ⟨.fn, 1, 8, [.nilFunc]⟩ := ⟨by kernel_rfl, by kernel_rfl⟩
theorem T_73 : tab 73 = some ⟨.fn, 1, 8, [.nilFunc]⟩ := rfl
theorem ok_73 : TOk Tryd.prog 73 ⟨.fn, 1, 8, [.nilFunc]⟩ := ⟨by kernel_rfl, by kernel_rfl⟩
theorem T_74 : tab 74 = some ⟨.fn, 1, 8, [.nilFunc]⟩ := rfl
theorem ok_74 : TOk Tryd.prog 74 ⟨.fn, 1, 8, [.nilFunc]⟩ := ⟨by kernel_rfl, by kernel_rfl⟩
theorem T_75 : tab 75 = some ⟨.fn, 1, 8, [.nilFunc]⟩ := rfl
theorem ok_75 : TOk Tryd.prog 75 ⟨.fn, 1, 8, [.nilFunc]⟩ := ⟨by kernel_rfl, by kernel_rfl⟩
theorem T_76 : tab 76 = some ⟨.st [(0, 3), (1, 3), (2, 3), (3, 43)], 4, 48, [.int .i64 0, .int .i64 0, .int .i64 0, .slice none 0 0]⟩ := rfl
theorem ok_76 : TOk Tryd.prog 76 ⟨.st [(0, 3), (1, 3), (2, 3), (3, 43)], 4, 48, [.int .i64 0, .int .i64 0, .int .i64 0, .slice none 0 0]⟩ := ⟨by kernel_rfl, by kernel_rfl⟩
theorem T_77 : tab 77 = some ⟨.st [(0, 3), (1, 3), (2, 3), (3, 43)], 4, 48, [.int .i64 0, .int .i64 0, .int .i64 0, .slice none 0 0]⟩ := rfl
theorem ok_77 : TOk Tryd.prog 77 ⟨.st [(0, 3), (1, 3), (2, 3), (3, 43)], 4, 48, [.int .i64 0, .int .i64 0, .int .i64 0, .slice none 0 0]⟩ := ⟨by kernel_rfl, by kernel_rfl⟩
theorem T_78 : tab 78 = some ⟨.sl 95, 1, 24, [.slice none 0 0]⟩ := rfl
theorem ok_78 : TOk Tryd.prog 78 ⟨.sl 95, 1, 24, [.slice none 0 0]⟩ := ⟨by kernel_rfl, by kernel_rfl⟩
theorem T_79 : tab 79 = some ⟨.fn, 1, 8, [.nilFunc]⟩ := rfl
theorem ok_79 : TOk Tryd.prog 79 ⟨.fn, 1, 8, [.nilFunc]⟩ := ⟨by kernel_rfl, by kernel_rfl⟩
theorem T_80 : tab 80 = some ⟨.fn, 1, 8, [.nilFunc]⟩ := rfl
theorem ok_80 : TOk Tryd.prog 80 ⟨.fn, 1, 8, [.nilFunc]⟩ := ⟨by kernel_rfl, by kernel_rfl⟩
theorem T_81 : tab 81 = some ⟨.fn, 1, 8, [.nilFunc]⟩ := rfl
theorem ok_81 : TOk Tryd.prog 81 ⟨.fn, 1, 8, [.nilFunc]⟩ := ⟨by kernel_rfl, by kernel_rfl⟩
theorem T_82 : tab 82 = some ⟨.fn, 1, 8, [.nilFunc]⟩ := rfl
theorem ok_82 : TOk Tryd.prog 82 ⟨.fn, 1, 8, [.nilFunc]⟩ := ⟨by kernel_rfl, by kernel_rfl⟩
theorem T_83 : tab 83 = some ⟨.fn, 1, 8, [.nilFunc]⟩ := rfl
theorem ok_83 : TOk Tryd.prog 83 ⟨.fn, 1, 8, [.nilFunc]⟩ := ⟨by kernel_rfl, by kernel_rfl⟩
theorem T_84 : tab 84 = some ⟨.fn, 1, 8, [.nilFunc]⟩ := rfl
theorem ok_84 : TOk Tryd.prog 84 ⟨.fn, 1, 8, [.nilFunc]⟩ := ⟨by kernel_rfl, by kernel_rfl⟩
theorem T_85 : tab 85 = some ⟨.fn, 1, 8, [.nilFunc]⟩ := rfl
theorem ok_85 : TOk Tryd.prog 85 ⟨.fn, 1, 8, [.nilFunc]⟩ := ⟨by kernel_rfl, by kernel_rfl⟩
theorem T_86 : tab 86 = some ⟨.fn, 1, 8, [.nilFunc]⟩ := rfl
theorem ok_86 : TOk Tryd.prog 86 ⟨.fn, 1, 8, [.nilFunc]⟩ := ⟨by kernel_rfl, by kernel_rfl⟩
theorem T_87 : tab 87 = some ⟨.fn, 1, 8, [.nilFunc]⟩ := rfl
theorem ok_87 : TOk Tryd.prog 87 ⟨.fn, 1, 8, [.nilFunc]⟩ := ⟨by kernel_rfl, by kernel_rfl⟩
theorem T_88 : tab 88 = some ⟨.fn, 1, 8, [.nilFunc]⟩ := rfl
theorem ok_88 : TOk Tryd.prog 88 ⟨.fn, 1, 8, [.nilFunc]⟩ := ⟨by kernel_rfl, by kernel_rfl⟩
theorem T_90 : tab 90 = some ⟨.fn, 1, 8, [.nilFunc]⟩ := rfl
theorem ok_90 : TOk Tryd.prog 90 ⟨.fn, 1, 8, [.nilFunc]⟩ := ⟨by kernel_rfl, by kernel_rfl⟩
theorem T_91 : tab 91 = some ⟨.st [(0, 77), (4, 78)], 5, 72, [.int .i64 0, .int .i64 0, .int .i64 0, .slice none 0 0, .slice none 0 0]⟩ := rfl
theorem ok_91 : TOk Tryd.prog 91 ⟨.st [(0, 77), (4, 78)], 5, 72, [.int .i64 0, .int .i64 0, .int .i64 0, .slice none 0 0, .slice none 0 0]⟩ := ⟨by kernel_rfl, by kernel_rfl⟩
theorem T_92 : tab 92 = some ⟨.st [(0, 77), (4, 78)], 5, 72, [.int .i64 0, .int .i64 0, .int .i64 0, .slice none 0 0, .slice none 0 0]⟩ := rfl
theorem ok_92 : TOk Tryd.prog 92 ⟨.st [(0, 77), (4, 78)], 5, 72, [.int .i64 0, .int .i64 0, .int .i64 0, .slice none 0 0, .slice none 0 0]⟩ := ⟨by kernel_rfl, by kernel_rfl⟩
theorem T_93 : tab 93 = some ⟨.fn, 1, 8, [.nilFunc]⟩ := rfl
theorem ok_93 : TOk Tryd.prog 93 ⟨.fn, 1, 8, [.nilFunc]⟩ := ⟨by kernel_rfl, by kernel_rfl⟩
theorem T_94 : tab 94 = some ⟨.st [(0, 3), (1, 45)], 4, 64, [.int .i64 0, .int .i64 0, .slice none 0 0, .slice none 0 0]⟩ := rfl
theorem ok_94 : TOk Tryd.prog 94 ⟨.st [(0, 3), (1, 45)], 4, 64, [.int .i64 0, .int .i64 0, .slice none 0 0, .slice none 0 0]⟩ := ⟨by kernel_rfl, by kernel_rfl⟩
theorem T_95 : tab 95 = some ⟨.st [(0, 3), (1, 45)], 4, 64, [.int .i64 0, .int .i64 0, .slice none 0 0, .slice none 0 0]⟩ := rfl
theorem ok_95 : TOk Tryd.prog 95 ⟨.st [(0, 3), (1, 45)], 4, 64, [.int .i64 0, .int .i64 0, .slice none 0 0, .slice none 0 0]⟩ := ⟨by kernel_rfl, by kernel_rfl⟩
theorem T_96 : tab 96 = some ⟨.fn, 1, 8, [.nilFunc]⟩ := rfl
theorem ok_96 : TOk Tryd.prog 96 ⟨.fn, 1, 8, [.nilFunc]⟩ := ⟨by kernel_rfl, by kernel_rfl⟩
theorem T_97 : tab 97 = some ⟨.st [(0, 3), (1, 3), (2, 3), (3, 43)], 4, 48, [.int .i64 0, .int .i64 0, .int .i64 0, .slice none 0 0]⟩ := rfl
theorem ok_97 : TOk Tryd.prog 97 ⟨.st [(0, 3), (1, 3), (2, 3), (3, 43)], 4, 48, [.int .i64 0, .int .i64 0, .int .i64 0, .slice none 0 0]⟩ := ⟨by kernel_rfl, by kernel_rfl⟩
theorem T_98 : tab 98 = some ⟨.st [(0, 3), (1, 3), (2, 3), (3, 43)], 4, 48, [.int .i64 0, .int .i64 0, .int .i64 0, .slice none 0 0]⟩ := rfl
theorem ok_98 : TOk Tryd.prog 98 ⟨.st [(0, 3), (1, 3), (2, 3), (3, 43)], 4, 48, [.int .i64 0, .int .i64 0, .int .i64 0, .slice none 0 0]⟩ := ⟨by kernel_rfl, by kernel_rfl⟩
theorem T_99 : tab 99 = some ⟨.fn, 1, 8, [.nilFunc]⟩ := rfl
theorem ok_99 : TOk Tryd.prog 99 ⟨.fn, 1, 8, [.nilFunc]⟩ := ⟨by kernel_rfl, by kernel_rfl⟩
theorem T_100 : tab 100 = some ⟨.fn, 1, 8, [.nilFunc]⟩ := rfl
theorem ok_100 : TOk Tryd.prog 100 ⟨.fn, 1, 8, [.nilFunc]⟩ := ⟨by kernel_rfl, by kernel_rfl⟩
theorem T_101 : tab 101 = some ⟨.st [(0, 98), (4, 78), (5, 30)], 6, 96, [.int .i64 0, .int .i64 0, .int .i64 0, .slice none 0 0, .slice none 0 0, .slice none 0 0]⟩ := rfl
theorem ok_101 : TOk Tryd.prog 101 ⟨.st [(0, 98), (4, 78), (5, 30)], 6, 96, [.int .i64 0, .int .i64 0, .int .i64 0, .slice none 0 0, .slice none 0 0, .slice none 0 0]⟩ := ⟨by kernel_rfl, by kernel_rfl⟩
theorem T_102 : tab 102 = some ⟨.st [(0, 98), (4, 78), (5, 30)], 6, 96, [.int .i64 0, .int .i64 0, .int .i64 0, .slice none 0 0, .slice none 0 0, .slice none 0 0]⟩ := rfl
theorem ok_102 : TOk Tryd.prog 102 ⟨.st [(0, 98), (4, 78), (5, 30)], 6, 96, [.int .i64 0, .int .i64 0, .int .i64 0, .slice none 0 0, .slice none 0 0, .slice none 0 0]⟩ := ⟨by kernel_rfl, by kernel_rfl⟩
theorem T_103 : tab 103 = some ⟨.fn, 1, 8, [.nilFunc]⟩ := rfl
theorem ok_103 : TOk Tryd.prog 103 ⟨.fn, 1, 8, [.nilFunc]⟩ := ⟨by kernel_rfl, by kernel_rfl⟩
theorem T_104 : tab 104 = some ⟨.fn, 1, 8, [.nilFunc]⟩ := rfl
theorem ok_104 : TOk Tryd.prog 104 ⟨.fn, 1, 8, [.nilFunc]⟩ := ⟨by kernel_rfl, by kernel_rfl⟩
theorem T_105 : tab 105 = some ⟨.fn, 1, 8, [.nilFunc]⟩ := rfl
theorem ok_105 : TOk Tryd.prog 105 ⟨.fn, 1, 8, [.nilFunc]⟩ := ⟨by kernel_rfl, by kernel_rfl⟩
theorem T_106 : tab 106 = some ⟨.fn, 1, 8, [.nilFunc]⟩ := rfl
theorem ok_106 : TOk Tryd.prog 106 ⟨.fn, 1, 8, [.nilFunc]⟩ := ⟨by kernel_rfl, by kernel_rfl⟩
theorem T_107 : tab 107 = some ⟨.sl 3, 1, 24, [.slice none 0 0]⟩ := rfl
theorem ok_107 : TOk Tryd.prog 107 ⟨.sl 3, 1, 24, [.slice none 0 0]⟩ := ⟨by kernel_rfl, by kernel_rfl⟩
theorem T_109 : tab 109 = some ⟨.fn, 1, 8, [.nilFunc]⟩ := rfl
theorem ok_109 : TOk Tryd.prog 109 ⟨.fn, 1, 8, [.nilFunc]⟩ := ⟨by kernel_rfl, by kernel_rfl⟩
theorem T_111 : tab 111 = some ⟨.fn, 1, 8, [.nilFunc]⟩ := rfl
theorem ok_111 : TOk Tryd.prog 111 ⟨.fn, 1, 8, [.nilFunc]⟩ := ⟨by kernel_rfl, by kernel_rfl⟩
theorem T_112 : tab 112 = some ⟨.fn, 1, 8, [.nilFunc]⟩ := rfl
theorem ok_112 : TOk Tryd.prog 112 ⟨.fn, 1, 8, [.nilFunc]⟩ := ⟨by kernel_rfl, by kernel_rfl⟩
theorem T_113 : tab 113 = some ⟨.fn, 1, 8, [.nilFunc]⟩ := rfl
theorem ok_113 : TOk Tryd.prog 113 ⟨.fn, 1, 8, [.nilFunc]⟩ := ⟨by kernel_rfl, by kernel_rfl⟩
theorem T_114 : tab 114 = some ⟨.fn, 1, 8, [.nilFunc]⟩ := rfl
theorem ok_114 : TOk Tryd.prog 114 ⟨.fn, 1, 8, [.nilFunc]⟩ := ⟨by kernel_rfl, by kernel_rfl⟩
theorem T_115 : tab 115 = some ⟨.fn, 1, 8, [.nilFunc]⟩ := rfl
theorem ok_115 : TOk Tryd.prog 115 ⟨.fn, 1, 8, [.nilFunc]⟩ := ⟨by kernel_rfl, by kernel_rfl⟩
theorem T_116 : tab 116 = some ⟨.fn, 1, 8, [.nilFunc]⟩ := rfl
theorem ok_116 : TOk Tryd.prog 116 ⟨.fn, 1, 8, [.nilFunc]⟩ := ⟨by kernel_rfl, by kernel_rfl⟩
theorem T_117 : tab 117 = some ⟨.fn, 1, 8, [.nilFunc]⟩ := rfl
theorem ok_117 : TOk Tryd.prog 117 ⟨.fn, 1, 8, [.nilFunc]⟩ := ⟨by kernel_rfl, by kernel_rfl⟩
theorem T_118 : tab 118 = some ⟨.fn, 1, 8, [.nilFunc]⟩ := rfl
theorem ok_118 : TOk Tryd.prog 118 ⟨.fn, 1, 8, [.nilFunc]⟩ := ⟨by kernel_rfl, by kernel_rfl⟩
theorem T_120 : tab 120 = some ⟨.fn, 1, 8, [.nilFunc]⟩ := rfl
theorem ok_120 : TOk Tryd.prog 120 ⟨.fn, 1, 8, [.nilFunc]⟩ := ⟨by kernel_rfl, by kernel_rfl⟩
theorem T_121 : tab 121 = some ⟨.fn, 1, 8, [.nilFunc]⟩ := rfl
theorem ok_121 : TOk Tryd.prog 121 ⟨.fn, 1, 8, [.nilFunc]⟩ := ⟨by kernel_rfl, by kernel_rfl⟩
theorem T_122 : tab 122 = some ⟨.fn, 1, 8, [.nilFunc]⟩ := rfl
theorem ok_122 : TOk Tryd.prog 122 ⟨.fn, 1, 8, [.nilFunc]⟩ := ⟨by kernel_rfl, by kernel_rfl⟩
theorem T_123 : tab 123 = some ⟨.fn, 1, 8, [.nilFunc]⟩ := rfl
theorem ok_123 : TOk Tryd.prog 123 ⟨.fn, 1, 8, [.nilFunc]⟩ := ⟨by kernel_rfl, by kernel_rfl⟩
theorem T_124 : tab 124 = some ⟨.fn, 1, 8, [.nilFunc]⟩ := rfl
theorem ok_124 : TOk Tryd.prog 124 ⟨.fn, 1, 8, [.nilFunc]⟩ := ⟨by kernel_rfl, by kernel_rfl⟩
theorem T_125 : tab 125 = some ⟨.fn, 1, 8, [.nilFunc]⟩ := rfl
theorem ok_125 : TOk Tryd.prog 125 ⟨.fn, 1, 8, [.nilFunc]⟩ := ⟨by kernel_rfl, by kernel_rfl⟩
theorem T_126 : tab 126 = some ⟨.fn, 1, 8, [.nilFunc]⟩ := rfl
theorem ok_126 : TOk Tryd.prog 126 ⟨.fn, 1, 8, [.nilFunc]⟩ := ⟨by kernel_rfl, by kernel_rfl⟩
theorem T_127 : tab 127 = some ⟨.fn, 1, 8, [.nilFunc]⟩ := rfl
theorem ok_127 : TOk Tryd.prog 127 ⟨.fn, 1, 8, [.nilFunc]⟩ := ⟨by kernel_rfl, by kernel_rfl⟩
theorem T_128 : tab 128 = some ⟨.arr 32 5, 32, 32, List.replicate 32 (.int .u8 0)⟩ := rfl
theorem ok_128 : TOk Tryd.prog 128 ⟨.arr 32 5, 32, 32, List.replicate 32 (.int .u8 0)⟩ := ⟨by kernel_rfl, by kernel_rfl⟩
theorem T_129 : tab 129 = some ⟨.fn, 1, 8, [.nilFunc]⟩ := rfl
theorem ok_129 : TOk Tryd.prog 129 ⟨.fn, 1, 8, [.nilFunc]⟩ := ⟨by kernel_rfl, by kernel_rfl⟩
theorem T_130 : tab 130 = some ⟨.fn, 1, 8, [.nilFunc]⟩ := rfl
theorem ok_130 : TOk Tryd.prog 130 ⟨.fn, 1, 8, [.nilFunc]⟩ := ⟨by kernel_rfl, by kernel_rfl⟩
theorem T_131 : tab 131 = some ⟨.st [(0, 77), (4, 23), (20, 78)], 21, 88, [.int .i64 0, .int .i64 0, .int .i64 0, .slice none 0 0, .int .u8 0, .int .u8 0, .int .u8 0, .int .u8 0, .int .u8 0, .int .u8 0, .int .u8 0, .int .u8 0, .int .u8 0, .int .u8 0, .int .u8 0, .int .u8 0, .int .u8 0, .int .u8 0, .int .u8 0, .int .u8 0, .slice none 0 0]⟩ := rfl
theorem ok_131 : TOk Tryd.prog 131 ⟨.st [(0, 77), (4, 23), (20, 78)], 21, 88, [.int .i64 0, .int .i64 0, .int .i64 0, .slice none 0 0, .int .u8 0, .int .u8 0, .int .u8 0, .int .u8 0, .int .u8 0, .int .u8 0, .int .u8 0, .int .u8 0, .int .u8 0, .int .u8 0, .int .u8 0, .int .u8 0, .int .u8 0, .int .u8 0, .int .u8 0, .int .u8 0, .slice none 0 0]⟩ := ⟨by kernel_rfl, by kernel_rfl⟩
theorem T_132 : tab 132 = some ⟨.st [(0, 77), (4, 23), (20, 78)], 21, 88, [.int .i64 0, .int .i64 0, .int .i64 0, .slice none 0 0, .int .u8 0, .int .u8 0, .int .u8 0, .int .u8 0, .int .u8 0, .int .u8 0, .int .u8 0, .int .u8 0, .int .u8 0, .int .u8 0, .int .u8 0, .int .u8 0, .int .u8 0, .int .u8 0, .int .u8 0, .int .u8 0, .slice none 0 0]⟩ := rfl
theorem ok_132 : TOk Tryd.prog 132 ⟨.st [(0, 77), (4, 23), (20, 78)], 21, 88, [.int .i64 0, .int .i64 0, .int .i64 0, .slice none 0 0, .int .u8 0, .int .u8 0, .int .u8 0, .int .u8 0, .int .u8 0, .int .u8 0, .int .u8 0, .int .u8 0, .int .u8 0, .int .u8 0, .int .u8 0, .int .u8 0, .int .u8 0, .int .u8 0, .int .u8 0, .int .u8 0, .slice none 0 0]⟩ := ⟨by kernel_rfl, by kernel_rfl⟩
theorem T_133 : tab 133 = some ⟨.fn, 1, 8, [.nilFunc]⟩ := rfl
theorem ok_133 : TOk Tryd.prog 133 ⟨.fn, 1, 8, [.nilFunc]⟩ := ⟨by kernel_rfl, by kernel_rfl⟩
theorem T_134 : tab 134 = some ⟨.fn, 1, 8, [.nilFunc]⟩ := rfl
theorem ok_134 : TOk Tryd.prog 134 ⟨.fn, 1, 8, [.nilFunc]⟩ := ⟨by kernel_rfl, by kernel_rfl⟩
theorem T_135 : tab 135 = some ⟨.fn, 1, 8, [.nilFunc]⟩ := rfl
theorem ok_135 : TOk Tryd.prog 135 ⟨.fn, 1, 8, [.nilFunc]⟩ := ⟨by kernel_rfl, by kernel_rfl⟩
theorem T_136 : tab 136 = some ⟨.fn, 1, 8, [.nilFunc]⟩ := rfl
theorem ok_136 : TOk Tryd.prog 136 ⟨.fn, 1, 8, [.nilFunc]⟩ := ⟨by kernel_rfl, by kernel_rfl⟩
theorem T_137 : tab 137 = some ⟨.fn, 1, 8, [.nilFunc]⟩ := rfl
theorem ok_137 : TOk Tryd.prog 137 ⟨.fn, 1, 8, [.nilFunc]⟩ := ⟨by kernel_rfl, by kernel_rfl⟩
theorem T_138 : tab 138 = some ⟨.fn, 1, 8, [.nilFunc]⟩ := rfl
theorem ok_138 : TOk Tryd.prog 138 ⟨.fn, 1, 8, [.nilFunc]⟩ := ⟨by kernel_rfl, by kernel_rfl⟩
theorem T_139 : tab 139 = some ⟨.fn, 1, 8, [.nilFunc]⟩ := rfl
theorem ok_139 : TOk Tryd.prog 139 ⟨.fn, 1, 8, [.nilFunc]⟩ := ⟨by kernel_rfl, by kernel_rfl⟩
theorem T_140 : tab 140 = some ⟨.fn, 1, 8, [.nilFunc]⟩ := rfl
theorem ok_140 : TOk Tryd.prog 140 ⟨.fn, 1, 8, [.nilFunc]⟩ := ⟨by kernel_rfl, by kernel_rfl⟩
theorem T_141 : tab 141 = some ⟨.fn, 1, 8, [.nilFunc]⟩ := rfl
theorem ok_141 : TOk Tryd.prog 141 ⟨.fn, 1, 8, [.nilFunc]⟩ := ⟨by kernel_rfl, by kernel_rfl⟩
theorem T_142 : tab 142 = some ⟨.st [(0, 3), (1, 3), (2, 3), (3, 9)], 4, 40, [.int .i64 0, .int .i64 0, .int .i64 0, .string ByteArray.empty]⟩ := rfl
theorem ok_142 : TOk Tryd.prog 142 ⟨.st [(0, 3), (1, 3), (2, 3), (3, 9)], 4, 40, [.int .i64 0, .int .i64 0, .int .i64 0, .string ByteArray.empty]⟩ := ⟨by kernel_rfl, by kernel_rfl⟩
theorem T_143 : tab 143 = some ⟨.st [(0, 3), (1, 3), (2, 3), (3, 9)], 4, 40, [.int .i64 0, .int .i64 0, .int .i64 0, .string ByteArray.empty]⟩ := rfl
theorem ok_143 : TOk Tryd.prog 143 ⟨.st [(0, 3), (1, 3), (2, 3), (3, 9)], 4, 40, [.int .i64 0, .int .i64 0, .int .i64 0, .string ByteArray.empty]⟩ := ⟨by kernel_rfl, by kernel_rfl⟩
theorem T_144 : tab 144 = some ⟨.st [(0, 3), (1, 9)], 2, 24, [.int .i64 0, .string ByteArray.empty]⟩ := rfl
theorem ok_144 : TOk Tryd.prog 144 ⟨.st [(0, 3), (1, 9)], 2, 24, [.int .i64 0, .string ByteArray.empty]⟩ := ⟨by kernel_rfl, by kernel_rfl⟩
theorem T_145 : tab 145 = some ⟨.st [(0, 3), (1, 9)], 2, 24, [.int .i64 0, .string ByteArray.empty]⟩ := rfl
theorem ok_145 : TOk Tryd.prog 145 ⟨.st [(0, 3), (1, 9)], 2, 24, [.int .i64 0, .string ByteArray.empty]⟩ := ⟨by kernel_rfl, by kernel_rfl⟩
theorem T_147 : tab 147 = some ⟨.fn, 1, 8, [.nilFunc]⟩ := rfl
theorem ok_147 : TOk Tryd.prog 147 ⟨.fn, 1, 8, [.nilFunc]⟩ := ⟨by kernel_rfl, by kernel_rfl⟩
theorem T_148 : tab 148 = some ⟨.st [], 0, 0, []⟩ := rfl
theorem ok_148 : TOk Tryd.prog 148 ⟨.st [], 0, 0, []⟩ := ⟨by kernel_rfl, by kernel_rfl⟩
theorem T_149 : tab 149 = some ⟨.st [], 0, 0, []⟩ := rfl
theorem ok_149 : TOk Tryd.prog 149 ⟨.st [], 0, 0, []⟩ := ⟨by kernel_rfl, by kernel_rfl⟩
theorem T_150 : tab 150 = some ⟨.fn, 1, 8, [.nilFunc]⟩ := rfl
theorem ok_150 : TOk Tryd.prog 150 ⟨.fn, 1, 8, [.nilFunc]⟩ := ⟨by kernel_rfl, by kernel_rfl⟩
theorem T_151 : tab 151 = some ⟨.fn, 1, 8, [.nilFunc]⟩ := rfl
theorem ok_151 : TOk Tryd.prog 151 ⟨.fn, 1, 8, [.nilFunc]⟩ := ⟨by kernel_rfl, by kernel_rfl⟩
theorem T_152 : tab 152 = some ⟨.fn, 1, 8, [.nilFunc]⟩ := rfl
theorem ok_152 : TOk Tryd.prog 152 ⟨.fn, 1, 8, [.nilFunc]⟩ := ⟨by kernel_rfl, by kernel_rfl⟩
theorem T_153 : tab 153 = some ⟨.sl 4, 1, 24, [.slice none 0 0]⟩ := rfl
theorem ok_153 : TOk Tryd.prog 153 ⟨.sl 4, 1, 24, [.slice none 0 0]⟩ := ⟨by kernel_rfl, by kernel_rfl⟩
theorem T_154 : tab 154 = some ⟨.fn, 1, 8, [.nilFunc]⟩ := rfl
theorem ok_154 : TOk Tryd.prog 154 ⟨.fn, 1, 8, [.nilFunc]⟩ := ⟨by kernel_rfl, by kernel_rfl⟩
theorem T_155 : tab 155 = some ⟨.fn, 1, 8, [.nilFunc]⟩ := rfl
theorem ok_155 : TOk Tryd.prog 155 ⟨.fn, 1, 8, [.nilFunc]⟩ := ⟨by kernel_rfl, by kernel_rfl⟩
theorem T_157 : tab 157 = some ⟨.fn, 1, 8, [.nilFunc]⟩ := rfl
theorem ok_157 : TOk Tryd.prog 157 ⟨.fn, 1, 8, [.nilFunc]⟩ := ⟨by kernel_rfl, by kernel_rfl⟩
theorem T_158 : tab 158 = some ⟨.arr 68 3, 68, 544, List.replicate 68 (.int .i64 0)⟩ := rfl
theorem ok_158 : TOk Tryd.prog 158 ⟨.arr 68 3, 68, 544, List.replicate 68 (.int .i64 0)⟩ := ⟨by kernel_rfl, by kernel_rfl⟩
theorem T_159 : tab 159 = some ⟨.fn, 1, 8, [.nilFunc]⟩ := rfl
theorem ok_159 : TOk Tryd.prog 159 ⟨.fn, 1, 8, [.nilFunc]⟩ := ⟨by kernel_rfl, by kernel_rfl⟩
theorem T_160 : tab 160 = some ⟨.int .u64, 1, 8, [.int .u64 0]⟩ := rfl
theorem ok_160 : TOk Tryd.prog 160 ⟨.int .u64, 1, 8, [.int .u64 0]⟩ := ⟨by kernel_rfl, by kernel_rfl⟩
theorem T_161 : tab 161 = some ⟨.sl 25, 1, 24, [.slice none 0 0]⟩ := rfl
theorem ok_161 : TOk Tryd.prog 161 ⟨.sl 25, 1, 24, [.slice none 0 0]⟩ := ⟨by kernel_rfl, by kernel_rfl⟩
theorem T_162 : tab 162 = some ⟨.fn, 1, 8, [.nilFunc]⟩ := rfl
theorem ok_162 : TOk Tryd.prog 162 ⟨.fn, 1, 8, [.nilFunc]⟩ := ⟨by kernel_rfl, by kernel_rfl⟩
theorem T_163 : tab 163 = some ⟨.fn, 1, 8, [.nilFunc]⟩ := rfl
theorem ok_163 : TOk Tryd.prog 163 ⟨.fn, 1, 8, [.nilFunc]⟩ := ⟨by kernel_rfl, by kernel_rfl⟩
theorem T_164 : tab 164 = some ⟨.fn, 1, 8, [.nilFunc]⟩ := rfl
theorem ok_164 : TOk Tryd.prog 164 ⟨.fn, 1, 8, [.nilFunc]⟩ := ⟨by kernel_rfl, by kernel_rfl⟩
theorem T_165 : tab 165 = some ⟨.sl 134, 1, 24, [.slice none 0 0]⟩ := rfl
theorem ok_165 : TOk Tryd.prog 165 ⟨.sl 134, 1, 24, [.slice none 0 0]⟩ := ⟨by kernel_rfl, by kernel_rfl⟩
theorem T_166 : tab 166 = some ⟨.fn, 1, 8, [.nilFunc]⟩ := rfl
theorem ok_166 : TOk Tryd.prog 166 ⟨.fn, 1, 8, [.nilFunc]⟩ := ⟨by kernel_rfl, by kernel_rfl⟩
theorem T_167 : tab 167 = some ⟨.fn, 1, 8, [.nilFunc]⟩ := rfl
theorem ok_167 : TOk Tryd.prog 167 ⟨.fn, 1, 8, [.nilFunc]⟩ := ⟨by kernel_rfl, by kernel_rfl⟩
theorem T_168 : tab 168 = some ⟨.fn, 1, 8, [.nilFunc]⟩ := rfl
theorem ok_168 : TOk Tryd.prog 168 ⟨.fn, 1, 8, [.nilFunc]⟩ := ⟨by kernel_rfl, by kernel_rfl⟩
theorem T_169 : tab 169 = some ⟨.fn, 1, 8, [.nilFunc]⟩ := rfl
theorem ok_169 : TOk Tryd.prog 169 ⟨.fn, 1, 8, [.nilFunc]⟩ := ⟨by kernel_rfl, by kernel_rfl⟩
theorem T_170 : tab 170 = some ⟨.fn, 1, 8, [.nilFunc]⟩ := rfl
theorem ok_170 : TOk Tryd.prog 170 ⟨.fn, 1, 8, [.nilFunc]⟩ := ⟨by kernel_rfl, by kernel_rfl⟩
theorem T_171 : tab 171 = some ⟨.fn, 1, 8, [.nilFunc]⟩ := rfl
theorem ok_171 : TOk Tryd.prog 171 ⟨.fn, 1, 8, [.nilFunc]⟩ := ⟨by kernel_rfl, by kernel_rfl⟩
theorem T_172 : tab 172 = some ⟨.fn, 1, 8, [.nilFunc]⟩ := rfl
theorem ok_172 : TOk Tryd.prog 172 ⟨.fn, 1, 8, [.nilFunc]⟩ := ⟨by kernel_rfl, by kernel_rfl⟩
theorem T_173 : tab 173 = some ⟨.st [(0, 171), (1, 172)], 2, 16, [.nilFunc, .nilFunc]⟩ := rfl
theorem ok_173 : TOk Tryd.prog 173 ⟨.st [(0, 171), (1, 172)], 2, 16, [.nilFunc, .nilFunc]⟩ := ⟨by kernel_rfl, by kernel_rfl⟩
theorem T_174 : tab 174 = some ⟨.st [(0, 171), (1, 172)], 2, 16, [.nilFunc, .nilFunc]⟩ := rfl
theorem ok_174 : TOk Tryd.prog 174 ⟨.st [(0, 171), (1, 172)], 2, 16, [.nilFunc, .nilFunc]⟩ := ⟨by kernel_rfl, by kernel_rfl⟩
theorem T_175 : tab 175 = some ⟨.arr 5 174, 10, 80, List.replicate 10 (.nilFunc)⟩ := rfl
theorem ok_175 : TOk Tryd.prog 175 ⟨.arr 5 174, 10, 80, List.replicate 10 (.nilFunc)⟩ := ⟨by kernel_rfl, by kernel_rfl⟩
theorem T_176 : tab 176 = some ⟨.fn, 1, 8, [.nilFunc]⟩ := rfl
theorem ok_176 : TOk Tryd.prog 176 ⟨.fn, 1, 8, [.nilFunc]⟩ := ⟨by kernel_rfl, by kernel_rfl⟩
theorem T_178 : tab 178 = some ⟨.ptr 34, 1, 8, [.pointer none]⟩ := rfl
theorem ok_178 : TOk Tryd.prog 178 ⟨.ptr 34, 1, 8, [.pointer none]⟩ := ⟨by kernel_rfl, by kernel_rfl⟩
theorem T_179 : tab 179 = some ⟨.fn, 1, 8, [.nilFunc]⟩ := rfl
theorem ok_179 : TOk Tryd.prog 179 ⟨.fn, 1, 8, [.nilFunc]⟩ := ⟨by kernel_rfl, by kernel_rfl⟩
theorem T_181 : tab 181 = some ⟨.fn, 1, 8, [.nilFunc]⟩ := rfl
theorem ok_181 : TOk Tryd.prog 181 ⟨.fn, 1, 8, [.nilFunc]⟩ := ⟨by kernel_rfl, by kernel_rfl⟩
theorem T_182 : tab 182 = some ⟨.fn, 1, 8, [.nilFunc]⟩ := rfl
theorem ok_182 : TOk Tryd.prog 182 ⟨.fn, 1, 8, [.nilFunc]⟩ := ⟨by kernel_rfl, by kernel_rfl⟩
theorem T_183 : tab 183 = some ⟨.fn, 1, 8, [.nilFunc]⟩ := rfl
theorem ok_183 : TOk Tryd.prog 183 ⟨.fn, 1, 8, [.nilFunc]⟩ := ⟨by kernel_rfl, by kernel_rfl⟩
theorem T_184 : tab 184 = some ⟨.int .u64, 1, 8, [.int .u64 0]⟩ := rfl
theorem ok_184 : TOk Tryd.prog 184 ⟨.int .u64, 1, 8, [.int .u64 0]⟩ := ⟨by kernel_rfl, by kernel_rfl⟩
theorem T_185 : tab 185 = some ⟨.fn, 1, 8, [.nilFunc]⟩ := rfl
theorem ok_185 : TOk Tryd.prog 185 ⟨.fn, 1, 8, [.nilFunc]⟩ := ⟨by kernel_rfl, by kernel_rfl⟩
theorem T_186 : tab 186 = some ⟨.fn, 1, 8, [.nilFunc]⟩ := rfl
theorem ok_186 : TOk Tryd.prog 186 ⟨.fn, 1, 8, [.nilFunc]⟩ := ⟨by kernel_rfl, by kernel_rfl⟩
theorem T_187 : tab 187 = some ⟨.fn, 1, 8, [.nilFunc]⟩ := rfl
theorem ok_187 : TOk Tryd.prog 187 ⟨.fn, 1, 8, [.nilFunc]⟩ := ⟨by kernel_rfl, by kernel_rfl⟩
theorem T_188 : tab 188 = some ⟨.fn, 1, 8, [.nilFunc]⟩ := rfl
theorem ok_188 : TOk Tryd.prog 188 ⟨.fn, 1, 8, [.nilFunc]⟩ := ⟨by kernel_rfl, by kernel_rfl⟩
theorem T_189 : tab 189 = some ⟨.fn, 1, 8, [.nilFunc]⟩ := rfl
theorem ok_189 : TOk Tryd.prog 189 ⟨.fn, 1, 8, [.nilFunc]⟩ := ⟨by kernel_rfl, by kernel_rfl⟩
theorem T_190 : tab 190 = some ⟨.fn, 1, 8, [.nilFunc]⟩ := rfl
theorem ok_190 : TOk Tryd.prog 190 ⟨.fn, 1, 8, [.nilFunc]⟩ := ⟨by kernel_rfl, by kernel_rfl⟩
theorem T_191 : tab 191 = some ⟨.arr 8 25, 8, 32, [.int .u32 0, .int .u32 0, .int .u32 0, .int .u32 0, .int .u32 0, .int .u32 0, .int .u32 0, .int .u32 0]⟩ := rfl
theorem ok_191 : TOk Tryd.prog 191 ⟨.arr 8 25, 8, 32, [.int .u32 0, .int .u32 0, .int .u32 0, .int .u32 0, .int .u32 0, .int .u32 0, .int .u32 0, .int .u32 0]⟩ := ⟨by kernel_rfl, by kernel_rfl⟩
theorem T_192 : tab 192 = some ⟨.arr 8 25, 8, 32, [.int .u32 0, .int .u32 0, .int .u32 0, .int .u32 0, .int .u32 0, .int .u32 0, .int .u32 0, .int .u32 0]⟩ := rfl
theorem ok_192 : TOk Tryd.prog 192 ⟨.arr 8 25, 8, 32, [.int .u32 0, .int .u32 0, .int .u32 0, .int .u32 0, .int .u32 0, .int .u32 0, .int .u32 0, .int .u32 0]⟩ := ⟨by kernel_rfl, by kernel_rfl⟩
theorem T_193 : tab 193 = some ⟨.fn, 1, 8, [.nilFunc]⟩ := rfl
theorem ok_193 : TOk Tryd.prog 193 ⟨.fn, 1, 8, [.nilFunc]⟩ := ⟨by kernel_rfl, by kernel_rfl⟩
theorem T_194 : tab 194 = some ⟨.fn, 1, 8, [.nilFunc]⟩ := rfl
theorem ok_194 : TOk Tryd.prog 194 ⟨.fn, 1, 8, [.nilFunc]⟩ := ⟨by kernel_rfl, by kernel_rfl⟩
theorem T_195 : tab 195 = some ⟨.fn, 1, 8, [.nilFunc]⟩ := rfl
theorem ok_195 : TOk Tryd.prog 195 ⟨.fn, 1, 8, [.nilFunc]⟩ := ⟨by kernel_rfl, by kernel_rfl⟩
theorem T_196 : tab 196 = some ⟨.fn, 1, 8, [.nilFunc]⟩ := rfl
theorem ok_196 : TOk Tryd.prog 196 ⟨.fn, 1, 8, [.nilFunc]⟩ := ⟨by kernel_rfl, by kernel_rfl⟩
theorem T_197 : tab 197 = some ⟨.fn, 1, 8, [.nilFunc]⟩ := rfl
theorem ok_197 : TOk Tryd.prog 197 ⟨.fn, 1, 8, [.nilFunc]⟩ := ⟨by kernel_rfl, by kernel_rfl⟩
theorem T_198 : tab 198 = some ⟨.fn, 1, 8, [.nilFunc]⟩ := rfl
theorem ok_198 : TOk Tryd.prog 198 ⟨.fn, 1, 8, [.nilFunc]⟩ := ⟨by kernel_rfl, by kernel_rfl⟩
theorem T_199 : tab 199 = some ⟨.fn, 1, 8, [.nilFunc]⟩ := rfl
theorem ok_199 : TOk Tryd.prog 199 ⟨.fn, 1, 8, [.nilFunc]⟩ := ⟨by kernel_rfl, by kernel_rfl⟩
theorem T_201 : tab 201 = some ⟨.fn, 1, 8, [.nilFunc]⟩ := rfl
theorem ok_201 : TOk Tryd.prog 201 ⟨.fn, 1, 8, [.nilFunc]⟩ := ⟨by kernel_rfl, by kernel_rfl⟩
theorem T_202 : tab 202 = some ⟨.fn, 1, 8, [.nilFunc]⟩ := rfl
theorem ok_202 : TOk Tryd.prog 202 ⟨.fn, 1, 8, [.nilFunc]⟩ := ⟨by kernel_rfl, by kernel_rfl⟩
theorem T_203 : tab 203 = some ⟨.fn, 1, 8, [.nilFunc]⟩ := rfl
theorem ok_203 : TOk Tryd.prog 203 ⟨.fn, 1, 8, [.nilFunc]⟩ := ⟨by kernel_rfl, by kernel_rfl⟩
theorem T_204 : tab 204 = some ⟨.fn, 1, 8, [.nilFunc]⟩ := rfl
theorem ok_204 : TOk Tryd.prog 204 ⟨.fn, 1, 8, [.nilFunc]⟩ := ⟨by kernel_rfl, by kernel_rfl⟩
theorem T_205 : tab 205 = some ⟨.fn, 1, 8, [.nilFunc]⟩ := rfl
theorem ok_205 : TOk Tryd.prog 205 ⟨.fn, 1, 8, [.nilFunc]⟩ := ⟨by kernel_rfl, by kernel_rfl⟩
theorem T_206 : tab 206 = some ⟨.arr 64 25, 64, 256, List.replicate 64 (.int .u32 0)⟩ := rfl
theorem ok_206 : TOk Tryd.prog 206 ⟨.arr 64 25, 64, 256, List.replicate 64 (.int .u32 0)⟩ := ⟨by kernel_rfl, by kernel_rfl⟩
theorem T_207 : tab 207 = some ⟨.fn, 1, 8, [.nilFunc]⟩ := rfl
theorem ok_207 : TOk Tryd.prog 207 ⟨.fn, 1, 8, [.nilFunc]⟩ := ⟨by kernel_rfl, by kernel_rfl⟩
theorem T_208 : tab 208 = some ⟨.fn, 1, 8, [.nilFunc]⟩ := rfl
theorem ok_208 : TOk Tryd.prog 208 ⟨.fn, 1, 8, [.nilFunc]⟩ := ⟨by kernel_rfl, by kernel_rfl⟩
theorem T_209 : tab 209 = some ⟨.fn, 1, 8, [.nilFunc]⟩ := rfl
theorem ok_209 : TOk Tryd.prog 209 ⟨.fn, 1, 8, [.nilFunc]⟩ := ⟨by kernel_rfl, by kernel_rfl⟩
theorem T_210 : tab 210 = some ⟨.fn, 1, 8, [.nilFunc]⟩ := rfl
theorem ok_210 : TOk Tryd.prog 210 ⟨.fn, 1, 8, [.nilFunc]⟩ := ⟨by kernel_rfl, by kernel_rfl⟩
theorem T_211 : tab 211 = some ⟨.fn, 1, 8, [.nilFunc]⟩ := rfl
theorem ok_211 : TOk Tryd.prog 211 ⟨.fn, 1, 8, [.nilFunc]⟩ := ⟨by kernel_rfl, by kernel_rfl⟩
theorem T_212 : tab 212 = some ⟨.fn, 1, 8, [.nilFunc]⟩ := rfl
theorem ok_212 : TOk Tryd.prog 212 ⟨.fn, 1, 8, [.nilFunc]⟩ := ⟨by kernel_rfl, by kernel_rfl⟩
theorem T_213 : tab 213 = some ⟨.fn, 1, 8, [.nilFunc]⟩ := rfl
theorem ok_213 : TOk Tryd.prog 213 ⟨.fn, 1, 8, [.nilFunc]⟩ := ⟨by kernel_rfl, by kernel_rfl⟩
theorem T_214 : tab 214 = some ⟨.fn, 1, 8, [.nilFunc]⟩ := rfl
theorem ok_214 : TOk Tryd.prog 214 ⟨.fn, 1, 8, [.nilFunc]⟩ := ⟨by kernel_rfl, by kernel_rfl⟩
theorem T_215 : tab 215 = some ⟨.fn, 1, 8, [.nilFunc]⟩ := rfl
theorem ok_215 : TOk Tryd.prog 215 ⟨.fn, 1, 8, [.nilFunc]⟩ := ⟨by kernel_rfl, by kernel_rfl⟩
theorem T_216 : tab 216 = some ⟨.fn, 1, 8, [.nilFunc]⟩ := rfl
theorem ok_216 : TOk Tryd.prog 216 ⟨.fn, 1, 8, [.nilFunc]⟩ := ⟨by kernel_rfl, by kernel_rfl⟩
theorem T_217 : tab 217 = some ⟨.fn, 1, 8, [.nilFunc]⟩ := rfl
theorem ok_217 : TOk Tryd.prog 217 ⟨.fn, 1, 8, [.nilFunc]⟩ := ⟨by kernel_rfl, by kernel_rfl⟩
theorem T_218 : tab 218 = some ⟨.fn, 1, 8, [.nilFunc]⟩ := rfl
theorem ok_218 : TOk Tryd.prog 218 ⟨.fn, 1, 8, [.nilFunc]⟩ := ⟨by kernel_rfl, by kernel_rfl⟩
theorem T_219 : tab 219 = some ⟨.fn, 1, 8, [.nilFunc]⟩ := rfl
theorem ok_219 : TOk Tryd.prog 219 ⟨.fn, 1, 8, [.nilFunc]⟩ := ⟨by kernel_rfl, by kernel_rfl⟩
theorem T_221 : tab 221 = some ⟨.fn, 1, 8, [.nilFunc]⟩ := rfl
theorem ok_221 : TOk Tryd.prog 221 ⟨.fn, 1, 8, [.nilFunc]⟩ := ⟨by kernel_rfl, by kernel_rfl⟩
theorem T_223 : tab 223 = some ⟨.fn, 1, 8, [.nilFunc]⟩ := rfl
theorem ok_223 : TOk Tryd.prog 223 ⟨.fn, 1, 8, [.nilFunc]⟩ := ⟨by kernel_rfl, by kernel_rfl⟩
theorem T_225 : tab 225 = some ⟨.fn, 1, 8, [.nilFunc]⟩ := rfl
theorem ok_225 : TOk Tryd.prog 225 ⟨.fn, 1, 8, [.nilFunc]⟩ := ⟨by kernel_rfl, by kernel_rfl⟩
theorem T_226 : tab 226 = some ⟨.fn, 1, 8, [.nilFunc]⟩ := rfl
theorem ok_226 : TOk Tryd.prog 226 ⟨.fn, 1, 8, [.nilFunc]⟩ := ⟨by kernel_rfl, by kernel_rfl⟩
theorem T_227 : tab 227 = some ⟨.st [(0, 17), (1, 17), (2, 17), (3, 9)], 4, 40, [.pointer none, .pointer none, .pointer none, .string ByteArray.empty]⟩ := rfl
theorem ok_227 : TOk Tryd.prog 227 ⟨.st [(0, 17), (1, 17), (2, 17), (3, 9)], 4, 40, [.pointer none, .pointer none, .pointer none, .string ByteArray.empty]⟩ := ⟨by kernel_rfl, by kernel_rfl⟩
theorem T_228 : tab 228 = some ⟨.st [(0, 17), (1, 17), (2, 17), (3, 9)], 4, 40, [.pointer none, .pointer none, .pointer none, .string ByteArray.empty]⟩ := rfl
theorem ok_228 : TOk Tryd.prog 228 ⟨.st [(0, 17), (1, 17), (2, 17), (3, 9)], 4, 40, [.pointer none, .pointer none, .pointer none, .string ByteArray.empty]⟩ := ⟨by kernel_rfl, by kernel_rfl⟩
theorem T_229 : tab 229 = some ⟨.arr 0 16, 0, 0, []⟩ := rfl
theorem ok_229 : TOk Tryd.prog 229 ⟨.arr 0 16, 0, 0, []⟩ := ⟨by kernel_rfl, by kernel_rfl⟩
theorem T_230 : tab 230 = some ⟨.st [(0, 229)], 0, 0, []⟩ := rfl
theorem ok_230 : TOk Tryd.prog 230 ⟨.st [(0, 229)], 0, 0, []⟩ := ⟨by kernel_rfl, by kernel_rfl⟩
theorem T_231 : tab 231 = some ⟨.st [(0, 229)], 0, 0, []⟩ := rfl
theorem ok_231 : TOk Tryd.prog 231 ⟨.st [(0, 229)], 0, 0, []⟩ := ⟨by kernel_rfl, by kernel_rfl⟩
theorem T_232 : tab 232 = some ⟨.fn, 1, 8, [.nilFunc]⟩ := rfl
theorem ok_232 : TOk Tryd.prog 232 ⟨.fn, 1, 8, [.nilFunc]⟩ := ⟨by kernel_rfl, by kernel_rfl⟩
theorem T_233 : tab 233 = some ⟨.int .u8, 1, 1, [.int .u8 0]⟩ := rfl
theorem ok_233 : TOk Tryd.prog 233 ⟨.int .u8, 1, 1, [.int .u8 0]⟩ := ⟨by kernel_rfl, by kernel_rfl⟩
theorem T_234 : tab 234 = some ⟨.int .u8, 1, 1, [.int .u8 0]⟩ := rfl
theorem ok_234 : TOk Tryd.prog 234 ⟨.int .u8, 1, 1, [.int .u8 0]⟩ := ⟨by kernel_rfl, by kernel_rfl⟩
theorem T_235 : tab 235 = some ⟨.fn, 1, 8, [.nilFunc]⟩ := rfl
theorem ok_235 : TOk Tryd.prog 235 ⟨.fn, 1, 8, [.nilFunc]⟩ := ⟨by kernel_rfl, by kernel_rfl⟩
theorem T_236 : tab 236 = some ⟨.ptr 5, 1, 8, [.pointer none]⟩ := rfl
theorem ok_236 : TOk Tryd.prog 236 ⟨.ptr 5, 1, 8, [.pointer none]⟩ := ⟨by kernel_rfl, by kernel_rfl⟩
theorem T_237 : tab 237 = some ⟨.int .i32, 1, 4, [.int .i32 0]⟩ := rfl
theorem ok_237 : TOk Tryd.prog 237 ⟨.int .i32, 1, 4, [.int .i32 0]⟩ := ⟨by kernel_rfl, by kernel_rfl⟩
theorem T_238 : tab 238 = some ⟨.int .i32, 1, 4, [.int .i32 0]⟩ := rfl
theorem ok_238 : TOk Tryd.prog 238 ⟨.int .i32, 1, 4, [.int .i32 0]⟩ := ⟨by kernel_rfl, by kernel_rfl⟩
theorem T_239 : tab 239 = some ⟨.st [(0, 12), (1, 12), (2, 25), (3, 233), (4, 5), (5, 5), (6, 234), (7, 235), (8, 236), (9, 237), (10, 238)], 11, 48, [.int .u64 0, .int .u64 0, .int .u32 0, .int .u8 0, .int .u8 0, .int .u8 0, .int .u8 0, .nilFunc, .pointer none, .int .i32 0, .int .i32 0]⟩ := rfl
theorem ok_239 : TOk Tryd.prog 239 ⟨.st [(0, 12), (1, 12), (2, 25), (3, 233), (4, 5), (5, 5), (6, 234), (7, 235), (8, 236), (9, 237), (10, 238)], 11, 48, [.int .u64 0, .int .u64 0, .int .u32 0, .int .u8 0, .int .u8 0, .int .u8 0, .int .u8 0, .nilFunc, .pointer none, .int .i32 0, .int .i32 0]⟩ := ⟨by kernel_rfl, by kernel_rfl⟩
theorem T_240 : tab 240 = some ⟨.st [(0, 12), (1, 12), (2, 25), (3, 233), (4, 5), (5, 5), (6, 234), (7, 235), (8, 236), (9, 237), (10, 238)], 11, 48, [.int .u64 0, .int .u64 0, .int .u32 0, .int .u8 0, .int .u8 0, .int .u8 0, .int .u8 0, .nilFunc, .pointer none, .int .i32 0, .int .i32 0]⟩ := rfl
theorem ok_240 : TOk Tryd.prog 240 ⟨.st [(0, 12), (1, 12), (2, 25), (3, 233), (4, 5), (5, 5), (6, 234), (7, 235), (8, 236), (9, 237), (10, 238)], 11, 48, [.int .u64 0, .int .u64 0, .int .u32 0, .int .u8 0, .int .u8 0, .int .u8 0, .int .u8 0, .nilFunc, .pointer none, .int .i32 0, .int .i32 0]⟩ := ⟨by kernel_rfl, by kernel_rfl⟩
def eqt : List TypeId := [23, 143, 35, 3, 4, 5]

theorem Q_23 : eqt.contains 23 = true := rfl
theorem Q_143 : eqt.contains 143 = true := rfl
theorem Q_35 : eqt.contains 35 = true := rfl
theorem Q_3 : eqt.contains 3 = true := rfl
theorem Q_4 : eqt.contains 4 = true := rfl
theorem Q_5 : eqt.contains 5 = true := rfl

set_option linter.defProp false in
def TS := (And.intro (And.intro (And.intro (And.intro (And.intro (And.intro (And.intro T_1 (And.intro T_2 T_3)) (And.intro (And.intro T_4 T_5) (And.intro T_6 T_7))) (And.intro (And.intro T_8 (And.intro T_9 T_10)) (And.intro (And.intro T_11 T_12) (And.intro T_13 T_14)))) (And.intro (And.intro (And.intro T_15 (And.intro T_16 T_17)) (And.intro (And.intro T_18 T_19) (And.intro T_20 T_21))) (And.intro (And.intro T_22 (And.intro T_23 T_24)) (And.intro (And.intro T_25 T_26) (And.intro T_27 T_28))))) (And.intro (And.intro (And.intro (And.intro T_29 (And.intro T_30 T_31)) (And.intro (And.intro T_32 T_33) (And.intro T_34 T_35))) (And.intro (And.intro T_37 (And.intro T_39 T_40)) (And.intro (And.intro T_41 T_42) (And.intro T_43 T_44)))) (And.intro (And.intro (And.intro T_45 (And.intro T_46 T_47)) (And.intro (And.intro T_49 T_50) (And.intro T_51 T_52))) (And.intro (And.intro (And.intro T_53 T_55) (And.intro T_56 T_57)) (And.intro (And.intro T_58 T_59) (And.intro T_60 T_61)))))) (And.intro (And.intro (And.intro (And.intro (And.intro T_62 (And.intro T_63 T_64)) (And.intro (And.intro T_65 T_66) (And.intro T_67 T_68))) (And.intro (And.intro T_69 (And.intro T_70 T_71)) (And.intro (And.intro T_72 T_73) (And.intro T_74 T_75)))) (And.intro (And.intro (And.intro T_76 (And.intro T_77 T_78)) (And.intro (And.intro T_79 T_80) (And.intro T_81 T_82))) (And.intro (And.intro (And.intro T_83 T_84) (And.intro T_85 T_86)) (And.intro (And.intro T_87 T_88) (And.intro T_90 T_91))))) (And.intro (And.intro (And.intro (And.intro T_92 (And.intro T_93 T_94)) (And.intro (And.intro T_95 T_96) (And.intro T_97 T_98))) (And.intro (And.intro T_99 (And.intro T_100 T_101)) (And.intro (And.intro T_102 T_103) (And.intro T_104 T_105)))) (And.intro (And.intro (And.intro T_106 (And.intro T_107 T_109)) (And.intro (And.intro T_111 T_112) (And.intro T_113 T_114))) (And.intro (And.intro (And.intro T_115 T_116) (And.intro T_117 T_118)) (And.intro (And.intro T_120 T_121) (And.intro T_122 T_123))))))) (And.intro (And.intro (And.intro (And.intro (And.intro (And.intro T_124 (And.intro T_125 T_126)) (And.intro (And.intro T_127 T_128) (And.intro T_129 T_130))) (And.intro (And.intro T_131 (And.intro T_132 T_133)) (And.intro (And.intro T_134 T_135) (And.intro T_136 T_137)))) (And.intro (And.intro (And.intro T_138 (And.intro T_139 T_140)) (And.intro (And.intro T_141 T_142) (And.intro T_143 T_144))) (And.intro (And.intro T_145 (And.intro T_147 T_148)) (And.intro (And.intro T_149 T_150) (And.intro T_151 T_152))))) (And.intro (And.intro (And.intro (And.intro T_153 (And.intro T_154 T_155)) (And.intro (And.intro T_157 T_158) (And.intro T_159 T_160))) (And.intro (And.intro T_161 (And.intro T_162 T_163)) (And.intro (And.intro T_164 T_165) (And.intro T_166 T_167)))) (And.intro (And.intro (And.intro T_168 (And.intro T_169 T_170)) (And.intro (And.intro T_171 T_172) (And.intro T_173 T_174))) (And.intro (And.intro (And.intro T_175 T_176) (And.intro T_178 T_179)) (And.intro (And.intro T_181 T_182) (And.intro T_183 T_184)))))) (And.intro (And.intro (And.intro (And.intro (And.intro T_185 (And.intro T_186 T_187)) (And.intro (And.intro T_188 T_189) (And.intro T_190 T_191))) (And.intro (And.intro T_192 (And.intro T_193 T_194)) (And.intro (And.intro T_195 T_196) (And.intro T_197 T_198)))) (And.intro (And.intro (And.intro T_199 (And.intro T_201 T_202)) (And.intro (And.intro T_203 T_204) (And.intro T_205 T_206))) (And.intro (And.intro (And.intro T_207 T_208) (And.intro T_209 T_210)) (And.intro (And.intro T_211 T_212) (And.intro T_213 T_214))))) (And.intro (And.intro (And.intro (And.intro T_215 (And.intro T_216 T_217)) (And.intro (And.intro T_218 T_219) (And.intro T_221 T_223))) (And.intro (And.intro T_225 (And.intro T_226 T_227)) (And.intro (And.intro T_228 T_229) (And.intro T_230 T_231)))) (And.intro (And.intro (And.intro T_232 (And.intro T_233 T_234)) (And.intro (And.intro T_235 T_236) (And.intro T_237 T_238))) (And.intro (And.intro (And.intro T_239 T_240) (And.intro Q_23 Q_143)) (And.intro (And.intro Q_35 Q_3) (And.intro Q_4 Q_5))))))))


theorem tabOk : TTab Tryd.prog tab := by
  intro t ti h
  unfold tab at h
  split at h
  · cases h; exact ok_1
  · cases h; exact ok_2
  · cases h; exact ok_3
  · cases h; exact ok_4
  · cases h; exact ok_5
  · cases h; exact ok_6
  · cases h; exact ok_7
  · cases h; exact ok_8
  · cases h; exact ok_9
  · cases h; exact ok_10
  · cases h; exact ok_11
  · cases h; exact ok_12
  · cases h; exact ok_13
  · cases h; exact ok_14
  · cases h; exact ok_15
  · cases h; exact ok_16
  · cases h; exact ok_17
  · cases h; exact ok_18
  · cases h; exact ok_19
  · cases h; exact ok_20
  · cases h; exact ok_21
  · cases h; exact ok_22
  · cases h; exact ok_23
  · cases h; exact ok_24
  · cases h; exact ok_25
  · cases h; exact ok_26
  · cases h; exact ok_27
  · cases h; exact ok_28
  · cases h; exact ok_29
  · cases h; exact ok_30
  · cases h; exact ok_31
  · cases h; exact ok_32
  · cases h; exact ok_33
  · cases h; exact ok_34
  · cases h; exact ok_35
  · cases h; exact ok_37
  · cases h; exact ok_39
  · cases h; exact ok_40
  · cases h; exact ok_41
  · cases h; exact ok_42
  · cases h; exact ok_43
  · cases h; exact ok_44
  · cases h; exact ok_45
  · cases h; exact ok_46
  · cases h; exact ok_47
  · cases h; exact ok_49
  · cases h; exact ok_50
  · cases h; exact ok_51
  · cases h; exact ok_52
  · cases h; exact ok_53
  · cases h; exact ok_55
  · cases h; exact ok_56
  · cases h; exact ok_57
  · cases h; exact ok_58
  · cases h; exact ok_59
  · cases h; exact ok_60
  · cases h; exact ok_61
  · cases h; exact ok_62
  · cases h; exact ok_63
  · cases h; exact ok_64
  · cases h; exact ok_65
  · cases h; exact ok_66
  · cases h; exact ok_67
  · cases h; exact ok_68
  · cases h; exact ok_69
  · cases h; exact ok_70
  · cases h; exact ok_71
  · cases h; exact ok_72
  · cases h; exact ok_73
  · cases h; exact ok_74
  · cases h; exact ok_75
  · cases h; exact ok_76
  · cases h; exact ok_77
  · cases h; exact ok_78
  · cases h; exact ok_79
  · cases h; exact ok_80
  · cases h; exact ok_81
  · cases h; exact ok_82
  · cases h; exact ok_83
  · cases h; exact ok_84
  · cases h; exact ok_85
  · cases h; exact ok_86
  · cases h; exact ok_87
  · cases h; exact ok_88
  · cases h; exact ok_90
  · cases h; exact ok_91
  · cases h; exact ok_92
  · cases h; exact ok_93
  · cases h; exact ok_94
  · cases h; exact ok_95
  · cases h; exact ok_96
  · cases h; exact ok_97
  · cases h; exact ok_98
  · cases h; exact ok_99
  · cases h; exact ok_100
  · cases h; exact ok_101
  · cases h; exact ok_102
  · cases h; exact ok_103
  · cases h; exact ok_104
  · cases h; exact ok_105
  · cases h; exact ok_106
  · cases h; exact ok_107
  · cases h; exact ok_109
  · cases h; exact ok_111
  · cases h; exact ok_112
  · cases h; exact ok_113
  · cases h; exact ok_114
  · cases h; exact ok_115
  · cases h; exact ok_116
  · cases h; exact ok_117
  · cases h; exact ok_118
  · cases h; exact ok_120
  · cases h; exact ok_121
  · cases h; exact ok_122
  · cases h; exact ok_123
  · cases h; exact ok_124
  · cases h; exact ok_125
  · cases h; exact ok_126
  · cases h; exact ok_127
  · cases h; exact ok_128
  · cases h; exact ok_129
  · cases h; exact ok_130
  · cases h; exact ok_131
  · cases h; exact ok_132
  · cases h; exact ok_133
  · cases h; exact ok_134
  · cases h; exact ok_135
  · cases h; exact ok_136
  · cases h; exact ok_137
  · cases h; exact ok_138
  · cases h; exact ok_139
  · cases h; exact ok_140
  · cases h; exact ok_141
  · cases h; exact ok_142
  · cases h; exact ok_143
  · cases h; exact ok_144
  · cases h; exact ok_145
  · cases h; exact ok_147
  · cases h; exact ok_148
  · cases h; exact ok_149
  · cases h; exact ok_150
  · cases h; exact ok_151
  · cases h; exact ok_152
  · cases h; exact ok_153
  · cases h; exact ok_154
  · cases h; exact ok_155
  · cases h; exact ok_157
  · cases h; exact ok_158
  · cases h; exact ok_159
  · cases h; exact ok_160
  · cases h; exact ok_161
  · cases h; exact ok_162
  · cases h; exact ok_163
  · cases h; exact ok_164
  · cases h; exact ok_165
  · cases h; exact ok_166
  · cases h; exact ok_167
  · cases h; exact ok_168
  · cases h; exact ok_169
  · cases h; exact ok_170
  · cases h; exact ok_171
  · cases h; exact ok_172
  · cases h; exact ok_173
  · cases h; exact ok_174
  · cases h; exact ok_175
  · cases h; exact ok_176
  · cases h; exact ok_178
  · cases h; exact ok_179
  · cases h; exact ok_181
  · cases h; exact ok_182
  · cases h; exact ok_183
  · cases h; exact ok_184
  · cases h; exact ok_185
  · cases h; exact ok_186
  · cases h; exact ok_187
  · cases h; exact ok_188
  · cases h; exact ok_189
  · cases h; exact ok_190
  · cases h; exact ok_191
  · cases h; exact ok_192
  · cases h; exact ok_193
  · cases h; exact ok_194
  · cases h; exact ok_195
  · cases h; exact ok_196
  · cases h; exact ok_197
  · cases h; exact ok_198
  · cases h; exact ok_199
  · cases h; exact ok_201
  · cases h; exact ok_202
  · cases h; exact ok_203
  · cases h; exact ok_204
  · cases h; exact ok_205
  · cases h; exact ok_206
  · cases h; exact ok_207
  · cases h; exact ok_208
  · cases h; exact ok_209
  · cases h; exact ok_210
  · cases h; exact ok_211
  · cases h; exact ok_212
  · cases h; exact ok_213
  · cases h; exact ok_214
  · cases h; exact ok_215
  · cases h; exact ok_216
  · cases h; exact ok_217
  · cases h; exact ok_218
  · cases h; exact ok_219
  · cases h; exact ok_221
  · cases h; exact ok_223
  · cases h; exact ok_225
  · cases h; exact ok_226
  · cases h; exact ok_227
  · cases h; exact ok_228
  · cases h; exact ok_229
  · cases h; exact ok_230
  · cases h; exact ok_231
  · cases h; exact ok_232
  · cases h; exact ok_233
  · cases h; exact ok_234
  · cases h; exact ok_235
  · cases h; exact ok_236
  · cases h; exact ok_237
  · cases h; exact ok_238
  · cases h; exact ok_239
  · cases h; exact ok_240
  · cases h

theorem eqtOk : ∀ t, eqt.contains t = true → Tryd.prog.eqGuardType Tryd.prog.depth t = false ∧ (∀ fs, Tryd.prog.underlying t = some (.struct fs) → EqOk Tryd.prog t) := by
  intro t h
  simp only [eqt, List.contains_cons, List.contains_nil, Bool.or_false, Bool.or_eq_true, beq_iff_eq] at h
  rcases h with rfl | rfl | rfl | rfl | rfl | rfl
  · refine ⟨by kernel_rfl, fun fs hfs => ?_⟩
    have h2 := ok_23.2
    rw [hfs] at h2
    simp [TD.of] at h2
  · exact ⟨by kernel_rfl, fun _ _ => ⟨by kernel_rfl, by kernel_rfl, by kernel_rfl⟩⟩
  · refine ⟨by kernel_rfl, fun fs hfs => ?_⟩
    have h2 := ok_35.2
    rw [hfs] at h2
    simp [TD.of] at h2
  · refine ⟨by kernel_rfl, fun fs hfs => ?_⟩
    have h2 := ok_3.2
    rw [hfs] at h2
    simp [TD.of] at h2
  · refine ⟨by kernel_rfl, fun fs hfs => ?_⟩
    have h2 := ok_4.2
    rw [hfs] at h2
    simp [TD.of] at h2
  · refine ⟨by kernel_rfl, fun fs hfs => ?_⟩
    have h2 := ok_5.2
    rw [hfs] at h2
    simp [TD.of] at h2

theorem TB : Tab Tryd.prog tab eqt := ⟨tabOk, eqtOk⟩

theorem enters_of {P : Program} {f : FuncId} {fn : Func} (hf : P.funcs[f]? = some fn) (hn : (fn.name == "runtime.NumGoroutine") = false) (hb : fn.body.isNone = false) : Enters P f := by
  intro args w
  have h1 : ¬ fn.name = "runtime.NumGoroutine" := by simpa using hn
  have h2 : ¬ fn.body = none := by intro h; simp [h] at hb
  simp [callFunc, hf, h1, h2]

theorem en_3 : Enters Tryd.prog 3 := enters_of Tryd.func3 (by kernel_rfl) (by kernel_rfl)
theorem en_4 : Enters Tryd.prog 4 := enters_of Tryd.func4 (by kernel_rfl) (by kernel_rfl)
theorem en_5 : Enters Tryd.prog 5 := enters_of Tryd.func5 (by kernel_rfl) (by kernel_rfl)
theorem en_6 : Enters Tryd.prog 6 := enters_of Tryd.func6 (by kernel_rfl) (by kernel_rfl)
theorem en_7 : Enters Tryd.prog 7 := enters_of Tryd.func7 (by kernel_rfl) (by kernel_rfl)
theorem en_8 : Enters Tryd.prog 8 := enters_of Tryd.func8 (by kernel_rfl) (by kernel_rfl)
theorem en_9 : Enters Tryd.prog 9 := enters_of Tryd.func9 (by kernel_rfl) (by kernel_rfl)
theorem en_10 : Enters Tryd.prog 10 := enters_of Tryd.func10 (by kernel_rfl) (by kernel_rfl)
theorem en_11 : Enters Tryd.prog 11 := enters_of Tryd.func11 (by kernel_rfl) (by kernel_rfl)
theorem en_12 : Enters Tryd.prog 12 := enters_of Tryd.func12 (by kernel_rfl) (by kernel_rfl)
theorem en_13 : Enters Tryd.prog 13 := enters_of Tryd.func13 (by kernel_rfl) (by kernel_rfl)
theorem en_14 : Enters Tryd.prog 14 := enters_of Tryd.func14 (by kernel_rfl) (by kernel_rfl)
theorem en_15 : Enters Tryd.prog 15 := enters_of Tryd.func15 (by kernel_rfl) (by kernel_rfl)
theorem en_16 : Enters Tryd.prog 16 := enters_of Tryd.func16 (by kernel_rfl) (by kernel_rfl)
theorem en_17 : Enters Tryd.prog 17 := enters_of Tryd.func17 (by kernel_rfl) (by kernel_rfl)
theorem en_18 : Enters Tryd.prog 18 := enters_of Tryd.func18 (by kernel_rfl) (by kernel_rfl)
theorem en_19 : Enters Tryd.prog 19 := enters_of Tryd.func19 (by kernel_rfl) (by kernel_rfl)
theorem en_20 : Enters Tryd.prog 20 := enters_of Tryd.func20 (by kernel_rfl) (by kernel_rfl)
theorem en_21 : Enters Tryd.prog 21 := enters_of Tryd.func21 (by kernel_rfl) (by kernel_rfl)
theorem en_22 : Enters Tryd.prog 22 := enters_of Tryd.func22 (by kernel_rfl) (by kernel_rfl)
theorem en_23 : Enters Tryd.prog 23 := enters_of Tryd.func23 (by kernel_rfl) (by kernel_rfl)
theorem en_24 : Enters Tryd.prog 24 := enters_of Tryd.func24 (by kernel_rfl) (by kernel_rfl)
theorem en_25 : Enters Tryd.prog 25 := enters_of Tryd.func25 (by kernel_rfl) (by kernel_rfl)
theorem en_26 : Enters Tryd.prog 26 := enters_of Tryd.func26 (by kernel_rfl) (by kernel_rfl)
theorem en_27 : Enters Tryd.prog 27 := enters_of Tryd.func27 (by kernel_rfl) (by kernel_rfl)
theorem en_28 : Enters Tryd.prog 28 := enters_of Tryd.func28 (by kernel_rfl) (by kernel_rfl)
theorem en_29 : Enters Tryd.prog 29 := enters_of Tryd.func29 (by kernel_rfl) (by kernel_rfl)
theorem en_30 : Enters Tryd.prog 30 := enters_of Tryd.func30 (by kernel_rfl) (by kernel_rfl)
theorem en_31 : Enters Tryd.prog 31 := enters_of Tryd.func31 (by kernel_rfl) (by kernel_rfl)
theorem en_32 : Enters Tryd.prog 32 := enters_of Tryd.func32 (by kernel_rfl) (by kernel_rfl)
theorem en_33 : Enters Tryd.prog 33 := enters_of Tryd.func33 (by kernel_rfl) (by kernel_rfl)
theorem en_34 : Enters Tryd.prog 34 := enters_of Tryd.func34 (by kernel_rfl) (by kernel_rfl)
theorem en_35 : Enters Tryd.prog 35 := enters_of Tryd.func35 (by kernel_rfl) (by kernel_rfl)
theorem en_36 : Enters Tryd.prog 36 := enters_of Tryd.func36 (by kernel_rfl) (by kernel_rfl)
theorem en_37 : Enters Tryd.prog 37 := enters_of Tryd.func37 (by kernel_rfl) (by kernel_rfl)
theorem en_38 : Enters Tryd.prog 38 := enters_of Tryd.func38 (by kernel_rfl) (by kernel_rfl)
theorem en_39 : Enters Tryd.prog 39 := enters_of Tryd.func39 (by kernel_rfl) (by kernel_rfl)
theorem en_40 : Enters Tryd.prog 40 := enters_of Tryd.func40 (by kernel_rfl) (by kernel_rfl)
theorem en_41 : Enters Tryd.prog 41 := enters_of Tryd.func41 (by kernel_rfl) (by kernel_rfl)
theorem en_42 : Enters Tryd.prog 42 := enters_of Tryd.func42 (by kernel_rfl) (by kernel_rfl)
theorem en_43 : Enters Tryd.prog 43 := enters_of Tryd.func43 (by kernel_rfl) (by kernel_rfl)
theorem en_44 : Enters Tryd.prog 44 := enters_of Tryd.func44 (by kernel_rfl) (by kernel_rfl)
theorem en_45 : Enters Tryd.prog 45 := enters_of Tryd.func45 (by kernel_rfl) (by kernel_rfl)
theorem en_46 : Enters Tryd.prog 46 := enters_of Tryd.func46 (by kernel_rfl) (by kernel_rfl)
theorem en_47 : Enters Tryd.prog 47 := enters_of Tryd.func47 (by kernel_rfl) (by kernel_rfl)
theorem en_48 : Enters Tryd.prog 48 := enters_of Tryd.func48 (by kernel_rfl) (by kernel_rfl)
theorem en_49 : Enters Tryd.prog 49 := enters_of Tryd.func49 (by kernel_rfl) (by kernel_rfl)
theorem en_50 : Enters Tryd.prog 50 := enters_of Tryd.func50 (by kernel_rfl) (by kernel_rfl)
theorem en_51 : Enters Tryd.prog 51 := enters_of Tryd.func51 (by kernel_rfl) (by kernel_rfl)
theorem en_52 : Enters Tryd.prog 52 := enters_of Tryd.func52 (by kernel_rfl) (by kernel_rfl)
theorem en_53 : Enters Tryd.prog 53 := enters_of Tryd.func53 (by kernel_rfl) (by kernel_rfl)
theorem en_54 : Enters Tryd.prog 54 := enters_of Tryd.func54 (by kernel_rfl) (by kernel_rfl)
theorem en_55 : Enters Tryd.prog 55 := enters_of Tryd.func55 (by kernel_rfl) (by kernel_rfl)
theorem en_56 : Enters Tryd.prog 56 := enters_of Tryd.func56 (by kernel_rfl) (by kernel_rfl)
theorem en_57 : Enters Tryd.prog 57 := enters_of Tryd.func57 (by kernel_rfl) (by kernel_rfl)
theorem en_58 : Enters Tryd.prog 58 := enters_of Tryd.func58 (by kernel_rfl) (by kernel_rfl)
theorem en_59 : Enters Tryd.prog 59 := enters_of Tryd.func59 (by kernel_rfl) (by kernel_rfl)
theorem en_60 : Enters Tryd.prog 60 := enters_of Tryd.func60 (by kernel_rfl) (by kernel_rfl)
theorem en_61 : Enters Tryd.prog 61 := enters_of Tryd.func61 (by kernel_rfl) (by kernel_rfl)
theorem en_62 : Enters Tryd.prog 62 := enters_of Tryd.func62 (by kernel_rfl) (by kernel_rfl)
theorem en_63 : Enters Tryd.prog 63 := enters_of Tryd.func63 (by kernel_rfl) (by kernel_rfl)
theorem en_64 : Enters Tryd.prog 64 := enters_of Tryd.func64 (by kernel_rfl) (by kernel_rfl)
theorem en_65 : Enters Tryd.prog 65 := enters_of Tryd.func65 (by kernel_rfl) (by kernel_rfl)
theorem en_66 : Enters Tryd.prog 66 := enters_of Tryd.func66 (by kernel_rfl) (by kernel_rfl)
theorem en_67 : Enters Tryd.prog 67 := enters_of Tryd.func67 (by kernel_rfl) (by kernel_rfl)
theorem en_68 : Enters Tryd.prog 68 := enters_of Tryd.func68 (by kernel_rfl) (by kernel_rfl)
theorem en_69 : Enters Tryd.prog 69 := enters_of Tryd.func69 (by kernel_rfl) (by kernel_rfl)
theorem en_70 : Enters Tryd.prog 70 := enters_of Tryd.func70 (by kernel_rfl) (by kernel_rfl)
theorem en_71 : Enters Tryd.prog 71 := enters_of Tryd.func71 (by kernel_rfl) (by kernel_rfl)
theorem en_72 : Enters Tryd.prog 72 := enters_of Tryd.func72 (by kernel_rfl) (by kernel_rfl)
theorem en_73 : Enters Tryd.prog 73 := enters_of Tryd.func73 (by kernel_rfl) (by kernel_rfl)
theorem en_74 : Enters Tryd.prog 74 := enters_of Tryd.func74 (by kernel_rfl) (by kernel_rfl)
theorem en_75 : Enters Tryd.prog 75 := enters_of Tryd.func75 (by kernel_rfl) (by kernel_rfl)
theorem en_76 : Enters Tryd.prog 76 := enters_of Tryd.func76 (by kernel_rfl) (by kernel_rfl)
theorem en_77 : Enters Tryd.prog 77 := enters_of Tryd.func77 (by kernel_rfl) (by kernel_rfl)
theorem en_78 : Enters Tryd.prog 78 := enters_of Tryd.func78 (by kernel_rfl) (by kernel_rfl)
theorem en_79 : Enters Tryd.prog 79 := enters_of Tryd.func79 (by kernel_rfl) (by kernel_rfl)
theorem en_80 : Enters Tryd.prog 80 := enters_of Tryd.func80 (by kernel_rfl) (by kernel_rfl)
theorem en_81 : Enters Tryd.prog 81 := enters_of Tryd.func81 (by kernel_rfl) (by kernel_rfl)
theorem en_82 : Enters Tryd.prog 82 := enters_of Tryd.func82 (by kernel_rfl) (by kernel_rfl)
theorem en_83 : Enters Tryd.prog 83 := enters_of Tryd.func83 (by kernel_rfl) (by kernel_rfl)
theorem en_84 : Enters Tryd.prog 84 := enters_of Tryd.func84 (by kernel_rfl) (by kernel_rfl)
theorem en_85 : Enters Tryd.prog 85 := enters_of Tryd.func85 (by kernel_rfl) (by kernel_rfl)
theorem en_86 : Enters Tryd.prog 86 := enters_of Tryd.func86 (by kernel_rfl) (by kernel_rfl)
theorem en_87 : Enters Tryd.prog 87 := enters_of Tryd.func87 (by kernel_rfl) (by kernel_rfl)
theorem en_88 : Enters Tryd.prog 88 := enters_of Tryd.func88 (by kernel_rfl) (by kernel_rfl)
theorem en_89 : Enters Tryd.prog 89 := enters_of Tryd.func89 (by kernel_rfl) (by kernel_rfl)
theorem en_90 : Enters Tryd.prog 90 := enters_of Tryd.func90 (by kernel_rfl) (by kernel_rfl)
theorem en_91 : Enters Tryd.prog 91 := enters_of Tryd.func91 (by kernel_rfl) (by kernel_rfl)
theorem en_92 : Enters Tryd.prog 92 := enters_of Tryd.func92 (by kernel_rfl) (by kernel_rfl)
theorem en_93 : Enters Tryd.prog 93 := enters_of Tryd.func93 (by kernel_rfl) (by kernel_rfl)
theorem en_94 : Enters Tryd.prog 94 := enters_of Tryd.func94 (by kernel_rfl) (by kernel_rfl)
theorem en_95 : Enters Tryd.prog 95 := enters_of Tryd.func95 (by kernel_rfl) (by kernel_rfl)
theorem en_96 : Enters Tryd.prog 96 := enters_of Tryd.func96 (by kernel_rfl) (by kernel_rfl)
theorem en_97 : Enters Tryd.prog 97 := enters_of Tryd.func97 (by kernel_rfl) (by kernel_rfl)
theorem en_98 : Enters Tryd.prog 98 := enters_of Tryd.func98 (by kernel_rfl) (by kernel_rfl)
theorem en_99 : Enters Tryd.prog 99 := enters_of Tryd.func99 (by kernel_rfl) (by kernel_rfl)
theorem en_100 : Enters Tryd.prog 100 := enters_of Tryd.func100 (by kernel_rfl) (by kernel_rfl)
theorem en_101 : Enters Tryd.prog 101 := enters_of Tryd.func101 (by kernel_rfl) (by kernel_rfl)
theorem en_102 : Enters Tryd.prog 102 := enters_of Tryd.func102 (by kernel_rfl) (by kernel_rfl)
theorem en_103 : Enters Tryd.prog 103 := enters_of Tryd.func103 (by kernel_rfl) (by kernel_rfl)
theorem en_104 : Enters Tryd.prog 104 := enters_of Tryd.func104 (by kernel_rfl) (by kernel_rfl)
theorem en_105 : Enters Tryd.prog 105 := enters_of Tryd.func105 (by kernel_rfl) (by kernel_rfl)
theorem en_106 : Enters Tryd.prog 106 := enters_of Tryd.func106 (by kernel_rfl) (by kernel_rfl)
theorem en_107 : Enters Tryd.prog 107 := enters_of Tryd.func107 (by kernel_rfl) (by kernel_rfl)
theorem en_108 : Enters Tryd.prog 108 := enters_of Tryd.func108 (by kernel_rfl) (by kernel_rfl)
theorem en_109 : Enters Tryd.prog 109 := enters_of Tryd.func109 (by kernel_rfl) (by kernel_rfl)
theorem en_110 : Enters Tryd.prog 110 := enters_of Tryd.func110 (by kernel_rfl) (by kernel_rfl)
theorem en_111 : Enters Tryd.prog 111 := enters_of Tryd.func111 (by kernel_rfl) (by kernel_rfl)
theorem en_112 : Enters Tryd.prog 112 := enters_of Tryd.func112 (by kernel_rfl) (by kernel_rfl)
theorem en_113 : Enters Tryd.prog 113 := enters_of Tryd.func113 (by kernel_rfl) (by kernel_rfl)
theorem en_114 : Enters Tryd.prog 114 := enters_of Tryd.func114 (by kernel_rfl) (by kernel_rfl)
theorem en_115 : Enters Tryd.prog 115 := enters_of Tryd.func115 (by kernel_rfl) (by kernel_rfl)
theorem en_116 : Enters Tryd.prog 116 := enters_of Tryd.func116 (by kernel_rfl) (by kernel_rfl)
theorem en_117 : Enters Tryd.prog 117 := enters_of Tryd.func117 (by kernel_rfl) (by kernel_rfl)
theorem en_118 : Enters Tryd.prog 118 := enters_of Tryd.func118 (by kernel_rfl) (by kernel_rfl)
theorem en_119 : Enters Tryd.prog 119 := enters_of Tryd.func119 (by kernel_rfl) (by kernel_rfl)
theorem en_120 : Enters Tryd.prog 120 := enters_of Tryd.func120 (by kernel_rfl) (by kernel_rfl)
theorem en_121 : Enters Tryd.prog 121 := enters_of Tryd.func121 (by kernel_rfl) (by kernel_rfl)
theorem en_122 : Enters Tryd.prog 122 := enters_of Tryd.func122 (by kernel_rfl) (by kernel_rfl)
theorem en_123 : Enters Tryd.prog 123 := enters_of Tryd.func123 (by kernel_rfl) (by kernel_rfl)
theorem en_124 : Enters Tryd.prog 124 := enters_of Tryd.func124 (by kernel_rfl) (by kernel_rfl)
theorem en_125 : Enters Tryd.prog 125 := enters_of Tryd.func125 (by kernel_rfl) (by kernel_rfl)
theorem en_126 : Enters Tryd.prog 126 := enters_of Tryd.func126 (by kernel_rfl) (by kernel_rfl)
theorem en_127 : Enters Tryd.prog 127 := enters_of Tryd.func127 (by kernel_rfl) (by kernel_rfl)
theorem en_128 : Enters Tryd.prog 128 := enters_of Tryd.func128 (by kernel_rfl) (by kernel_rfl)
theorem en_129 : Enters Tryd.prog 129 := enters_of Tryd.func129 (by kernel_rfl) (by kernel_rfl)
theorem en_130 : Enters Tryd.prog 130 := enters_of Tryd.func130 (by kernel_rfl) (by kernel_rfl)
theorem en_131 : Enters Tryd.prog 131 := enters_of Tryd.func131 (by kernel_rfl) (by kernel_rfl)
theorem en_132 : Enters Tryd.prog 132 := enters_of Tryd.func132 (by kernel_rfl) (by kernel_rfl)
theorem en_133 : Enters Tryd.prog 133 := enters_of Tryd.func133 (by kernel_rfl) (by kernel_rfl)
theorem en_134 : Enters Tryd.prog 134 := enters_of Tryd.func134 (by kernel_rfl) (by kernel_rfl)
theorem en_135 : Enters Tryd.prog 135 := enters_of Tryd.func135 (by kernel_rfl) (by kernel_rfl)
theorem en_136 : Enters Tryd.prog 136 := enters_of Tryd.func136 (by kernel_rfl) (by kernel_rfl)
theorem en_137 : Enters Tryd.prog 137 := enters_of Tryd.func137 (by kernel_rfl) (by kernel_rfl)
theorem en_138 : Enters Tryd.prog 138 := enters_of Tryd.func138 (by kernel_rfl) (by kernel_rfl)
theorem en_139 : Enters Tryd.prog 139 := enters_of Tryd.func139 (by kernel_rfl) (by kernel_rfl)
theorem en_140 : Enters Tryd.prog 140 := enters_of Tryd.func140 (by kernel_rfl) (by kernel_rfl)
theorem en_141 : Enters Tryd.prog 141 := enters_of Tryd.func141 (by kernel_rfl) (by kernel_rfl)
theorem en_142 : Enters Tryd.prog 142 := enters_of Tryd.func142 (by kernel_rfl) (by kernel_rfl)
theorem en_143 : Enters Tryd.prog 143 := enters_of Tryd.func143 (by kernel_rfl) (by kernel_rfl)
theorem en_144 : Enters Tryd.prog 144 := enters_of Tryd.func144 (by kernel_rfl) (by kernel_rfl)
theorem en_145 : Enters Tryd.prog 145 := enters_of Tryd.func145 (by kernel_rfl) (by kernel_rfl)
theorem en_146 : Enters Tryd.prog 146 := enters_of Tryd.func146 (by kernel_rfl) (by kernel_rfl)
theorem en_147 : Enters Tryd.prog 147 := enters_of Tryd.func147 (by kernel_rfl) (by kernel_rfl)
theorem en_148 : Enters Tryd.prog 148 := enters_of Tryd.func148 (by kernel_rfl) (by kernel_rfl)
theorem en_149 : Enters Tryd.prog 149 := enters_of Tryd.func149 (by kernel_rfl) (by kernel_rfl)
theorem en_150 : Enters Tryd.prog 150 := enters_of Tryd.func150 (by kernel_rfl) (by kernel_rfl)
theorem en_151 : Enters Tryd.prog 151 := enters_of Tryd.func151 (by kernel_rfl) (by kernel_rfl)
theorem en_152 : Enters Tryd.prog 152 := enters_of Tryd.func152 (by kernel_rfl) (by kernel_rfl)
theorem en_153 : Enters Tryd.prog 153 := enters_of Tryd.func153 (by kernel_rfl) (by kernel_rfl)
theorem en_154 : Enters Tryd.prog 154 := enters_of Tryd.func154 (by kernel_rfl) (by kernel_rfl)
theorem en_155 : Enters Tryd.prog 155 := enters_of Tryd.func155 (by kernel_rfl) (by kernel_rfl)
theorem en_156 : Enters Tryd.prog 156 := enters_of Tryd.func156 (by kernel_rfl) (by kernel_rfl)
theorem en_157 : Enters Tryd.prog 157 := enters_of Tryd.func157 (by kernel_rfl) (by kernel_rfl)
theorem en_158 : Enters Tryd.prog 158 := enters_of Tryd.func158 (by kernel_rfl) (by kernel_rfl)
theorem en_159 : Enters Tryd.prog 159 := enters_of Tryd.func159 (by kernel_rfl) (by kernel_rfl)
theorem en_160 : Enters Tryd.prog 160 := enters_of Tryd.func160 (by kernel_rfl) (by kernel_rfl)
theorem en_161 : Enters Tryd.prog 161 := enters_of Tryd.func161 (by kernel_rfl) (by kernel_rfl)
theorem en_162 : Enters Tryd.prog 162 := enters_of Tryd.func162 (by kernel_rfl) (by kernel_rfl)
theorem en_163 : Enters Tryd.prog 163 := enters_of Tryd.func163 (by kernel_rfl) (by kernel_rfl)
theorem en_165 : Enters Tryd.prog 165 := enters_of Tryd.func165 (by kernel_rfl) (by kernel_rfl)
theorem en_166 : Enters Tryd.prog 166 := enters_of Tryd.func166 (by kernel_rfl) (by kernel_rfl)

end Go.Proofs.YtgbpgplkhifgiaaDoor
