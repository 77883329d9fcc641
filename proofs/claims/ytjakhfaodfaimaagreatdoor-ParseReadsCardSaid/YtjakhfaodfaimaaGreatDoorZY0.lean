/- The types' table, and how plain values are told. No condition. -/
import Derived.Test.YtjakhfaodfaimaaGreatDoorProg
import Derived.Test.YtjakhfaodfaimaaGreatDoorZA1
import Derived.KernelRfl
import Derived.Test.YtjakhfaodfaimaaGreatDoorZS1
import Derived.Test.YtjakhfaodfaimaaGreatDoorZF0
set_option maxRecDepth 100000
namespace Go.Proofs.YtjakhfaodfaimaaGreatDoor.AE
open Go
def tab : List TI := [
  ⟨1, false, 0, [.undef], .other, false⟩,
  ⟨1, false, 8, [.nilf], .fn, false⟩,
  ⟨1, false, 8, [.int .i64 0], .int .i64, false⟩,
  ⟨1, false, 8, [.int .i64 0], .int .i64, false⟩,
  ⟨1, false, 1, [.bool false], .bool, false⟩,
  ⟨1, false, 1, [.int .u8 0], .int .u8, false⟩,
  ⟨1, false, 1, [.int .u8 0], .int .u8, false⟩,
  ⟨4, true, 24, [.int .i64 0, .int .i64 0, .bool false, .int .u8 0], .struct [(0, 2), (1, 3), (2, 4), (3, 6)], true⟩,
  ⟨4, true, 24, [.int .i64 0, .int .i64 0, .bool false, .int .u8 0], .struct [(0, 2), (1, 3), (2, 4), (3, 6)], true⟩,
  ⟨1, false, 16, [.str []], .string, false⟩,
  ⟨1, false, 16, [.str []], .string, false⟩,
  ⟨1, false, 16, [.str []], .string, false⟩,
  ⟨1, false, 8, [.int .u64 0], .int .u64, false⟩,
  ⟨2, true, 24, [.str [], .int .u64 0], .struct [(0, 9), (1, 12)], false⟩,
  ⟨2, true, 24, [.str [], .int .u64 0], .struct [(0, 9), (1, 12)], false⟩,
  ⟨1, false, 8, [.nilp], .ptr 154, false⟩,
  ⟨1, false, 8, [.nilp], .ptr 157, false⟩,
  ⟨1, false, 8, [.nilp], .ptr 166, false⟩,
  ⟨1, true, 8, [.nilp], .struct [(0, 17)], false⟩,
  ⟨1, true, 8, [.nilp], .struct [(0, 17)], false⟩,
  ⟨1, false, 16, [.nili], .iface 0, false⟩,
  ⟨1, false, 4, [.int .i32 0], .int .i32, false⟩,
  ⟨1, false, 8, [.nilf], .fn, false⟩,
  ⟨1, false, 24, [.nils], .slice 25, false⟩,
  ⟨5, true, 64, [.int .i64 0, .int .i64 0, .int .i64 0, .str [], .nils], .struct [(0, 3), (1, 3), (2, 3), (3, 9), (4, 23)], true⟩,
  ⟨5, true, 64, [.int .i64 0, .int .i64 0, .int .i64 0, .str [], .nils], .struct [(0, 3), (1, 3), (2, 3), (3, 9), (4, 23)], true⟩,
  ⟨1, false, 8, [.int .i64 0], .int .i64, false⟩,
  ⟨4, true, 32, [.int .i64 0, .int .i64 0, .int .i64 0, .int .i64 0], .struct [(0, 3), (1, 3), (2, 3), (3, 26)], true⟩,
  ⟨4, true, 32, [.int .i64 0, .int .i64 0, .int .i64 0, .int .i64 0], .struct [(0, 3), (1, 3), (2, 3), (3, 26)], true⟩,
  ⟨1, false, 0, [.undef], .other, false⟩,
  ⟨1, false, 8, [.nilf], .fn, false⟩,
  ⟨1, false, 8, [.nilf], .fn, false⟩,
  ⟨9, true, 96, [.int .i64 0, .int .i64 0, .int .i64 0, .str [], .nils, .int .i64 0, .int .i64 0, .int .i64 0, .int .i64 0], .struct [(0, 25), (5, 3), (6, 3), (7, 3), (8, 26)], true⟩,
  ⟨9, true, 96, [.int .i64 0, .int .i64 0, .int .i64 0, .str [], .nils, .int .i64 0, .int .i64 0, .int .i64 0, .int .i64 0], .struct [(0, 25), (5, 3), (6, 3), (7, 3), (8, 26)], true⟩,
  ⟨1, false, 8, [.nilf], .fn, false⟩,
  ⟨1, false, 8, [.nilf], .fn, false⟩,
  ⟨1, false, 8, [.nilf], .fn, false⟩,
  ⟨1, false, 8, [.nilf], .fn, false⟩,
  ⟨1, false, 24, [.nils], .slice 42, false⟩,
  ⟨1, false, 0, [.undef], .other, false⟩,
  ⟨1, false, 8, [.nilf], .fn, false⟩,
  ⟨4, true, 40, [.int .i64 0, .int .i64 0, .int .i64 0, .str []], .struct [(0, 3), (1, 3), (2, 3), (3, 9)], true⟩,
  ⟨4, true, 40, [.int .i64 0, .int .i64 0, .int .i64 0, .str []], .struct [(0, 3), (1, 3), (2, 3), (3, 9)], true⟩,
  ⟨1, false, 8, [.nilf], .fn, false⟩,
  ⟨1, false, 0, [.undef], .other, false⟩,
  ⟨1, false, 8, [.nilf], .fn, false⟩,
  ⟨1, false, 8, [.nilf], .fn, false⟩,
  ⟨1, false, 0, [.undef], .other, false⟩,
  ⟨1, false, 8, [.nilf], .fn, false⟩,
  ⟨7, true, 80, [.int .i64 0, .int .i64 0, .int .i64 0, .str [], .nils, .int .i64 0, .bool false], .struct [(0, 25), (5, 3), (6, 4)], true⟩,
  ⟨7, true, 80, [.int .i64 0, .int .i64 0, .int .i64 0, .str [], .nils, .int .i64 0, .bool false], .struct [(0, 25), (5, 3), (6, 4)], true⟩,
  ⟨1, false, 8, [.nilf], .fn, false⟩,
  ⟨1, false, 0, [.undef], .other, false⟩,
  ⟨1, false, 8, [.nilf], .fn, false⟩,
  ⟨1, false, 8, [.nilf], .fn, false⟩,
  ⟨3, true, 40, [.nils, .int .i64 0, .bool false], .struct [(0, 38), (1, 3), (2, 4)], true⟩,
  ⟨3, true, 40, [.nils, .int .i64 0, .bool false], .struct [(0, 38), (1, 3), (2, 4)], true⟩,
  ⟨1, false, 8, [.nilf], .fn, false⟩,
  ⟨1, false, 8, [.nilf], .fn, false⟩,
  ⟨1, false, 8, [.nilf], .fn, false⟩,
  ⟨1, false, 8, [.nilf], .fn, false⟩,
  ⟨3, true, 40, [.nils, .int .i64 0, .bool false], .struct [(0, 38), (1, 3), (2, 4)], true⟩,
  ⟨3, true, 40, [.nils, .int .i64 0, .bool false], .struct [(0, 38), (1, 3), (2, 4)], true⟩,
  ⟨1, false, 8, [.nilf], .fn, false⟩,
  ⟨1, false, 8, [.nilf], .fn, false⟩,
  ⟨1, false, 0, [.undef], .other, false⟩,
  ⟨1, false, 8, [.nilf], .fn, false⟩,
  ⟨1, false, 0, [.undef], .other, false⟩,
  ⟨1, false, 8, [.nilf], .fn, false⟩,
  ⟨1, false, 24, [.nils], .slice 71, false⟩,
  ⟨1, false, 8, [.nilf], .fn, false⟩,
  ⟨2, true, 16, [.int .i64 0, .int .i64 0], .array 2 3, false⟩,
  ⟨1, false, 8, [.nilf], .fn, false⟩,
  ⟨1, false, 8, [.nilf], .fn, false⟩,
  ⟨1, false, 8, [.nilf], .fn, false⟩,
  ⟨1, false, 8, [.nilf], .fn, false⟩,
  ⟨2, true, 24, [.str [], .int .i64 0], .struct [(0, 9), (1, 3)], true⟩,
  ⟨2, true, 24, [.str [], .int .i64 0], .struct [(0, 9), (1, 3)], true⟩,
  ⟨1, false, 8, [.nilf], .fn, false⟩,
  ⟨1, false, 8, [.nilp], .ptr 104, false⟩,
  ⟨1, false, 8, [.nilf], .fn, false⟩,
  ⟨1, false, 8, [.nilf], .fn, false⟩,
  ⟨2, true, 16, [.int .i64 0, .int .i64 0], .struct [(0, 3), (1, 3)], true⟩,
  ⟨2, true, 16, [.int .i64 0, .int .i64 0], .struct [(0, 3), (1, 3)], true⟩,
  ⟨1, false, 8, [.nilf], .fn, false⟩,
  ⟨1, false, 8, [.nilp], .ptr 56, false⟩,
  ⟨1, false, 24, [.nils], .slice 9, false⟩,
  ⟨1, false, 0, [.undef], .other, false⟩,
  ⟨1, false, 8, [.nilf], .fn, false⟩,
  ⟨1, false, 8, [.nilf], .fn, false⟩,
  ⟨1, false, 8, [.nilf], .fn, false⟩,
  ⟨1, false, 8, [.nilp], .ptr 62, false⟩,
  ⟨1, false, 8, [.nilf], .fn, false⟩,
  ⟨1, false, 8, [.nilf], .fn, false⟩,
  ⟨1, false, 8, [.nilf], .fn, false⟩,
  ⟨1, false, 8, [.nilf], .fn, false⟩,
  ⟨1, false, 8, [.nilf], .fn, false⟩,
  ⟨1, false, 8, [.nilf], .fn, false⟩,
  ⟨1, false, 8, [.nilf], .fn, false⟩,
  ⟨1, false, 8, [.nilp], .ptr 77, false⟩,
  ⟨1, false, 8, [.nilf], .fn, false⟩,
  ⟨1, false, 8, [.nilf], .fn, false⟩,
  ⟨1, false, 24, [.nils], .slice 3, false⟩,
  ⟨2, true, 40, [.str [], .nils], .struct [(0, 9), (1, 102)], true⟩,
  ⟨2, true, 40, [.str [], .nils], .struct [(0, 9), (1, 102)], true⟩,
  ⟨1, false, 8, [.nilf], .fn, false⟩,
  ⟨1, false, 8, [.nilf], .fn, false⟩,
  ⟨1, false, 8, [.nilf], .fn, false⟩,
  ⟨1, false, 8, [.nilf], .fn, false⟩,
  ⟨1, false, 8, [.nilf], .fn, false⟩,
  ⟨1, false, 0, [.undef], .other, false⟩,
  ⟨1, false, 8, [.nilf], .fn, false⟩,
  ⟨1, false, 8, [.nilf], .fn, false⟩,
  ⟨1, false, 8, [.int .u64 0], .int .u64, false⟩,
  ⟨1, false, 8, [.nilf], .fn, false⟩,
  ⟨1, false, 8, [.nilf], .fn, false⟩,
  ⟨1, false, 8, [.nilf], .fn, false⟩,
  ⟨1, false, 24, [.nils], .slice 5, false⟩,
  ⟨1, false, 8, [.nilf], .fn, false⟩,
  ⟨1, false, 8, [.int .u64 0], .int .u64, false⟩,
  ⟨1, false, 0, [.undef], .other, false⟩,
  ⟨1, false, 8, [.nilf], .fn, false⟩,
  ⟨15, true, 240, [.str [], .str [], .str [], .str [], .str [], .str [], .str [], .str [], .str [], .str [], .str [], .str [], .str [], .str [], .str []], .array 15 9, false⟩,
  ⟨1, false, 8, [.nilf], .fn, false⟩,
  ⟨1, false, 8, [.nilf], .fn, false⟩,
  ⟨1, false, 0, [.undef], .other, false⟩,
  ⟨1, false, 8, [.nilf], .fn, false⟩,
  ⟨1, false, 8, [.nilf], .fn, false⟩,
  ⟨1, false, 8, [.nilf], .fn, false⟩,
  ⟨1, false, 8, [.nilf], .fn, false⟩,
  ⟨1, false, 8, [.nilf], .fn, false⟩,
  ⟨256, true, 256, [.int .u8 0, .int .u8 0, .int .u8 0, .int .u8 0, .int .u8 0, .int .u8 0, .int .u8 0, .int .u8 0, .int .u8 0, .int .u8 0, .int .u8 0, .int .u8 0, .int .u8 0, .int .u8 0, .int .u8 0, .int .u8 0, .int .u8 0, .int .u8 0, .int .u8 0, .int .u8 0, .int .u8 0, .int .u8 0, .int .u8 0, .int .u8 0, .int .u8 0, .int .u8 0, .int .u8 0, .int .u8 0, .int .u8 0, .int .u8 0, .int .u8 0, .int .u8 0, .int .u8 0, .int .u8 0, .int .u8 0, .int .u8 0, .int .u8 0, .int .u8 0, .int .u8 0, .int .u8 0, .int .u8 0, .int .u8 0, .int .u8 0, .int .u8 0, .int .u8 0, .int .u8 0, .int .u8 0, .int .u8 0, .int .u8 0, .int .u8 0, .int .u8 0, .int .u8 0, .int .u8 0, .int .u8 0, .int .u8 0, .int .u8 0, .int .u8 0, .int .u8 0, .int .u8 0, .int .u8 0, .int .u8 0, .int .u8 0, .int .u8 0, .int .u8 0, .int .u8 0, .int .u8 0, .int .u8 0, .int .u8 0, .int .u8 0, .int .u8 0, .int .u8 0, .int .u8 0, .int .u8 0, .int .u8 0, .int .u8 0, .int .u8 0, .int .u8 0, .int .u8 0, .int .u8 0, .int .u8 0, .int .u8 0, .int .u8 0, .int .u8 0, .int .u8 0, .int .u8 0, .int .u8 0, .int .u8 0, .int .u8 0, .int .u8 0, .int .u8 0, .int .u8 0, .int .u8 0, .int .u8 0, .int .u8 0, .int .u8 0, .int .u8 0, .int .u8 0, .int .u8 0, .int .u8 0, .int .u8 0, .int .u8 0, .int .u8 0, .int .u8 0, .int .u8 0, .int .u8 0, .int .u8 0, .int .u8 0, .int .u8 0, .int .u8 0, .int .u8 0, .int .u8 0, .int .u8 0, .int .u8 0, .int .u8 0, .int .u8 0, .int .u8 0, .int .u8 0, .int .u8 0, .int .u8 0, .int .u8 0, .int .u8 0, .int .u8 0, .int .u8 0, .int .u8 0, .int .u8 0, .int .u8 0, .int .u8 0, .int .u8 0, .int .u8 0, .int .u8 0, .int .u8 0, .int .u8 0, .int .u8 0, .int .u8 0, .int .u8 0, .int .u8 0, .int .u8 0, .int .u8 0, .int .u8 0, .int .u8 0, .int .u8 0, .int .u8 0, .int .u8 0, .int .u8 0, .int .u8 0, .int .u8 0, .int .u8 0, .int .u8 0, .int .u8 0, .int .u8 0, .int .u8 0, .int .u8 0, .int .u8 0, .int .u8 0, .int .u8 0, .int .u8 0, .int .u8 0, .int .u8 0, .int .u8 0, .int .u8 0, .int .u8 0, .int .u8 0, .int .u8 0, .int .u8 0, .int .u8 0, .int .u8 0, .int .u8 0, .int .u8 0, .int .u8 0, .int .u8 0, .int .u8 0, .int .u8 0, .int .u8 0, .int .u8 0, .int .u8 0, .int .u8 0, .int .u8 0, .int .u8 0, .int .u8 0, .int .u8 0, .int .u8 0, .int .u8 0, .int .u8 0, .int .u8 0, .int .u8 0, .int .u8 0, .int .u8 0, .int .u8 0, .int .u8 0, .int .u8 0, .int .u8 0, .int .u8 0, .int .u8 0, .int .u8 0, .int .u8 0, .int .u8 0, .int .u8 0, .int .u8 0, .int .u8 0, .int .u8 0, .int .u8 0, .int .u8 0, .int .u8 0, .int .u8 0, .int .u8 0, .int .u8 0, .int .u8 0, .int .u8 0, .int .u8 0, .int .u8 0, .int .u8 0, .int .u8 0, .int .u8 0, .int .u8 0, .int .u8 0, .int .u8 0, .int .u8 0, .int .u8 0, .int .u8 0, .int .u8 0, .int .u8 0, .int .u8 0, .int .u8 0, .int .u8 0, .int .u8 0, .int .u8 0, .int .u8 0, .int .u8 0, .int .u8 0, .int .u8 0, .int .u8 0, .int .u8 0, .int .u8 0, .int .u8 0, .int .u8 0, .int .u8 0, .int .u8 0, .int .u8 0, .int .u8 0, .int .u8 0, .int .u8 0, .int .u8 0, .int .u8 0, .int .u8 0, .int .u8 0, .int .u8 0, .int .u8 0, .int .u8 0, .int .u8 0, .int .u8 0, .int .u8 0, .int .u8 0, .int .u8 0, .int .u8 0, .int .u8 0, .int .u8 0], .array 256 5, false⟩,
  ⟨1, false, 8, [.nilf], .fn, false⟩,
  ⟨1, false, 8, [.nilf], .fn, false⟩,
  ⟨1, false, 24, [.nils], .slice 136, false⟩,
  ⟨2, true, 16, [.int .i64 0, .int .i64 0], .struct [(0, 3), (1, 3)], true⟩,
  ⟨2, true, 16, [.int .i64 0, .int .i64 0], .struct [(0, 3), (1, 3)], true⟩,
  ⟨1, false, 4, [.int .u32 0], .int .u32, false⟩,
  ⟨1, false, 8, [.nilf], .fn, false⟩,
  ⟨1, false, 8, [.nilp], .ptr 143, false⟩,
  ⟨1, false, 24, [.nils], .slice 146, false⟩,
  ⟨1, false, 24, [.nils], .slice 149, false⟩,
  ⟨3, true, 56, [.nils, .nils, .int .i64 0], .struct [(0, 140), (1, 141), (2, 3)], true⟩,
  ⟨3, true, 56, [.nils, .nils, .int .i64 0], .struct [(0, 140), (1, 141), (2, 3)], true⟩,
  ⟨1, false, 2, [.int .u16 0], .int .u16, false⟩,
  ⟨3, true, 6, [.int .u16 0, .int .u16 0, .int .u16 0], .struct [(0, 144), (1, 144), (2, 144)], true⟩,
  ⟨3, true, 6, [.int .u16 0, .int .u16 0, .int .u16 0], .struct [(0, 144), (1, 144), (2, 144)], true⟩,
  ⟨1, false, 8, [.nilf], .fn, false⟩,
  ⟨3, true, 12, [.int .u32 0, .int .u32 0, .int .u32 0], .struct [(0, 137), (1, 137), (2, 137)], true⟩,
  ⟨3, true, 12, [.int .u32 0, .int .u32 0, .int .u32 0], .struct [(0, 137), (1, 137), (2, 137)], true⟩,
  ⟨1, false, 8, [.nilf], .fn, false⟩,
  ⟨1, false, 8, [.nilp], .ptr 146, false⟩,
  ⟨1, false, 8, [.nilp], .ptr 149, false⟩,
  ⟨4, true, 40, [.nilp, .nilp, .nilp, .str []], .struct [(0, 17), (1, 17), (2, 17), (3, 9)], false⟩,
  ⟨4, true, 40, [.nilp, .nilp, .nilp, .str []], .struct [(0, 17), (1, 17), (2, 17), (3, 9)], false⟩,
  ⟨0, true, 0, [], .array 0 16, false⟩,
  ⟨0, true, 0, [], .struct [(0, 155)], false⟩,
  ⟨0, true, 0, [], .struct [(0, 155)], false⟩,
  ⟨1, false, 8, [.nilf], .fn, false⟩,
  ⟨1, false, 1, [.int .u8 0], .int .u8, false⟩,
  ⟨1, false, 1, [.int .u8 0], .int .u8, false⟩,
  ⟨1, false, 8, [.nilf], .fn, false⟩,
  ⟨1, false, 8, [.nilp], .ptr 5, false⟩,
  ⟨1, false, 4, [.int .i32 0], .int .i32, false⟩,
  ⟨1, false, 4, [.int .i32 0], .int .i32, false⟩,
  ⟨11, true, 48, [.int .u64 0, .int .u64 0, .int .u32 0, .int .u8 0, .int .u8 0, .int .u8 0, .int .u8 0, .nilf, .nilp, .int .i32 0, .int .i32 0], .struct [(0, 12), (1, 12), (2, 137), (3, 159), (4, 5), (5, 5), (6, 160), (7, 161), (8, 162), (9, 163), (10, 164)], false⟩,
  ⟨11, true, 48, [.int .u64 0, .int .u64 0, .int .u32 0, .int .u8 0, .int .u8 0, .int .u8 0, .int .u8 0, .nilf, .nilp, .int .i32 0, .int .i32 0], .struct [(0, 12), (1, 12), (2, 137), (3, 159), (4, 5), (5, 5), (6, 160), (7, 161), (8, 162), (9, 163), (10, 164)], false⟩,
  ⟨1, false, 8, [.nilp], .other, false⟩]
theorem tab_ok : (List.range 168).map (mkTI Tryz.prog) = tab.map some := by kernel_rfl
theorem tb_ok : TbOk Tryz.prog tab := fun t ti h => by
  have e := congrArg (fun l => l[t]?) tab_ok
  simp only [List.getElem?_map, h, Option.map_some] at e
  cases hr : (List.range 168)[t]? with
  | none => rw [hr] at e; cases e
  | some i =>
    rw [hr] at e
    simp only [Option.map_some, Option.some.injEq] at e
    obtain ⟨h1, h2⟩ := List.getElem?_eq_some_iff.1 hr
    simp only [List.getElem_range] at h2
    subst h2
    exact e
end Go.Proofs.YtjakhfaodfaimaaGreatDoor.AE
set_option linter.unusedVariables false
namespace Go.Proofs.YtjakhfaodfaimaaGreatDoor.SY
open Go AE F
def U : Nat → Type
  | 0 => List UInt8
  | 1 => TNode
  | 2 => Tparse_Fault
  | 3 => Tref15_Got
  | 4 => TToken
  | 5 => Tref14_Got
  | 6 => Int
  | 7 => Int × Int
  | 8 => Tplace_Lines
  | 9 => Tnest_depth
  | 10 => Tstmt_cursor
  | 11 => Int
  | _ => Unit
def e0 (x : List UInt8) : AV := .str x
mutual
def e1 : TNode → AV
  | ⟨v0, v1, v2, v3, v4⟩ => .agg (([.int .i64 v0] ++ ([.int .i64 v1] ++ ([.int .i64 v2] ++ ([.str v3] ++ ([.slice .none 5 (E1 v4)] ++ []))))))
def E1 : List TNode → List AV
  | [] => []
  | x :: r => e1 x :: E1 r
end
theorem E1_map : ∀ l, E1 l = l.map e1
  | [] => rfl
  | x :: r => by simp only [E1, List.map_cons, E1_map r]
def e2 (x : Tparse_Fault) : AV := .agg (([.int .i64 x.At] ++ ([.int .i64 x.Line] ++ ([.int .i64 x.Col] ++ ([.int .i64 x.Why] ++ [])))))
def e3 (x : Tref15_Got) : AV := .agg (((cellsOf (e1 x.N)) ++ ([.int .i64 x.At] ++ ([.int .i64 x.Line] ++ ([.int .i64 x.Col] ++ ([.int .i64 x.Why] ++ []))))))
def e4 (x : TToken) : AV := .agg (([.int .i64 x.Kind] ++ ([.int .i64 x.At] ++ ([.int .i64 x.N] ++ ([.str x.Text] ++ [])))))
def e5 (x : Tref14_Got) : AV := .agg (((cellsOf (e1 x.N)) ++ ([.int .i64 x.At] ++ ([.bool x.Ok] ++ []))))
def e6 (x : Int) : AV := .int .i64 x
def e7 (x : Int × Int) : AV := .agg (([.int .i64 x.1] ++ ([.int .i64 x.2] ++ [])))
def e8 (x : Tplace_Lines) : AV := .agg (([.str x.src] ++ ([.slice .none 1 (x.begins.map e6)] ++ [])))
def e9 (x : Tnest_depth) : AV := .agg (([.int .i64 x.open_] ++ ([.int .i64 x.row] ++ [])))
def e10 (x : Tstmt_cursor) : AV := .agg (([.slice .none 4 (x.l.map e4)] ++ ([.int .i64 x.at_] ++ ([.bool x.bad] ++ []))))
def e11 (x : Int) : AV := .int .u8 x
def ds : (i : Nat) → Ds U i
  | 0 => ⟨1, false, .str, fun x => x, fun z => z, e0, none⟩
  | 1 => ⟨5, true, (.L [.int .i64, .int .i64, .int .i64, .str, .lst 1]), fun x => (x.Kind, x.At, x.N, x.Name, x.Kids), fun z => ⟨z.1, z.2.1, z.2.2.1, z.2.2.2.1, z.2.2.2.2⟩, e1, none⟩
  | 2 => ⟨4, true, (.L [.int .i64, .int .i64, .int .i64, .int .i64]), fun x => (x.At, x.Line, x.Col, x.Why), fun z => ⟨z.1, z.2.1, z.2.2.1, z.2.2.2⟩, e2, none⟩
  | 3 => ⟨9, true, (.L [.typ 1, .int .i64, .int .i64, .int .i64, .int .i64]), fun x => (x.N, x.At, x.Line, x.Col, x.Why), fun z => ⟨z.1, z.2.1, z.2.2.1, z.2.2.2.1, z.2.2.2.2⟩, e3, none⟩
  | 4 => ⟨4, true, (.L [.int .i64, .int .i64, .int .i64, .str]), fun x => (x.Kind, x.At, x.N, x.Text), fun z => ⟨z.1, z.2.1, z.2.2.1, z.2.2.2⟩, e4, none⟩
  | 5 => ⟨7, true, (.L [.typ 1, .int .i64, .bool]), fun x => (x.N, x.At, x.Ok), fun z => ⟨z.1, z.2.1, z.2.2⟩, e5, none⟩
  | 6 => ⟨1, false, .int .i64, fun x => x, fun z => z, e6, none⟩
  | 7 => ⟨2, true, (.L [.int .i64, .int .i64]), fun x => x, fun z => z, e7, none⟩
  | 8 => ⟨2, true, (.L [.str, .lst 6]), fun x => (x.src, x.begins), fun z => ⟨z.1, z.2⟩, e8, none⟩
  | 9 => ⟨2, true, (.L [.int .i64, .int .i64]), fun x => (x.open_, x.row), fun z => ⟨z.1, z.2⟩, e9, none⟩
  | 10 => ⟨3, true, (.L [.lst 4, .int .i64, .bool]), fun x => (x.l, x.at_, x.bad), fun z => ⟨z.1, z.2.1, z.2.2⟩, e10, none⟩
  | 11 => ⟨1, false, .int .u8, fun x => x, fun z => z, e11, some fun l => l.map fun b => (b.toNat : Int)⟩
  | _ + 12 => ⟨0, true, .nil, fun _ => (), fun _ => (), fun _ => .agg [], none⟩
def ty : List (Nat × Nat) := [(3, 6), (5, 11), (9, 0), (25, 1), (28, 2), (33, 3), (42, 4), (50, 5), (56, 10), (71, 7), (83, 9), (104, 8)]
theorem ds_ok : ∀ i, DsOk (mkM0 ds ty) (ds i)
  | 0 => ⟨fun _ _ => rfl, fun _ => rfl, fun _ => rfl, fun _ => rfl, fun _ => rfl, fun _ => rfl, fun _ => rfl, fun _ => rfl, fun _ h => by cases h⟩
  | 1 => ⟨fun B ⟨v0, v1, v2, v3, v4⟩ => by
      show (([.int .i64 v0] ++ ([.int .i64 v1] ++ ([.int .i64 v2] ++ ([.str v3] ++ ([.slice .none 5 (v4.map e1)] ++ []))))) : List AV) = ([.int .i64 v0] ++ ([.int .i64 v1] ++ ([.int .i64 v2] ++ ([.str v3] ++ ([.slice .none 5 (E1 v4)] ++ [])))))
      rw [E1_map], fun _ => rfl, fun ⟨v0, v1, v2, v3, v4⟩ => (⟨_, rfl⟩ : ∃ cs, (ds 1).enc ⟨v0, v1, v2, v3, v4⟩ = AV.agg cs), fun ⟨_, _, _, _, _⟩ => rfl, fun ⟨_, _, _, _, _⟩ => rfl, fun ⟨_, _, _, _, _⟩ => rfl, fun ⟨_, _, _, _, _⟩ => rfl, fun ⟨_, _, _, _, _⟩ => rfl, fun _ h => by cases h⟩
  | 2 => ⟨fun _ _ => rfl, fun _ => rfl, fun x => (⟨_, rfl⟩ : ∃ cs, (ds (2)).enc x = AV.agg cs), fun _ => rfl, fun _ => rfl, fun _ => rfl, fun _ => rfl, fun _ => rfl, fun _ h => by cases h⟩
  | 3 => ⟨fun _ _ => rfl, fun _ => rfl, fun x => (⟨_, rfl⟩ : ∃ cs, (ds (3)).enc x = AV.agg cs), fun ⟨⟨_, _, _, _, _⟩, _, _, _, _⟩ => rfl, fun ⟨⟨_, _, _, _, _⟩, _, _, _, _⟩ => rfl, fun ⟨⟨_, _, _, _, _⟩, _, _, _, _⟩ => rfl, fun ⟨⟨_, _, _, _, _⟩, _, _, _, _⟩ => rfl, fun ⟨⟨_, _, _, _, _⟩, _, _, _, _⟩ => rfl, fun _ h => by cases h⟩
  | 4 => ⟨fun _ _ => rfl, fun _ => rfl, fun x => (⟨_, rfl⟩ : ∃ cs, (ds (4)).enc x = AV.agg cs), fun _ => rfl, fun _ => rfl, fun _ => rfl, fun _ => rfl, fun _ => rfl, fun _ h => by cases h⟩
  | 5 => ⟨fun _ _ => rfl, fun _ => rfl, fun x => (⟨_, rfl⟩ : ∃ cs, (ds (5)).enc x = AV.agg cs), fun ⟨⟨_, _, _, _, _⟩, _, _⟩ => rfl, fun ⟨⟨_, _, _, _, _⟩, _, _⟩ => rfl, fun ⟨⟨_, _, _, _, _⟩, _, _⟩ => rfl, fun ⟨⟨_, _, _, _, _⟩, _, _⟩ => rfl, fun ⟨⟨_, _, _, _, _⟩, _, _⟩ => rfl, fun _ h => by cases h⟩
  | 6 => ⟨fun _ _ => rfl, fun _ => rfl, fun _ => rfl, fun _ => rfl, fun _ => rfl, fun _ => rfl, fun _ => rfl, fun _ => rfl, fun _ h => by cases h⟩
  | 7 => ⟨fun _ _ => rfl, fun _ => rfl, fun x => (⟨_, rfl⟩ : ∃ cs, (ds (7)).enc x = AV.agg cs), fun _ => rfl, fun _ => rfl, fun _ => rfl, fun _ => rfl, fun _ => rfl, fun _ h => by cases h⟩
  | 8 => ⟨fun _ _ => rfl, fun _ => rfl, fun x => (⟨_, rfl⟩ : ∃ cs, (ds (8)).enc x = AV.agg cs), fun _ => rfl, fun _ => rfl, fun _ => rfl, fun _ => rfl, fun _ => rfl, fun _ h => by cases h⟩
  | 9 => ⟨fun _ _ => rfl, fun _ => rfl, fun x => (⟨_, rfl⟩ : ∃ cs, (ds (9)).enc x = AV.agg cs), fun _ => rfl, fun _ => rfl, fun _ => rfl, fun _ => rfl, fun _ => rfl, fun _ h => by cases h⟩
  | 10 => ⟨fun _ _ => rfl, fun _ => rfl, fun x => (⟨_, rfl⟩ : ∃ cs, (ds (10)).enc x = AV.agg cs), fun _ => rfl, fun _ => rfl, fun _ => rfl, fun _ => rfl, fun _ => rfl, fun _ h => by cases h⟩
  | 11 => ⟨fun _ _ => rfl, fun _ => rfl, fun _ => rfl, fun _ => rfl, fun _ => rfl, fun _ => rfl, fun _ => rfl, fun _ => rfl, fun f h => by cases h; exact ⟨rfl, fun l => by induction l with | nil => rfl | cons b r ih => exact congrArg (List.cons (AV.int .u8 b.toNat)) ih⟩⟩
  | n + 12 => ⟨fun _ _ => rfl, fun _ => rfl, fun x => (⟨_, rfl⟩ : ∃ cs, (ds (n + 12)).enc x = AV.agg cs), fun _ => rfl, fun _ => rfl, fun _ => rfl, fun _ => rfl, fun _ => rfl, fun _ h => by cases h⟩
def M : TM U := mkM ds ty
def g_strings_asciiSpace : List Int := [0, 0, 0, 0, 0, 0, 0, 0, 0, 1, 1, 1, 1, 1, 0, 0, 0, 0, 0, 0, 0, 0, 0, 0, 0, 0, 0, 0, 0, 0, 0, 0, 1, 0, 0, 0, 0, 0, 0, 0, 0, 0, 0, 0, 0, 0, 0, 0, 0, 0, 0, 0, 0, 0, 0, 0, 0, 0, 0, 0, 0, 0, 0, 0, 0, 0, 0, 0, 0, 0, 0, 0, 0, 0, 0, 0, 0, 0, 0, 0, 0, 0, 0, 0, 0, 0, 0, 0, 0, 0, 0, 0, 0, 0, 0, 0, 0, 0, 0, 0, 0, 0, 0, 0, 0, 0, 0, 0, 0, 0, 0, 0, 0, 0, 0, 0, 0, 0, 0, 0, 0, 0, 0, 0, 0, 0, 0, 0, 0, 0, 0, 0, 0, 0, 0, 0, 0, 0, 0, 0, 0, 0, 0, 0, 0, 0, 0, 0, 0, 0, 0, 0, 0, 0, 0, 0, 0, 0, 0, 0, 0, 0, 0, 0, 0, 0, 0, 0, 0, 0, 0, 0, 0, 0, 0, 0, 0, 0, 0, 0, 0, 0, 0, 0, 0, 0, 0, 0, 0, 0, 0, 0, 0, 0, 0, 0, 0, 0, 0, 0, 0, 0, 0, 0, 0, 0, 0, 0, 0, 0, 0, 0, 0, 0, 0, 0, 0, 0, 0, 0, 0, 0, 0, 0, 0, 0, 0, 0, 0, 0, 0, 0, 0, 0, 0, 0, 0, 0, 0, 0, 0, 0, 0, 0, 0, 0, 0, 0, 0, 0, 0, 0, 0, 0, 0, 0]
def gs : List (Nat × List (SV U)) := [(0, [.arr 0 g_word_spellings]), (1, g_strings_asciiSpace.map fun n => .raw (.int .u8 n))]
noncomputable def Zs : Seat := ⟨tab, Tryz.prog, gs.map fun x => (x.1, flat M [] x.2), tb_ok, by kernel_rfl⟩
noncomputable def Y : SZ U := ⟨Zs, M, mkM_ok ds_ok (by kernel_rfl), gs, fun _ => rfl⟩
end Go.Proofs.YtjakhfaodfaimaaGreatDoor.SY
