/- The types' table that the evaluator reads, and that it is the program's. No condition. -/
import Derived.Test.YtbckfbohbjhffaaProg
import Derived.Test.YtbckfbohbjhffaaZTyp
import Derived.KernelRfl
set_option maxRecDepth 100000
namespace Go.Proofs.Ytbckfbohbjhffaa.AE
open Go
def tab : List TI := [
  ⟨1, false, 0, [.undef], .other, false⟩,
  ⟨1, false, 8, [.nilf], .fn, false⟩,
  ⟨1, false, 8, [.int .i64 0], .int .i64, false⟩,
  ⟨1, false, 8, [.int .i64 0], .int .i64, false⟩,
  ⟨1, false, 1, [.bool false], .bool, false⟩,
  ⟨1, false, 1, [.int .u8 0], .int .u8, false⟩,
  ⟨1, false, 1, [.int .u8 0], .int .u8, false⟩,
  ⟨4, true, 24, [.int .i64 0, .int .i64 0, .bool false, .int .u8 0], .struct [(0, 2), (1, 3), (2, 4), (3, 6)], true⟩,
  ⟨4, true, 24, [.int .i64 0, .int .i64 0, .bool false, .int .u8 0], .struct [(0, 2), (1, 3), (2, 4), (3, 6)], true⟩,
  ⟨1, false, 16, [.str []], .string, false⟩,
  ⟨1, false, 16, [.str []], .string, false⟩,
  ⟨1, false, 16, [.str []], .string, false⟩,
  ⟨1, false, 8, [.int .u64 0], .int .u64, false⟩,
  ⟨2, true, 24, [.str [], .int .u64 0], .struct [(0, 9), (1, 12)], false⟩,
  ⟨2, true, 24, [.str [], .int .u64 0], .struct [(0, 9), (1, 12)], false⟩,
  ⟨1, false, 8, [.nilp], .ptr 77, false⟩,
  ⟨1, false, 8, [.nilp], .ptr 80, false⟩,
  ⟨1, false, 8, [.nilp], .ptr 89, false⟩,
  ⟨1, true, 8, [.nilp], .struct [(0, 17)], false⟩,
  ⟨1, true, 8, [.nilp], .struct [(0, 17)], false⟩,
  ⟨1, false, 16, [.nili], .iface 0, false⟩,
  ⟨1, false, 4, [.int .i32 0], .int .i32, false⟩,
  ⟨4, true, 32, [.int .i64 0, .int .i64 0, .int .i64 0, .int .i64 0], .struct [(0, 3), (1, 3), (2, 3), (3, 3)], true⟩,
  ⟨4, true, 32, [.int .i64 0, .int .i64 0, .int .i64 0, .int .i64 0], .struct [(0, 3), (1, 3), (2, 3), (3, 3)], true⟩,
  ⟨1, false, 8, [.nilf], .fn, false⟩,
  ⟨1, false, 8, [.nilf], .fn, false⟩,
  ⟨1, false, 8, [.nilf], .fn, false⟩,
  ⟨1, false, 8, [.nilf], .fn, false⟩,
  ⟨1, false, 24, [.nils], .slice 30, false⟩,
  ⟨1, false, 8, [.nilf], .fn, false⟩,
  ⟨1, false, 24, [.nils], .slice 32, false⟩,
  ⟨3, true, 24, [.int .i64 0, .int .i64 0, .bool false], .struct [(0, 3), (1, 3), (2, 4)], true⟩,
  ⟨3, true, 24, [.int .i64 0, .int .i64 0, .bool false], .struct [(0, 3), (1, 3), (2, 4)], true⟩,
  ⟨1, false, 24, [.nils], .slice 38, false⟩,
  ⟨1, false, 24, [.nils], .slice 41, false⟩,
  ⟨5, true, 72, [.int .i64 0, .int .i64 0, .int .i64 0, .nils, .nils], .struct [(0, 3), (1, 3), (2, 3), (3, 34), (4, 34)], true⟩,
  ⟨5, true, 72, [.int .i64 0, .int .i64 0, .int .i64 0, .nils, .nils], .struct [(0, 3), (1, 3), (2, 3), (3, 34), (4, 34)], true⟩,
  ⟨6, true, 80, [.int .i64 0, .int .i64 0, .int .i64 0, .nils, .nils, .int .i64 0], .struct [(0, 36), (5, 3)], true⟩,
  ⟨6, true, 80, [.int .i64 0, .int .i64 0, .int .i64 0, .nils, .nils, .int .i64 0], .struct [(0, 36), (5, 3)], true⟩,
  ⟨1, false, 8, [.nilf], .fn, false⟩,
  ⟨3, true, 40, [.int .i64 0, .int .i64 0, .nils], .struct [(0, 3), (1, 3), (2, 34)], true⟩,
  ⟨3, true, 40, [.int .i64 0, .int .i64 0, .nils], .struct [(0, 3), (1, 3), (2, 34)], true⟩,
  ⟨1, false, 8, [.nilf], .fn, false⟩,
  ⟨1, false, 8, [.nilf], .fn, false⟩,
  ⟨1, false, 24, [.nils], .slice 3, false⟩,
  ⟨1, false, 24, [.nils], .slice 50, false⟩,
  ⟨1, false, 8, [.nilp], .ptr 64, false⟩,
  ⟨1, false, 8, [.nilf], .fn, false⟩,
  ⟨1, false, 8, [.nilf], .fn, false⟩,
  ⟨2, true, 16, [.int .i64 0, .int .i64 0], .struct [(0, 3), (1, 3)], true⟩,
  ⟨2, true, 16, [.int .i64 0, .int .i64 0], .struct [(0, 3), (1, 3)], true⟩,
  ⟨1, false, 8, [.nilf], .fn, false⟩,
  ⟨1, false, 8, [.nilf], .fn, false⟩,
  ⟨1, false, 0, [.undef], .other, false⟩,
  ⟨1, false, 8, [.nilf], .fn, false⟩,
  ⟨1, false, 8, [.nilf], .fn, false⟩,
  ⟨1, false, 8, [.nilf], .fn, false⟩,
  ⟨1, false, 8, [.nilf], .fn, false⟩,
  ⟨1, false, 8, [.nilf], .fn, false⟩,
  ⟨1, false, 8, [.nilf], .fn, false⟩,
  ⟨1, false, 8, [.nilf], .fn, false⟩,
  ⟨1, false, 8, [.nilf], .fn, false⟩,
  ⟨1, false, 8, [.nilp], .ptr 36, false⟩,
  ⟨1, true, 24, [.nils], .struct [(0, 44)], true⟩,
  ⟨1, true, 24, [.nils], .struct [(0, 44)], true⟩,
  ⟨1, false, 8, [.nilf], .fn, false⟩,
  ⟨1, false, 8, [.nilf], .fn, false⟩,
  ⟨1, false, 8, [.nilf], .fn, false⟩,
  ⟨1, false, 8, [.nilf], .fn, false⟩,
  ⟨1, false, 8, [.nilf], .fn, false⟩,
  ⟨1, false, 8, [.nilf], .fn, false⟩,
  ⟨1, false, 8, [.nilf], .fn, false⟩,
  ⟨1, false, 8, [.nilf], .fn, false⟩,
  ⟨1, false, 8, [.int .u64 0], .int .u64, false⟩,
  ⟨1, false, 8, [.nilf], .fn, false⟩,
  ⟨1, false, 8, [.nilf], .fn, false⟩,
  ⟨4, true, 40, [.nilp, .nilp, .nilp, .str []], .struct [(0, 17), (1, 17), (2, 17), (3, 9)], false⟩,
  ⟨4, true, 40, [.nilp, .nilp, .nilp, .str []], .struct [(0, 17), (1, 17), (2, 17), (3, 9)], false⟩,
  ⟨0, true, 0, [], .array 0 16, false⟩,
  ⟨0, true, 0, [], .struct [(0, 78)], false⟩,
  ⟨0, true, 0, [], .struct [(0, 78)], false⟩,
  ⟨1, false, 4, [.int .u32 0], .int .u32, false⟩,
  ⟨1, false, 1, [.int .u8 0], .int .u8, false⟩,
  ⟨1, false, 1, [.int .u8 0], .int .u8, false⟩,
  ⟨1, false, 8, [.nilf], .fn, false⟩,
  ⟨1, false, 8, [.nilp], .ptr 5, false⟩,
  ⟨1, false, 4, [.int .i32 0], .int .i32, false⟩,
  ⟨1, false, 4, [.int .i32 0], .int .i32, false⟩,
  ⟨11, true, 48, [.int .u64 0, .int .u64 0, .int .u32 0, .int .u8 0, .int .u8 0, .int .u8 0, .int .u8 0, .nilf, .nilp, .int .i32 0, .int .i32 0], .struct [(0, 12), (1, 12), (2, 81), (3, 82), (4, 5), (5, 5), (6, 83), (7, 84), (8, 85), (9, 86), (10, 87)], false⟩,
  ⟨11, true, 48, [.int .u64 0, .int .u64 0, .int .u32 0, .int .u8 0, .int .u8 0, .int .u8 0, .int .u8 0, .nilf, .nilp, .int .i32 0, .int .i32 0], .struct [(0, 12), (1, 12), (2, 81), (3, 82), (4, 5), (5, 5), (6, 83), (7, 84), (8, 85), (9, 86), (10, 87)], false⟩,
  ⟨1, false, 8, [.nilp], .other, false⟩]
theorem tab_ok : (List.range 91).map (mkTI Try.prog) = tab.map some := by kernel_rfl
theorem tb_ok : TbOk Try.prog tab := fun t ti h => by
  have e := congrArg (fun l => l[t]?) tab_ok
  simp only [List.getElem?_map, h, Option.map_some] at e
  cases hr : (List.range 91)[t]? with
  | none => rw [hr] at e; cases e
  | some i =>
    rw [hr] at e
    simp only [Option.map_some, Option.some.injEq] at e
    obtain ⟨h1, h2⟩ := List.getElem?_eq_some_iff.1 hr
    simp only [List.getElem_range] at h2
    subst h2
    exact e
end Go.Proofs.Ytbckfbohbjhffaa.AE
