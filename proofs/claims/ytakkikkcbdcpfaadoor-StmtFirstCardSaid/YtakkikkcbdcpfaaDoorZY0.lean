/- The types' table, and how plain values are told. No condition. -/
import Derived.Test.YtakkikkcbdcpfaaDoorProg
import Derived.Test.YtakkikkcbdcpfaaDoorZA1
import Derived.KernelRfl
import Derived.Test.YtakkikkcbdcpfaaDoorZS1
import Derived.Test.YtakkikkcbdcpfaaDoorZF0
set_option maxRecDepth 100000
namespace Go.Proofs.YtakkikkcbdcpfaaDoor.AE
open Go
def tab : List TI := [
  ⟨1, false, 0, [.undef], .other, false⟩,
  ⟨1, false, 8, [.nilf], .fn, false⟩,
  ⟨1, false, 8, [.int .i64 0], .int .i64, false⟩,
  ⟨1, false, 8, [.int .i64 0], .int .i64, false⟩,
  ⟨1, false, 1, [.bool false], .bool, false⟩,
  ⟨1, false, 1, [.int .u8 0], .int .u8, false⟩,
  ⟨1, false, 1, [.int .u8 0], .int .u8, false⟩,
  ⟨4, true, 24, [.int .i64 0, .int .i64 0, .bool false, .int .u8 0], .struct [(0, 2), (1, 3), (2, 4), (3, 6)], true⟩,
  ⟨4, true, 24, [.int .i64 0, .int .i64 0, .bool false, .int .u8 0], .struct [(0, 2), (1, 3), (2, 4), (3, 6)], true⟩,
  ⟨1, false, 16, [.str []], .string, false⟩,
  ⟨1, false, 16, [.str []], .string, false⟩,
  ⟨1, false, 16, [.str []], .string, false⟩,
  ⟨1, false, 8, [.int .u64 0], .int .u64, false⟩,
  ⟨2, true, 24, [.str [], .int .u64 0], .struct [(0, 9), (1, 12)], false⟩,
  ⟨2, true, 24, [.str [], .int .u64 0], .struct [(0, 9), (1, 12)], false⟩,
  ⟨1, false, 8, [.nilp], .ptr 97, false⟩,
  ⟨1, false, 8, [.nilp], .ptr 100, false⟩,
  ⟨1, false, 8, [.nilp], .ptr 110, false⟩,
  ⟨1, true, 8, [.nilp], .struct [(0, 17)], false⟩,
  ⟨1, true, 8, [.nilp], .struct [(0, 17)], false⟩,
  ⟨1, false, 16, [.nili], .iface 0, false⟩,
  ⟨1, false, 4, [.int .i32 0], .int .i32, false⟩,
  ⟨1, false, 8, [.nilf], .fn, false⟩,
  ⟨1, false, 24, [.nils], .slice 33, false⟩,
  ⟨1, false, 8, [.int .i64 0], .int .i64, false⟩,
  ⟨1, false, 0, [.undef], .other, false⟩,
  ⟨1, false, 8, [.nilf], .fn, false⟩,
  ⟨1, false, 24, [.nils], .slice 29, false⟩,
  ⟨5, true, 64, [.int .i64 0, .int .i64 0, .int .i64 0, .str [], .nils], .struct [(0, 3), (1, 3), (2, 3), (3, 9), (4, 27)], true⟩,
  ⟨5, true, 64, [.int .i64 0, .int .i64 0, .int .i64 0, .str [], .nils], .struct [(0, 3), (1, 3), (2, 3), (3, 9), (4, 27)], true⟩,
  ⟨1, false, 0, [.undef], .other, false⟩,
  ⟨1, false, 8, [.nilf], .fn, false⟩,
  ⟨4, true, 40, [.int .i64 0, .int .i64 0, .int .i64 0, .str []], .struct [(0, 3), (1, 3), (2, 3), (3, 9)], true⟩,
  ⟨4, true, 40, [.int .i64 0, .int .i64 0, .int .i64 0, .str []], .struct [(0, 3), (1, 3), (2, 3), (3, 9)], true⟩,
  ⟨1, false, 8, [.nilf], .fn, false⟩,
  ⟨1, false, 8, [.nilf], .fn, false⟩,
  ⟨1, false, 8, [.nilf], .fn, false⟩,
  ⟨7, true, 80, [.int .i64 0, .int .i64 0, .int .i64 0, .str [], .nils, .int .i64 0, .bool false], .struct [(0, 29), (5, 3), (6, 4)], true⟩,
  ⟨7, true, 80, [.int .i64 0, .int .i64 0, .int .i64 0, .str [], .nils, .int .i64 0, .bool false], .struct [(0, 29), (5, 3), (6, 4)], true⟩,
  ⟨1, false, 8, [.nilf], .fn, false⟩,
  ⟨1, false, 8, [.nilf], .fn, false⟩,
  ⟨1, false, 8, [.nilf], .fn, false⟩,
  ⟨1, false, 8, [.nilf], .fn, false⟩,
  ⟨1, false, 0, [.undef], .other, false⟩,
  ⟨1, false, 8, [.nilf], .fn, false⟩,
  ⟨3, true, 40, [.nils, .int .i64 0, .bool false], .struct [(0, 23), (1, 3), (2, 4)], true⟩,
  ⟨3, true, 40, [.nils, .int .i64 0, .bool false], .struct [(0, 23), (1, 3), (2, 4)], true⟩,
  ⟨1, false, 8, [.nilf], .fn, false⟩,
  ⟨1, false, 8, [.nilf], .fn, false⟩,
  ⟨1, false, 8, [.nilf], .fn, false⟩,
  ⟨1, false, 8, [.nilf], .fn, false⟩,
  ⟨1, false, 8, [.nilf], .fn, false⟩,
  ⟨1, false, 8, [.nilf], .fn, false⟩,
  ⟨1, false, 8, [.nilf], .fn, false⟩,
  ⟨1, false, 8, [.nilf], .fn, false⟩,
  ⟨1, false, 8, [.nilf], .fn, false⟩,
  ⟨1, false, 8, [.nilf], .fn, false⟩,
  ⟨1, false, 24, [.nils], .slice 9, false⟩,
  ⟨1, false, 8, [.nilf], .fn, false⟩,
  ⟨1, false, 8, [.nilf], .fn, false⟩,
  ⟨1, false, 8, [.nilf], .fn, false⟩,
  ⟨1, false, 0, [.undef], .other, false⟩,
  ⟨1, false, 8, [.nilf], .fn, false⟩,
  ⟨1, false, 8, [.nilf], .fn, false⟩,
  ⟨1, false, 8, [.nilp], .ptr 46, false⟩,
  ⟨1, false, 0, [.undef], .other, false⟩,
  ⟨1, false, 8, [.nilf], .fn, false⟩,
  ⟨1, false, 8, [.nilf], .fn, false⟩,
  ⟨1, false, 8, [.nilf], .fn, false⟩,
  ⟨1, false, 8, [.nilf], .fn, false⟩,
  ⟨1, false, 0, [.undef], .other, false⟩,
  ⟨1, false, 8, [.nilf], .fn, false⟩,
  ⟨1, false, 0, [.undef], .other, false⟩,
  ⟨1, false, 8, [.nilf], .fn, false⟩,
  ⟨1, false, 8, [.nilf], .fn, false⟩,
  ⟨1, false, 8, [.nilf], .fn, false⟩,
  ⟨1, false, 8, [.nilf], .fn, false⟩,
  ⟨1, false, 8, [.int .u64 0], .int .u64, false⟩,
  ⟨1, false, 8, [.nilf], .fn, false⟩,
  ⟨1, false, 8, [.nilf], .fn, false⟩,
  ⟨1, false, 0, [.undef], .other, false⟩,
  ⟨1, false, 8, [.nilf], .fn, false⟩,
  ⟨1, false, 8, [.nilf], .fn, false⟩,
  ⟨3, true, 40, [.nils, .int .i64 0, .bool false], .struct [(0, 23), (1, 3), (2, 4)], true⟩,
  ⟨3, true, 40, [.nils, .int .i64 0, .bool false], .struct [(0, 23), (1, 3), (2, 4)], true⟩,
  ⟨1, false, 8, [.nilf], .fn, false⟩,
  ⟨1, false, 8, [.nilf], .fn, false⟩,
  ⟨1, false, 8, [.nilp], .ptr 84, false⟩,
  ⟨1, false, 8, [.nilf], .fn, false⟩,
  ⟨1, false, 8, [.nilf], .fn, false⟩,
  ⟨1, false, 8, [.nilf], .fn, false⟩,
  ⟨1, false, 24, [.nils], .slice 3, false⟩,
  ⟨1, false, 0, [.undef], .other, false⟩,
  ⟨1, false, 8, [.nilf], .fn, false⟩,
  ⟨1, false, 8, [.nilf], .fn, false⟩,
  ⟨15, true, 240, [.str [], .str [], .str [], .str [], .str [], .str [], .str [], .str [], .str [], .str [], .str [], .str [], .str [], .str [], .str []], .array 15 9, false⟩,
  ⟨4, true, 40, [.nilp, .nilp, .nilp, .str []], .struct [(0, 17), (1, 17), (2, 17), (3, 9)], false⟩,
  ⟨4, true, 40, [.nilp, .nilp, .nilp, .str []], .struct [(0, 17), (1, 17), (2, 17), (3, 9)], false⟩,
  ⟨0, true, 0, [], .array 0 16, false⟩,
  ⟨0, true, 0, [], .struct [(0, 98)], false⟩,
  ⟨0, true, 0, [], .struct [(0, 98)], false⟩,
  ⟨1, false, 8, [.nilf], .fn, false⟩,
  ⟨1, false, 4, [.int .u32 0], .int .u32, false⟩,
  ⟨1, false, 1, [.int .u8 0], .int .u8, false⟩,
  ⟨1, false, 1, [.int .u8 0], .int .u8, false⟩,
  ⟨1, false, 8, [.nilf], .fn, false⟩,
  ⟨1, false, 8, [.nilp], .ptr 5, false⟩,
  ⟨1, false, 4, [.int .i32 0], .int .i32, false⟩,
  ⟨1, false, 4, [.int .i32 0], .int .i32, false⟩,
  ⟨11, true, 48, [.int .u64 0, .int .u64 0, .int .u32 0, .int .u8 0, .int .u8 0, .int .u8 0, .int .u8 0, .nilf, .nilp, .int .i32 0, .int .i32 0], .struct [(0, 12), (1, 12), (2, 102), (3, 103), (4, 5), (5, 5), (6, 104), (7, 105), (8, 106), (9, 107), (10, 108)], false⟩,
  ⟨11, true, 48, [.int .u64 0, .int .u64 0, .int .u32 0, .int .u8 0, .int .u8 0, .int .u8 0, .int .u8 0, .nilf, .nilp, .int .i32 0, .int .i32 0], .struct [(0, 12), (1, 12), (2, 102), (3, 103), (4, 5), (5, 5), (6, 104), (7, 105), (8, 106), (9, 107), (10, 108)], false⟩,
  ⟨1, false, 8, [.nilp], .other, false⟩]
theorem tab_ok : (List.range 112).map (mkTI Tryd.prog) = tab.map some := by kernel_rfl
theorem tb_ok : TbOk Tryd.prog tab := fun t ti h => by
  have e := congrArg (fun l => l[t]?) tab_ok
  simp only [List.getElem?_map, h, Option.map_some] at e
  cases hr : (List.range 112)[t]? with
  | none => rw [hr] at e; cases e
  | some i =>
    rw [hr] at e
    simp only [Option.map_some, Option.some.injEq] at e
    obtain ⟨h1, h2⟩ := List.getElem?_eq_some_iff.1 hr
    simp only [List.getElem_range] at h2
    subst h2
    exact e
end Go.Proofs.YtakkikkcbdcpfaaDoor.AE
set_option linter.unusedVariables false
namespace Go.Proofs.YtakkikkcbdcpfaaDoor.SY
open Go AE F
def U : Nat → Type
  | 0 => List UInt8
  | 1 => TToken
  | 2 => TNode
  | 3 => Tref14_Got
  | 4 => Tstmt_cursor
  | 5 => Int
  | _ => Unit
def e0 (x : List UInt8) : AV := .str x
def e1 (x : TToken) : AV := .agg (([.int .i64 x.Kind] ++ ([.int .i64 x.At] ++ ([.int .i64 x.N] ++ ([.str x.Text] ++ [])))))
mutual
def e2 : TNode → AV
  | ⟨v0, v1, v2, v3, v4⟩ => .agg (([.int .i64 v0] ++ ([.int .i64 v1] ++ ([.int .i64 v2] ++ ([.str v3] ++ ([.slice .none 5 (E2 v4)] ++ []))))))
def E2 : List TNode → List AV
  | [] => []
  | x :: r => e2 x :: E2 r
end
theorem E2_map : ∀ l, E2 l = l.map e2
  | [] => rfl
  | x :: r => by simp only [E2, List.map_cons, E2_map r]
def e3 (x : Tref14_Got) : AV := .agg (((cellsOf (e2 x.N)) ++ ([.int .i64 x.At] ++ ([.bool x.Ok] ++ []))))
def e4 (x : Tstmt_cursor) : AV := .agg (([.slice .none 4 (x.l.map e1)] ++ ([.int .i64 x.at_] ++ ([.bool x.bad] ++ []))))
def e5 (x : Int) : AV := .int .i64 x
def ds : (i : Nat) → Ds U i
  | 0 => ⟨1, false, .str, fun x => x, fun z => z, e0⟩
  | 1 => ⟨4, true, (.L [.int .i64, .int .i64, .int .i64, .str]), fun x => (x.Kind, x.At, x.N, x.Text), fun z => ⟨z.1, z.2.1, z.2.2.1, z.2.2.2⟩, e1⟩
  | 2 => ⟨5, true, (.L [.int .i64, .int .i64, .int .i64, .str, .lst 2]), fun x => (x.Kind, x.At, x.N, x.Name, x.Kids), fun z => ⟨z.1, z.2.1, z.2.2.1, z.2.2.2.1, z.2.2.2.2⟩, e2⟩
  | 3 => ⟨7, true, (.L [.typ 2, .int .i64, .bool]), fun x => (x.N, x.At, x.Ok), fun z => ⟨z.1, z.2.1, z.2.2⟩, e3⟩
  | 4 => ⟨3, true, (.L [.lst 1, .int .i64, .bool]), fun x => (x.l, x.at_, x.bad), fun z => ⟨z.1, z.2.1, z.2.2⟩, e4⟩
  | 5 => ⟨1, false, .int .i64, fun x => x, fun z => z, e5⟩
  | _ + 6 => ⟨0, true, .nil, fun _ => (), fun _ => (), fun _ => .agg []⟩
def ty : List (Nat × Nat) := [(3, 5), (9, 0), (29, 2), (33, 1), (38, 3), (46, 4)]
theorem ds_ok : ∀ i, DsOk (mkM0 ds ty) (ds i)
  | 0 => ⟨fun _ _ => rfl, fun _ => rfl, fun _ => rfl, fun _ => rfl, fun _ => rfl, fun _ => rfl, fun _ => rfl, fun _ => rfl⟩
  | 1 => ⟨fun _ _ => rfl, fun _ => rfl, fun x => (⟨_, rfl⟩ : ∃ cs, (ds (1)).enc x = AV.agg cs), fun _ => rfl, fun _ => rfl, fun _ => rfl, fun _ => rfl, fun _ => rfl⟩
  | 2 => ⟨fun B ⟨v0, v1, v2, v3, v4⟩ => by
      show (([.int .i64 v0] ++ ([.int .i64 v1] ++ ([.int .i64 v2] ++ ([.str v3] ++ ([.slice .none 5 (v4.map e2)] ++ []))))) : List AV) = ([.int .i64 v0] ++ ([.int .i64 v1] ++ ([.int .i64 v2] ++ ([.str v3] ++ ([.slice .none 5 (E2 v4)] ++ [])))))
      rw [E2_map], fun _ => rfl, fun ⟨v0, v1, v2, v3, v4⟩ => (⟨_, rfl⟩ : ∃ cs, (ds 2).enc ⟨v0, v1, v2, v3, v4⟩ = AV.agg cs), fun ⟨_, _, _, _, _⟩ => rfl, fun ⟨_, _, _, _, _⟩ => rfl, fun ⟨_, _, _, _, _⟩ => rfl, fun ⟨_, _, _, _, _⟩ => rfl, fun ⟨_, _, _, _, _⟩ => rfl⟩
  | 3 => ⟨fun _ _ => rfl, fun _ => rfl, fun x => (⟨_, rfl⟩ : ∃ cs, (ds (3)).enc x = AV.agg cs), fun ⟨⟨_, _, _, _, _⟩, _, _⟩ => rfl, fun ⟨⟨_, _, _, _, _⟩, _, _⟩ => rfl, fun ⟨⟨_, _, _, _, _⟩, _, _⟩ => rfl, fun ⟨⟨_, _, _, _, _⟩, _, _⟩ => rfl, fun ⟨⟨_, _, _, _, _⟩, _, _⟩ => rfl⟩
  | 4 => ⟨fun _ _ => rfl, fun _ => rfl, fun x => (⟨_, rfl⟩ : ∃ cs, (ds (4)).enc x = AV.agg cs), fun _ => rfl, fun _ => rfl, fun _ => rfl, fun _ => rfl, fun _ => rfl⟩
  | 5 => ⟨fun _ _ => rfl, fun _ => rfl, fun _ => rfl, fun _ => rfl, fun _ => rfl, fun _ => rfl, fun _ => rfl, fun _ => rfl⟩
  | n + 6 => ⟨fun _ _ => rfl, fun _ => rfl, fun x => (⟨_, rfl⟩ : ∃ cs, (ds (n + 6)).enc x = AV.agg cs), fun _ => rfl, fun _ => rfl, fun _ => rfl, fun _ => rfl, fun _ => rfl⟩
def M : TM U := mkM ds ty
def gs : List (Nat × List (SV U)) := [(0, [.arr 0 g_word_spellings])]
noncomputable def Zs : Seat := ⟨tab, Tryd.prog, gs.map fun x => (x.1, flat M [] x.2), tb_ok, by kernel_rfl⟩
noncomputable def Y : SZ U := ⟨Zs, M, mkM_ok ds_ok (by kernel_rfl), gs, fun _ => rfl⟩
end Go.Proofs.YtakkikkcbdcpfaaDoor.SY
