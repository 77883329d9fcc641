/- The plain law. No condition. -/
import Derived.Test.YtjojaiomgdjhfaaGreatDoorZA1
import Derived.Test.YtjojaiomgdjhfaaGreatDoorZF0
import Derived.KernelRfl
import Derived.Test.YtjojaiomgdjhfaaGreatDoorZY0
import Derived.Test.YtjojaiomgdjhfaaGreatDoorZA2
set_option linter.unusedVariables false
namespace Go.Proofs.YtjojaiomgdjhfaaGreatDoor.F
open Go
def Ev {α : Type} (g : Nat → Option α) (x : α) : Prop := ∃ k0, ∀ k, k0 ≤ k → g k = some x
def EvL {σ ρ : Type} (body : Nat → σ → Option (σ ⊕ ρ)) (s : σ) (r : ρ) : Prop := ∃ k0, ∀ k j, k0 ≤ k → k0 ≤ j → loopM j (body k) s = some r
section
variable {α β σ ρ : Type}
theorem Ev.of {g : Nat → Option α} {x : α} (h : ∀ k, g k = some x) : Ev g x := ⟨0, fun k _ => h k⟩
theorem Ev.at {g : Nat → Option α} {x : α} (n : Nat) (h : ∀ k, g (k + n) = some x) : Ev g x := ⟨n, fun k hk => by have := h (k - n); rwa [show k - n + n = k by omega] at this⟩
theorem Ev.pure {x : α} : Ev (fun _ => some x) x := ⟨0, fun _ _ => rfl⟩
theorem Ev.bind {g : Nat → Option α} {f : Nat → α → Option β} {x : α} {y : β} (h : Ev g x) (h2 : Ev (fun k => f k x) y) : Ev (fun k => (g k).bind (f k)) y := by
  obtain ⟨k1, h1⟩ := h
  obtain ⟨k2, h2⟩ := h2
  exact ⟨max k1 k2, fun k hk => by show (g k).bind (f k) = _; rw [h1 k (by omega)]; exact h2 k (by omega)⟩
theorem Ev.map {g : Nat → Option ρ} {r : ρ} (h : Ev g r) : Ev (fun k => (g k).map (Sum.inr (α := σ))) (.inr r) := by
  obtain ⟨k1, h1⟩ := h
  exact ⟨k1, fun k hk => by show (g k).map _ = _; rw [h1 k hk]; rfl⟩
theorem Ev.succ {g h : Nat → Option α} {x : α} (e : ∀ k, g (k + 1) = h k) (hh : Ev h x) : Ev g x := by
  obtain ⟨k1, h1⟩ := hh
  refine ⟨k1 + 1, fun k hk => ?_⟩
  obtain ⟨k, rfl⟩ : ∃ j, k = j + 1 := ⟨k - 1, by omega⟩
  rw [e]; exact h1 k (by omega)
theorem Ev.congr {g h : Nat → Option α} {x : α} (e : ∀ k, g k = h k) (hh : Ev h x) : Ev g x := by
  obtain ⟨k1, h1⟩ := hh
  exact ⟨k1, fun k hk => by rw [e]; exact h1 k hk⟩
theorem Ev.eq {g : Nat → Option α} {x y : α} (h : Ev g x) (e : x = y) : Ev g y := e ▸ h
theorem EvL.done {body : Nat → σ → Option (σ ⊕ ρ)} {s : σ} {r : ρ} (h : Ev (fun k => body k s) (.inr r)) : EvL body s r := by
  obtain ⟨k1, h1⟩ := h
  refine ⟨k1 + 1, fun k j hk hj => ?_⟩
  obtain ⟨j, rfl⟩ : ∃ i, j = i + 1 := ⟨j - 1, by omega⟩
  have := h1 k (by omega)
  simp only at this
  rw [loopM_step, this]
theorem EvL.step {body : Nat → σ → Option (σ ⊕ ρ)} {s s' : σ} {r : ρ} (h : Ev (fun k => body k s) (.inl s')) (h2 : EvL body s' r) : EvL body s r := by
  obtain ⟨k1, h1⟩ := h
  obtain ⟨k2, h2⟩ := h2
  refine ⟨k1 + k2 + 1, fun k j hk hj => ?_⟩
  obtain ⟨j, rfl⟩ : ∃ i, j = i + 1 := ⟨j - 1, by omega⟩
  have := h1 k (by omega)
  simp only at this
  rw [loopM_step, this]
  exact h2 k j (by omega) (by omega)
theorem Ev.loop {body : Nat → σ → Option (σ ⊕ ρ)} {s : σ} {r : ρ} (h : EvL body s r) : Ev (fun k => loopM k (body k) s) r := by
  obtain ⟨k1, h1⟩ := h
  exact ⟨k1, fun k hk => h1 k k hk hk⟩
theorem Ev.joinK {J : Nat → α → Option ρ} {B : Nat → (α → Option ρ) → Option ρ} {r : ρ} (h : Ev (fun k => B k (J k)) r) : Ev (fun k => F.joinK (J k) (B k)) r := h
end
theorem ix_of {α : Type} {l : List α} {i : Int} {x : α} (h0 : 0 ≤ i) (h : l[i.toNat]? = some x) : ix l i = some x := by unfold ix; rw [if_pos h0]; exact h
theorem ix_nat {α : Type} {l : List α} {i : Nat} (h : i < l.length) : ix l (i : Int) = some l[i] := by unfold ix; rw [if_pos (by omega)]; simp [h]
theorem room_of {b n : Nat} (h0 : 0 < b) (h : (2 * n + 1024) * b ≤ 140737488355328) : room b n = true := by unfold room; exact decide_eq_true ⟨h0, h⟩
end Go.Proofs.YtjojaiomgdjhfaaGreatDoor.F
set_option linter.unusedSimpArgs false
set_option maxRecDepth 100000
namespace Go.Proofs.YtjojaiomgdjhfaaGreatDoor.F
open Go
theorem works18 : law18_works 200 = some true := by kernel_rfl
theorem w64 {x : Int} (h : -9223372036854775808 ≤ x) (h2 : x ≤ 9223372036854775807) : IntKind.i64.wrap x = x := by
  simp only [IntKind.wrap, IntKind.bits, IntKind.signed]
  simp
  omega
def lets : List UInt8 := [97, 98, 99, 100, 101, 102, 103, 104, 105, 106, 107, 108, 109, 110, 111, 112, 113, 114, 115, 116, 117, 118, 119, 120, 121, 122, 65, 66, 67, 68, 69, 70, 71, 72, 73, 74, 75, 76, 77, 78]
def nm (i : Nat) : List UInt8 := [lets.getD i 0]
def tInt : TNode := TNode.mk 1 0 0 [] []
def isoN (i : Nat) (n : Int) : TNode := TNode.mk 52 (i : Int) n (nm i) [tInt]
theorem named_all : lets.all (fun c => tree_named 199 [c] == some true) = true := by kernel_rfl
theorem given_all : lets.all (fun c => word_Given 200 [c] == some (0, false)) = true := by kernel_rfl
theorem let_mem {i : Nat} (h : i < 40) : lets.getD i 0 ∈ lets := by
  rw [List.getD_eq_getElem?_getD, List.getElem?_eq_getElem (show i < lets.length from h)]
  exact List.getElem_mem _
theorem nm_named {i : Nat} (h : i < 40) : tree_named 199 (nm i) = some true := by
  have := List.all_eq_true.1 named_all _ (let_mem h)
  simpa [nm] using this
theorem nm_given {i : Nat} (h : i < 40) : word_Given 200 (nm i) = some (0, false) := by
  have := List.all_eq_true.1 given_all _ (let_mem h)
  simpa [nm] using this
theorem nm_ne {i j : Nat} (hi : i < 40) (hj : j < 40) (h : i ≠ j) : (nm i == nm j) = false := by
  have key : (List.range 40).all (fun i => (List.range 40).all fun j => i == j || !(nm i == nm j)) = true := by kernel_rfl
  have := List.all_eq_true.1 (List.all_eq_true.1 key i (List.mem_range.2 hi)) j (List.mem_range.2 hj)
  simp only [Bool.or_eq_true, beq_iff_eq, Bool.not_eq_true'] at this
  rcases this with h2 | h2
  · exact absurd h2 h
  · exact h2
theorem kids_iso (i : Nat) (n : Int) : tree_kids 200 (isoN i n) true [5] = (tree_named 199 (nm i)).bind fun x => if ((!x || false) || false) = true then some false else some true := by kernel_rfl
theorem decl_iso0 (i : Nat) (n : Int) : tree_Decl 200 (isoN i n) = if decide (n ≥ 0) = true then (tree_kids 200 (isoN i n) true [5]).bind fun x6_6 => if x6_6 then some true else (tree_kids 200 (isoN i n) true [5, 6]).bind fun x6_10 => some x6_10 else some false := by kernel_rfl
theorem decl_iso {i : Nat} (hi : i < 40) {n : Int} (hn : 0 ≤ n) : tree_every_1 200 (isoN i n) = some false := by
  unfold tree_every_1
  rw [decl_iso0, kids_iso, nm_named hi, if_pos (decide_eq_true hn)]
  rfl
theorem index_loop (l : List TNode) (hl : l.length ≤ 150) (h : ∀ x ∈ l, tree_every_1 200 x = some false) : ∀ m i j : Nat, i + m = l.length → m < j → loopM j (fun (l1_8 : Int) =>
    if (decide (l1_8 < (l.length : Int))) then
    (ix l l1_8).bind fun x4_3 =>
    (tree_every_1 200 x4_3).bind fun x4_5 =>
    if x4_5 then
    some (.inr l1_8)
    else
    some (.inl (IntKind.i64.wrap (l1_8 + 1)))
    else
    ((some (-1) : Option Int)).map .inr) (i : Int) = some (-1)
  | 0, i, j, h1, h2 => by
    obtain ⟨j, rfl⟩ : ∃ n, j = n + 1 := ⟨j - 1, by omega⟩
    have e : decide ((i : Int) < (l.length : Int)) = false := decide_eq_false (by omega)
    simp only [loopM, e]
    rfl
  | m + 1, i, j, h1, h2 => by
    obtain ⟨j, rfl⟩ : ∃ n, j = n + 1 := ⟨j - 1, by omega⟩
    have hi : i < l.length := by omega
    have e : decide ((i : Int) < (l.length : Int)) = true := decide_eq_true (by omega)
    have e2 : IntKind.i64.wrap ((i : Int) + 1) = ((i + 1 : Nat) : Int) := by rw [w64 (by omega) (by omega)]; omega
    simp only [loopM, e, if_true, ix_nat hi, Option.bind_some, h _ (List.getElem_mem hi), Bool.false_eq_true, if_false, e2]
    exact index_loop l hl h m (i + 1) j (by omega) (by omega)
theorem every_ok (l : List TNode) (hl : l.length ≤ 150) (h : ∀ x ∈ l, tree_every_1 200 x = some false) : tree_every 200 l = some true := by
  have hi : slices_IndexFunc_Node 200 l = some (-1) := by
    unfold slices_IndexFunc_Node
    exact index_loop l hl h l.length 0 200 (by omega) (by omega)
  unfold tree_every slices_ContainsFunc_Node
  rw [hi]; rfl
def blk : TNode := TNode.mk 30 0 0 [] []
theorem blk_ok : tree_block 200 blk = some true := by kernel_rfl
def progN (l : List TNode) : TNode := TNode.mk 55 0 0 [] (l ++ [blk])
theorem prog_ok (l : List TNode) (hl : l.length ≤ 40) (h : ∀ x ∈ l, tree_every_1 200 x = some false) : tree_Prog 200 (progN l) = some true := by
  have hlen : (l ++ [blk]).length = l.length + 1 := by simp
  have e1 : IntKind.i64.wrap (((l ++ [blk]).length : Int) - 1) = (l.length : Int) := by rw [w64 (by omega) (by omega)]; omega
  have e2 : sub (l ++ [blk]) 0 (l.length : Int) = some l := by unfold sub; rw [if_pos (by omega)]; simp
  have e3 : ix (l ++ [blk]) (l.length : Int) = some blk := by
    rw [ix_nat (by omega)]
    simp
  unfold tree_Prog progN
  simp only [joinK, e1, e2, e3, Option.bind_some, every_ok l (by omega) h, blk_ok, if_true]
  rw [if_pos]
  simp
end Go.Proofs.YtjojaiomgdjhfaaGreatDoor.F
namespace Go.Proofs.YtjojaiomgdjhfaaGreatDoor.F
open Go
theorem loop_next {σ ρ : Type} {body : σ → Option (σ ⊕ ρ)} {s s' : σ} {j : Nat} {r : Option ρ} (h : body s = some (.inl s')) (h2 : loopM j body s' = r) : loopM (j + 1) body s = r := by
  simp only [loopM, h]; exact h2
theorem loop_end {σ ρ : Type} {body : σ → Option (σ ⊕ ρ)} {s : σ} {j : Nat} {r : ρ} (h : body s = some (.inr r)) : loopM (j + 1) body s = some r := by
  simp only [loopM, h]
theorem mgetS_ne {V : Type} {a b : List UInt8} {v : V} (h : (b == a) = false) : ∀ m : List (List UInt8 × V), mgetS a (msetS b v m) = mgetS a m
  | [] => by simp only [msetS, mgetS, h, Bool.false_eq_true, if_false]
  | (c, w) :: r => by
    simp only [msetS]
    by_cases e : (c == b) = true
    · rw [if_pos e]
      have e2 : c = b := by simpa using e
      subst e2
      simp only [mgetS, h, Bool.false_eq_true, if_false]
    · rw [if_neg e]
      simp only [mgetS, mgetS_ne h r]
abbrev MS := List (List UInt8 × Int)
theorem glob4 {s : List UInt8} (prog : TNode) (locs : Int) (o2 o3 o4 o5 : MS) (b0 b1 b2 b3 : List TNode) (hg : word_Given 200 s = some (0, false)) (h2 : mgetS s o2 = none) (h3 : mgetS s o3 = none) (h4 : mgetS s o4 = none) (h5 : mgetS s o5 = none) :
    decl_Table_Global_v2 200 s prog locs o2 o3 o4 o5 b0 b1 b2 b3 = some false := by
  have n1 : decl_Table_number_v2 200 51 s prog locs o2 o3 o4 o5 b0 b1 b2 b3 = some (0, false) := by
    have : decl_Table_number_v2 200 51 s prog locs o2 o3 o4 o5 b0 b1 b2 b3 = some ((mgetS s o2).getD 0, (mgetS s o2).isSome) := by kernel_rfl
    rw [this, h2]; rfl
  have n2 : decl_Table_number_v2 200 52 s prog locs o2 o3 o4 o5 b0 b1 b2 b3 = some (0, false) := by
    have : decl_Table_number_v2 200 52 s prog locs o2 o3 o4 o5 b0 b1 b2 b3 = some ((mgetS s o3).getD 0, (mgetS s o3).isSome) := by kernel_rfl
    rw [this, h3]; rfl
  have n3 : decl_Table_number_v2 200 53 s prog locs o2 o3 o4 o5 b0 b1 b2 b3 = some (0, false) := by
    have : decl_Table_number_v2 200 53 s prog locs o2 o3 o4 o5 b0 b1 b2 b3 = some ((mgetS s o4).getD 0, (mgetS s o4).isSome) := by kernel_rfl
    rw [this, h4]; rfl
  have n4 : decl_Table_number_v2 200 54 s prog locs o2 o3 o4 o5 b0 b1 b2 b3 = some (0, false) := by
    have : decl_Table_number_v2 200 54 s prog locs o2 o3 o4 o5 b0 b1 b2 b3 = some ((mgetS s o5).getD 0, (mgetS s o5).isSome) := by kernel_rfl
    rw [this, h5]; rfl
  have i0 : ix ([51, 52, 53, 54] : List Int) 0 = some 51 := rfl
  have i1 : ix ([51, 52, 53, 54] : List Int) 1 = some 52 := rfl
  have i2 : ix ([51, 52, 53, 54] : List Int) 2 = some 53 := rfl
  have i3 : ix ([51, 52, 53, 54] : List Int) 3 = some 54 := rfl
  unfold decl_Table_Global_v2
  rw [hg]
  simp only [Option.bind_some, Bool.false_eq_true, if_false, joinK]
  refine loop_next (s' := 1) ?_ (loop_next (s' := 2) ?_ (loop_next (s' := 3) ?_ (loop_next (s' := 4) ?_ (loop_end ?_))))
  · rw [i0]; simp only [Option.bind_some, n1]; rfl
  · rw [i1]; simp only [Option.bind_some, n2]; rfl
  · rw [i2]; simp only [Option.bind_some, n3]; rfl
  · rw [i3]; simp only [Option.bind_some, n4]; rfl
  · rfl
def namesB (o0_prog : TNode) (o0_locs : Int) (x1_1 : List TNode) : List TNode × List TNode × List TNode × List TNode × Int × (List (List UInt8 × Int)) × (List (List UInt8 × Int)) × (List (List UInt8 × Int)) × (List (List UInt8 × Int)) → Option ((List TNode × List TNode × List TNode × List TNode × Int × (List (List UInt8 × Int)) × (List (List UInt8 × Int)) × (List (List UInt8 × Int)) × (List (List UInt8 × Int))) ⊕ (List TNode × List TNode × List TNode × List TNode × Int × Int × (List (List UInt8 × Int)) × (List (List UInt8 × Int)) × (List (List UInt8 × Int)) × (List (List UInt8 × Int)))) :=
    fun ((l1_bclext10, l1_bclext12, l1_bclext14, l1_bclext16, l1_10, l1_oext2_0, l1_oext3_0, l1_oext4_0, l1_oext5_0) : List TNode × List TNode × List TNode × List TNode × Int × (List (List UInt8 × Int)) × (List (List UInt8 × Int)) × (List (List UInt8 × Int)) × (List (List UInt8 × Int))) =>
    if (decide (l1_10 < (x1_1.length : Int))) then
    (ix x1_1 l1_10).bind fun x3_0 =>
    (decl_Table_Global_v2 200 x3_0.Name o0_prog o0_locs l1_oext2_0 l1_oext3_0 l1_oext4_0 l1_oext5_0 l1_bclext10 l1_bclext12 l1_bclext14 l1_bclext16).bind fun x4_3 =>
    if x4_3 then
    some (.inr (l1_bclext10, l1_bclext12, l1_bclext14, l1_bclext16, x3_0.At, 6, l1_oext2_0, l1_oext3_0, l1_oext4_0, l1_oext5_0))
    else
    if (51 == x3_0.Kind) then
    if (room 64 (l1_bclext10.length + [x3_0].length)) then
    if (51 == x3_0.Kind) then
    some (.inl ((l1_bclext10 ++ [x3_0]), l1_bclext12, l1_bclext14, l1_bclext16, (IntKind.i64.wrap (l1_10 + 1)), (msetS x3_0.Name (l1_bclext10.length : Int) l1_oext2_0), l1_oext3_0, l1_oext4_0, l1_oext5_0))
    else if (52 == x3_0.Kind) then
    none
    else if (53 == x3_0.Kind) then
    none
    else if (54 == x3_0.Kind) then
    none
    else none
    else none
    else if (52 == x3_0.Kind) then
    if (room 64 (l1_bclext12.length + [x3_0].length)) then
    if (51 == x3_0.Kind) then
    none
    else if (52 == x3_0.Kind) then
    some (.inl (l1_bclext10, (l1_bclext12 ++ [x3_0]), l1_bclext14, l1_bclext16, (IntKind.i64.wrap (l1_10 + 1)), l1_oext2_0, (msetS x3_0.Name (l1_bclext12.length : Int) l1_oext3_0), l1_oext4_0, l1_oext5_0))
    else if (53 == x3_0.Kind) then
    none
    else if (54 == x3_0.Kind) then
    none
    else none
    else none
    else if (53 == x3_0.Kind) then
    if (room 64 (l1_bclext14.length + [x3_0].length)) then
    if (51 == x3_0.Kind) then
    none
    else if (52 == x3_0.Kind) then
    none
    else if (53 == x3_0.Kind) then
    some (.inl (l1_bclext10, l1_bclext12, (l1_bclext14 ++ [x3_0]), l1_bclext16, (IntKind.i64.wrap (l1_10 + 1)), l1_oext2_0, l1_oext3_0, (msetS x3_0.Name (l1_bclext14.length : Int) l1_oext4_0), l1_oext5_0))
    else if (54 == x3_0.Kind) then
    none
    else none
    else none
    else if (54 == x3_0.Kind) then
    if (room 64 (l1_bclext16.length + [x3_0].length)) then
    if (51 == x3_0.Kind) then
    none
    else if (52 == x3_0.Kind) then
    none
    else if (53 == x3_0.Kind) then
    none
    else if (54 == x3_0.Kind) then
    some (.inl (l1_bclext10, l1_bclext12, l1_bclext14, (l1_bclext16 ++ [x3_0]), (IntKind.i64.wrap (l1_10 + 1)), l1_oext2_0, l1_oext3_0, l1_oext4_0, (msetS x3_0.Name (l1_bclext16.length : Int) l1_oext5_0)))
    else none
    else none
    else none
    else
    (some (l1_bclext10, l1_bclext12, l1_bclext14, l1_bclext16, 0, 0, l1_oext2_0, l1_oext3_0, l1_oext4_0, l1_oext5_0)).map .inr
theorem names_eq (prog : TNode) (l : List TNode) (hd : sub prog.Kids 0 (IntKind.i64.wrap ((prog.Kids.length : Int) - 1)) = some l) : decl_Table_names 200 prog 0 [] [] [] [] [] [] [] [] = loopM 200 (namesB prog 0 l) ([], [], [], [], 0, [], [], [], []) := by
  unfold decl_Table_names decl_Table_decls
  rw [hd]
  rfl
theorem names_loop (prog : TNode) (l : List TNode) (hl : l.length ≤ 40) (hi : ∀ i x, l[i]? = some x → ∃ n, x = isoN i n) : ∀ (m i j : Nat) (M : MS), i + m = l.length → m < j → (∀ t, i ≤ t → t < 40 → mgetS (nm t) M = none) →
    ∃ M', loopM j (namesB prog 0 l) ([], l.take i, [], [], (i : Int), [], M, [], []) = some ([], l, [], [], 0, 0, [], M', [], [])
  | 0, i, j, M, h1, h2, hM => by
    obtain ⟨j, rfl⟩ : ∃ n, j = n + 1 := ⟨j - 1, by omega⟩
    refine ⟨M, loop_end ?_⟩
    have e : decide ((i : Int) < (l.length : Int)) = false := decide_eq_false (by omega)
    simp only [namesB, e, Bool.false_eq_true, if_false]
    rw [List.take_of_length_le (by omega)]
    rfl
  | m + 1, i, j, M, h1, h2, hM => by
    obtain ⟨j, rfl⟩ : ∃ n, j = n + 1 := ⟨j - 1, by omega⟩
    have hil : i < l.length := by omega
    obtain ⟨n, hn⟩ := hi i l[i] (List.getElem?_eq_getElem hil)
    have e : decide ((i : Int) < (l.length : Int)) = true := decide_eq_true (by omega)
    have ex : ix l (i : Int) = some (isoN i n) := by rw [ix_nat hil, hn]
    have e2 : IntKind.i64.wrap ((i : Int) + 1) = ((i + 1 : Nat) : Int) := by rw [w64 (by omega) (by omega)]; omega
    have hG := glob4 (s := nm i) prog 0 [] M [] [] [] (l.take i) [] [] (nm_given (by omega)) rfl (hM i (Nat.le_refl i) (by omega)) rfl rfl
    have k1 : ((51 : Int) == (isoN i n).Kind) = false := rfl
    have k2 : ((52 : Int) == (isoN i n).Kind) = true := rfl
    have kn : (isoN i n).Name = nm i := rfl
    have hr : room 64 ((l.take i).length + [isoN i n].length) = true := room_of (by omega) (by simp only [List.length_take, List.length_cons, List.length_nil]; omega)
    have ht : l.take i ++ [isoN i n] = l.take (i + 1) := by rw [List.take_succ_eq_append_getElem hil, hn]
    obtain ⟨M', hM'⟩ := names_loop prog l hl hi m (i + 1) j (msetS (nm i) ((l.take i).length : Int) M) (by omega) (by omega) (fun t h3 h4 => by
      rw [mgetS_ne (nm_ne (by omega) h4 (by omega))]
      exact hM t (by omega) h4)
    refine ⟨M', loop_next ?_ hM'⟩
    simp only [namesB, e, if_true, ex, Option.bind_some, kn, hG, Bool.false_eq_true, if_false, k1, k2, hr, ht, e2]
theorem names_ok (l : List TNode) (hl : l.length ≤ 40) (hi : ∀ i x, l[i]? = some x → ∃ n, x = isoN i n) : ∃ M, decl_Table_names 200 (progN l) 0 [] [] [] [] [] [] [] [] = some ([], l, [], [], 0, 0, [], M, [], []) := by
  have hlen : (l ++ [blk]).length = l.length + 1 := by simp
  have e1 : IntKind.i64.wrap (((progN l).Kids.length : Int) - 1) = (l.length : Int) := by
    show IntKind.i64.wrap (((l ++ [blk]).length : Int) - 1) = _
    rw [w64 (by omega) (by omega)]; omega
  have e2 : sub (progN l).Kids 0 (IntKind.i64.wrap (((progN l).Kids.length : Int) - 1)) = some l := by
    rw [e1]
    show sub (l ++ [blk]) 0 (l.length : Int) = some l
    unfold sub; rw [if_pos (by omega)]; simp
  rw [names_eq _ l e2]
  exact names_loop (progN l) l hl hi l.length 0 200 [] (by omega) (by omega) (fun _ _ _ => rfl)
end Go.Proofs.YtjojaiomgdjhfaaGreatDoor.F
namespace Go.Proofs.YtjojaiomgdjhfaaGreatDoor.F
open Go
abbrev KT := List (Int × Tdecl_kinds)
def allK (l : List TNode) (M : MS) : KT := [(51, (Tdecl_kinds.mk [] [])), (52, (Tdecl_kinds.mk l M)), (53, (Tdecl_kinds.mk [] [])), (54, (Tdecl_kinds.mk [] []))]
theorem recs_nil (l : List TNode) (M : MS) (prog : TNode) (locs : Int) (bs : List Int) : decl_Table_Recs 200 (allK l M) prog locs bs = some [] := by kernel_rfl
theorem typed_int : decl_typed 200 tInt [] false = some (0, 0) := by kernel_rfl
theorem zero_int : kind_Zero 200 tInt [] = some (TValue.mk 0 0 [], true) := by kernel_rfl
theorem mx1 (n : Int) : mx 1 n = max 1 n := mx_eq 1 n
theorem iso_ok (i : Nat) (n : Int) (l : List TNode) (M : MS) (prog : TNode) (locs : Int) (bs : List Int) (hn : 0 ≤ n) (hn2 : n ≤ 127) (hl0 : 0 ≤ locs) (hl : locs ≤ 256) (hb : bs.length ≤ 100) :
    decl_Table_iso 200 (isoN i n) (allK l M) prog locs bs = some (if n > 64 then (bs, (i : Int), 2, locs) else if locs + mx 1 n > 256 then (bs ++ [locs], (i : Int), 13, locs + mx 1 n) else (bs ++ [locs], 0, 0, locs + mx 1 n)) := by
  have e1 : ix (isoN i n).Kids 0 = some tInt := rfl
  have e2 : (isoN i n).N = n := rfl
  have e3 : (isoN i n).At = (i : Int) := rfl
  have e4 : decide (((isoN i n).Kids.length : Int) < 2) = true := rfl
  have hr : room 8 (bs.length + [locs].length) = true := room_of (by omega) (by simp only [List.length_cons, List.length_nil]; omega)
  have hw : IntKind.i64.wrap (locs + mx 1 n) = locs + mx 1 n := by rw [mx1]; exact w64 (by omega) (by omega)
  have z : ((0 : Int) != 0) = false := rfl
  unfold decl_Table_iso
  simp only [e1, e2, e3, e4, hr, hw, z, recs_nil, typed_int, zero_int, Option.bind_some, Bool.false_eq_true, if_false, if_true, Bool.not_true, Bool.false_or, decide_eq_true_eq]
  by_cases h1 : n > 64
  · rw [if_pos h1, if_pos h1]
  rw [if_neg h1, if_neg h1]
  by_cases h2 : locs + mx 1 n > 256
  · rw [if_pos h2, if_pos h2]
  · rw [if_neg h2, if_neg h2]
def standB (o0_all : KT) (o0_prog : TNode) (o0_locs : Int) (b0 : List Int) (x2_1 : List TNode) : List Int × Int × Int × Int → Option ((List Int × Int × Int × Int) ⊕ (List Int × Int × Int × Int)) :=
    fun ((l1_bclext06, l1_4, l1_13, l1_oext0_7) : List Int × Int × Int × Int) =>
    if (decide (l1_13 < (x2_1.length : Int))) then
    (ix x2_1 l1_13).bind fun x4_0 =>
    joinK (fun ((j2_bclext06, j2_4, j2_7, j2_8, j2_oext0_7) : List Int × Int × Int × Int × Int) =>
    if (j2_8 != 0) then
    some (.inr (j2_bclext06, j2_7, j2_8, j2_oext0_7))
    else
    some (.inl (j2_bclext06, j2_4, (IntKind.i64.wrap (l1_13 + 1)), j2_oext0_7))) fun j_j2 =>
    if (x4_0.Kind == 51) then
    (decl_Table_Recs 200 o0_all o0_prog l1_oext0_7 l1_bclext06).bind fun x8_4 =>
    (sub x8_4 0 l1_4).bind fun x8_6 =>
    (decl_Table_params 200 x4_0.Kids x8_6 x4_0.Kind o0_all o0_prog l1_oext0_7 l1_bclext06).bind fun (x8_9_0, x8_9_1) =>
    j_j2 (l1_bclext06, (IntKind.i64.wrap (l1_4 + 1)), x8_9_0, x8_9_1, l1_oext0_7)
    else
    if (x4_0.Kind == 52) then
    (decl_Table_iso 200 x4_0 o0_all o0_prog l1_oext0_7 l1_bclext06).bind fun (x11_2_0, x11_2_1, x11_2_2, x11_2_3) =>
    j_j2 (x11_2_0, l1_4, x11_2_1, x11_2_2, x11_2_3)
    else
    if (x4_0.Kind == 54) then
    (sub x4_0.Kids 0 3).bind fun x13_3 =>
    (decl_Table_Recs 200 o0_all o0_prog l1_oext0_7 l1_bclext06).bind fun x13_5 =>
    (decl_Table_params 200 x13_3 x13_5 x4_0.Kind o0_all o0_prog l1_oext0_7 l1_bclext06).bind fun (x13_8_0, x13_8_1) =>
    j_j2 (l1_bclext06, l1_4, x13_8_0, x13_8_1, l1_oext0_7)
    else
    if (x4_0.Kind == 53) then
    (sub x4_0.Kids 0 (IntKind.i64.wrap ((x4_0.Kids.length : Int) - 2))).bind fun x16_4 =>
    (decl_Table_Recs 200 o0_all o0_prog l1_oext0_7 l1_bclext06).bind fun x16_6 =>
    (decl_Table_params 200 x16_4 x16_6 x4_0.Kind o0_all o0_prog l1_oext0_7 l1_bclext06).bind fun (x16_9_0, x16_9_1) =>
    if (x16_9_1 == 0) then
    (ix x4_0.Kids (IntKind.i64.wrap ((x4_0.Kids.length : Int) - 2))).bind fun x18_3 =>
    (decl_Table_Recs 200 o0_all o0_prog l1_oext0_7 l1_bclext06).bind fun x18_6 =>
    (decl_typed 200 x18_3 x18_6 true).bind fun (x18_7_0, x18_7_1) =>
    j_j2 (l1_bclext06, l1_4, x18_7_0, x18_7_1, l1_oext0_7)
    else
    j_j2 (l1_bclext06, l1_4, x16_9_0, x16_9_1, l1_oext0_7)
    else
    j_j2 (l1_bclext06, l1_4, 0, 0, l1_oext0_7)
    else
    (some (l1_bclext06, 0, 0, l1_oext0_7)).map .inr
theorem stand_eq (all : KT) (prog : TNode) (l : List TNode) (hd : sub prog.Kids 0 (IntKind.i64.wrap ((prog.Kids.length : Int) - 1)) = some l) : decl_Table_stand 200 all prog 0 [] = loopM 200 (standB all prog 0 [] l) ([], 0, 0, 0) := by
  unfold decl_Table_stand decl_Table_decls_v2
  rw [hd]
  rfl
section
variable (a0 : List Int)
def nsF (j : Nat) : Int := iand .i64 (a0.getD j 0) 127
def sF : Nat → Int
  | 0 => 0
  | j + 1 => sF j + mx 1 (nsF a0 j)
def fc (j : Nat) : Int := if nsF a0 j > 64 then 2 else if sF a0 (j + 1) > 256 then 13 else 0
def wF : Nat → Int
  | 0 => 0
  | j + 1 => fc a0 j
def lF (t : Nat) : List TNode := (List.range t).map fun j => isoN j (nsF a0 j)
def bF (t : Nat) : List Int := (List.range t).map (sF a0)
theorem lF_succ (t : Nat) : lF a0 (t + 1) = lF a0 t ++ [isoN t (nsF a0 t)] := by unfold lF; rw [List.range_succ, List.map_append]; rfl
theorem bF_succ (t : Nat) : bF a0 (t + 1) = bF a0 t ++ [sF a0 t] := by unfold bF; rw [List.range_succ, List.map_append]; rfl
theorem lF_len (t : Nat) : (lF a0 t).length = t := by simp [lF]
theorem bF_len (t : Nat) : (bF a0 t).length = t := by simp [bF]
theorem ns_range (j : Nat) : 0 ≤ nsF a0 j ∧ nsF a0 j ≤ 127 := by
  have h : ((BitVec.ofInt 64 (a0.getD j 0)) &&& (BitVec.ofInt 64 127)).toNat ≤ 127 := by
    rw [BitVec.toNat_and]
    exact Nat.le_trans Nat.and_le_right (by decide)
  have w : IntKind.i64.wrap ((((BitVec.ofInt 64 (a0.getD j 0)) &&& (BitVec.ofInt 64 127)).toNat : Nat) : Int) = (((BitVec.ofInt 64 (a0.getD j 0)) &&& (BitVec.ofInt 64 127)).toNat : Int) := w64 (by omega) (by omega)
  have e : nsF a0 j = (((BitVec.ofInt 64 (a0.getD j 0)) &&& (BitVec.ofInt 64 127)).toNat : Int) := w
  omega
theorem sF_le {i : Nat} (h : ∀ u, u < i → fc a0 u = 0) : 0 ≤ sF a0 i ∧ sF a0 i ≤ 256 := by
  induction i with
  | zero => simp [sF]
  | succ i ih =>
    have := ih (fun u hu => h u (by omega))
    have h1 := h i (by omega)
    have hr := ns_range a0 i
    unfold fc at h1
    split at h1
    · cases h1
    · split at h1
      · cases h1
      · have e : sF a0 (i + 1) = sF a0 i + mx 1 (nsF a0 i) := rfl
        rw [mx1] at e
        omega
theorem lF_get {t i : Nat} (h : i < t) : (lF a0 t)[i]? = some (isoN i (nsF a0 i)) := by
  unfold lF
  rw [List.getElem?_map, List.getElem?_range h]; rfl
theorem bF_get {t i : Nat} (h : i < t) : (bF a0 t)[i]? = some (sF a0 i) := by
  unfold bF
  rw [List.getElem?_map, List.getElem?_range h]; rfl
theorem stand_loop (t : Nat) (ht : t ≤ 40) (hg : ∀ u, u + 1 < t → fc a0 u = 0) (M : MS) (prog : TNode) : ∀ (m i j : Nat), i + m = t → m < j → (∀ u, u < i → fc a0 u = 0) →
    ∃ bs at_ lc, loopM j (standB (allK (lF a0 t) M) prog 0 [] (lF a0 t)) (bF a0 i, 0, (i : Int), sF a0 i) = some (bs, at_, wF a0 t, lc) ∧ (wF a0 t = 0 → bs = bF a0 t ∧ lc = sF a0 t) ∧ (wF a0 t ≠ 0 → at_ = (t : Int) - 1)
  | 0, i, j, h1, h2, hi => by
    obtain ⟨j, rfl⟩ : ∃ n, j = n + 1 := ⟨j - 1, by omega⟩
    obtain rfl : i = t := by omega
    have hw : wF a0 i = 0 := by
      cases i with
      | zero => rfl
      | succ i => exact hi i (by omega)
    have e : decide ((i : Int) < ((lF a0 i).length : Int)) = false := decide_eq_false (by rw [lF_len]; omega)
    refine ⟨bF a0 i, 0, sF a0 i, loop_end ?_, fun _ => ⟨rfl, rfl⟩, fun h => absurd hw h⟩
    simp only [standB, e, Bool.false_eq_true, if_false]
    rw [hw]
    rfl
  | m + 1, i, j, h1, h2, hi => by
    obtain ⟨j, rfl⟩ : ∃ n, j = n + 1 := ⟨j - 1, by omega⟩
    have hil : i < t := by omega
    have e : decide ((i : Int) < ((lF a0 t).length : Int)) = true := decide_eq_true (by rw [lF_len]; omega)
    have ex : ix (lF a0 t) (i : Int) = some (isoN i (nsF a0 i)) := ix_of (by omega) (by simpa using lF_get a0 hil)
    have e2 : IntKind.i64.wrap ((i : Int) + 1) = ((i + 1 : Nat) : Int) := by rw [w64 (by omega) (by omega)]; omega
    obtain ⟨s1, s2⟩ := sF_le a0 hi
    obtain ⟨r1, r2⟩ := ns_range a0 i
    have hiso := iso_ok i (nsF a0 i) (lF a0 t) M prog (sF a0 i) (bF a0 i) r1 r2 s1 s2 (by rw [bF_len]; omega)
    have k1 : ((isoN i (nsF a0 i)).Kind == (51 : Int)) = false := rfl
    have k2 : ((isoN i (nsF a0 i)).Kind == (52 : Int)) = true := rfl
    by_cases hf : fc a0 i = 0
    · obtain ⟨bs, at_, lc, q1, q2, q3⟩ := stand_loop t ht hg M prog m (i + 1) j (by omega) (by omega) (fun u hu => by
        rcases Nat.lt_or_ge u i with h | h
        · exact hi u h
        · obtain rfl : u = i := by omega
          exact hf)
      refine ⟨bs, at_, lc, loop_next ?_ q1, q2, q3⟩
      have c1 : ¬ nsF a0 i > 64 := fun h => by unfold fc at hf; rw [if_pos h] at hf; cases hf
      have c2 : ¬ sF a0 i + mx 1 (nsF a0 i) > 256 := fun h => by
        unfold fc at hf; rw [if_neg c1, if_pos (show sF a0 (i + 1) > 256 from h)] at hf; cases hf
      rw [if_neg c1, if_neg c2] at hiso
      simp only [standB, e, if_true, ex, Option.bind_some, joinK, k1, k2, hiso, Bool.false_eq_true, if_false]
      rw [bF_succ, e2]
      rfl
    · have hit : t = i + 1 := by
        rcases Nat.lt_or_ge (i + 1) t with h | h
        · exact absurd (hg i h) hf
        · omega
      have hwt : wF a0 t = fc a0 i := by rw [hit]; rfl
      rw [hwt]
      by_cases c1 : nsF a0 i > 64
      · have hfe : fc a0 i = 2 := by unfold fc; rw [if_pos c1]
        rw [if_pos c1] at hiso
        refine ⟨bF a0 i, (i : Int), sF a0 i, loop_end ?_, fun h => absurd h hf, fun _ => by omega⟩
        simp only [standB, e, if_true, ex, Option.bind_some, joinK, k1, k2, hiso, Bool.false_eq_true, if_false]
        rw [hfe]
        rfl
      · by_cases c2 : sF a0 i + mx 1 (nsF a0 i) > 256
        · have hfe : fc a0 i = 13 := by unfold fc; rw [if_neg c1, if_pos (show sF a0 (i + 1) > 256 from c2)]
          rw [if_neg c1, if_pos c2] at hiso
          refine ⟨bF a0 i ++ [sF a0 i], (i : Int), sF a0 i + mx 1 (nsF a0 i), loop_end ?_, fun h => absurd h hf, fun _ => by omega⟩
          · simp only [standB, e, if_true, ex, Option.bind_some, joinK, k1, k2, hiso, Bool.false_eq_true, if_false]
            rw [hfe]
            rfl
        · exfalso
          apply hf
          unfold fc
          rw [if_neg c1, if_neg (show ¬ sF a0 (i + 1) > 256 from c2)]
end
end Go.Proofs.YtjojaiomgdjhfaaGreatDoor.F
namespace Go.Proofs.YtjojaiomgdjhfaaGreatDoor.F
open Go
section
variable (a0 : List Int)
def thB (x19_1_0 : Option Tdecl_Table) (j_j3 : Int → Option Bool) : Int × Int → Option ((Int × Int) ⊕ Bool) :=
    fun ((l4_13, l4_14) : Int × Int) =>
    if (decide (l4_14 < (a0.length : Int))) then
    (decl_Table_Base 200 x19_1_0 l4_14).bind fun x28_2 =>
    joinK (fun (g28_16_126 : Bool) =>
    if g28_16_126 then
    some (.inr false)
    else
    (decl_Table_Many 200 x19_1_0 l4_14).bind fun x30_3 =>
    some (.inl ((IntKind.i64.wrap (l4_13 + x30_3)), (IntKind.i64.wrap (l4_14 + 1))))) fun j_g28_16 =>
    if (x28_2 != l4_13) then
    j_g28_16 true
    else
    (decl_Table_Many 200 x19_1_0 l4_14).bind fun x28_8 =>
    (ix a0 l4_14).bind fun x28_11 =>
    j_g28_16 (x28_8 != (mx 1 (iand .i64 x28_11 127)))
    else
    (j_j3 l4_13).map .inr
def lawT : List TNode × Int × Int → Option Bool :=
    fun ((j0_bclloc34, j0_5, j0_6) : List TNode × Int × Int) =>
    if (room 64 (j0_bclloc34.length + [(TNode.mk 30 0 0 [] [])].length)) then
    (decl_Of 200 (TNode.mk 55 0 0 [] (j0_bclloc34 ++ [(TNode.mk 30 0 0 [] [])]))).bind fun (x19_1_0, x19_1_1, x19_1_2) =>
    if (j0_6 != 0) then
    some ((x19_1_0.isNone && (x19_1_1 == (IntKind.i64.wrap ((j0_bclloc34.length : Int) - 1)))) && (x19_1_2 == j0_6))
    else
    joinK (fun (g22_11_103 : Bool) =>
    if g22_11_103 then
    some false
    else
    joinK (fun (j3_13 : Int) =>
    joinK (fun (g31_9_141 : Bool) =>
    joinK (fun (g31_14_146 : Bool) =>
    some g31_14_146) fun j_g31_14 =>
    if g31_9_141 then
    (decl_Table_Many 200 x19_1_0 (-1)).bind fun x31_12 =>
    j_g31_14 (x31_12 == 0)
    else
    j_g31_14 false) fun j_g31_9 =>
    if (j3_13 == j0_5) then
    (decl_Table_Base 200 x19_1_0 (a0.length : Int)).bind fun x31_7 =>
    j_g31_9 (x31_7 == 0)
    else
    j_g31_9 false) fun j_j3 =>
    loopM 200 (thB a0 x19_1_0 j_j3) (0, 0)) fun j_g22_11 =>
    if (x19_1_0.isNone || (x19_1_2 != 0)) then
    j_g22_11 true
    else
    (decl_Table_Locs 200 x19_1_0).bind fun x22_8 =>
    j_g22_11 (x22_8 != j0_5)
    else none
def lawB : List TNode × Int × Int × Int → Option ((List TNode × Int × Int × Int) ⊕ Bool) :=
    fun ((l1_bclloc34, l1_5, l1_6, l1_7) : List TNode × Int × Int × Int) =>
    if ((decide (l1_7 < (a0.length : Int))) && (l1_6 == 0)) then
    (ix a0 l1_7).bind fun x10_2 =>
    joinK (fun (j2_6 : Int) =>
    (sub [97, 98, 99, 100, 101, 102, 103, 104, 105, 106, 107, 108, 109, 110, 111, 112, 113, 114, 115, 116, 117, 118, 119, 120, 121, 122, 65, 66, 67, 68, 69, 70, 71, 72, 73, 74, 75, 76, 77, 78] l1_7 (IntKind.i64.wrap (l1_7 + 1))).bind fun x16_7 =>
    if (room 64 (l1_bclloc34.length + [(TNode.mk 52 l1_7 (iand .i64 x10_2 127) x16_7 [(TNode.mk 1 0 0 [] [])])].length)) then
    some (.inl ((l1_bclloc34 ++ [(TNode.mk 52 l1_7 (iand .i64 x10_2 127) x16_7 [(TNode.mk 1 0 0 [] [])])]), (IntKind.i64.wrap (l1_5 + (mx 1 (iand .i64 x10_2 127)))), j2_6, (IntKind.i64.wrap (l1_7 + 1))))
    else none) fun j_j2 =>
    if (decide ((iand .i64 x10_2 127) > 64)) then
    j_j2 2
    else
    if (decide ((IntKind.i64.wrap (l1_5 + (mx 1 (iand .i64 x10_2 127)))) > 256)) then
    j_j2 13
    else
    j_j2 l1_6
    else
    (lawT a0 (l1_bclloc34, l1_5, l1_6)).map .inr
theorem law_eq (h : a0.length ≤ 40) : law18_DeclLocates 200 a0 = loopM 200 (lawB a0) ([], 0, 0, 0) := by
  have e : ((!true) || (decide ((a0.length : Int) > 40))) = false := by simp; omega
  unfold law18_DeclLocates
  rw [works18]
  simp only [Option.bind_some, e, Bool.false_eq_true, if_false]
  rfl
theorem lF_every {t : Nat} (ht : t ≤ 40) : ∀ x ∈ lF a0 t, tree_every_1 200 x = some false := by
  intro x hx
  unfold lF at hx
  obtain ⟨j, hj, rfl⟩ := List.mem_map.1 hx
  exact decl_iso (by have := List.mem_range.1 hj; omega) (ns_range a0 j).1
theorem of_ok {t : Nat} (ht : t ≤ 40) (hg : ∀ u, u + 1 < t → fc a0 u = 0) : ∃ M at_, decl_Of 200 (progN (lF a0 t)) = some (if wF a0 t = 0 then (some (Tdecl_Table.mk (allK (lF a0 t) M) (progN (lF a0 t)) (bF a0 t) (sF a0 t)), 0, 0) else (none, at_, wF a0 t)) ∧ (wF a0 t ≠ 0 → at_ = (t : Int) - 1) := by
  have hlen := lF_len a0 t
  obtain ⟨M, hM⟩ := names_ok (lF a0 t) (by omega) (fun i x hx => by
    have hi : i < t := by
      have := (List.getElem?_eq_some_iff.1 hx).1
      omega
    rw [lF_get a0 hi] at hx
    exact ⟨_, (Option.some.inj hx).symm⟩)
  have hl2 : (lF a0 t ++ [blk]).length = t + 1 := by rw [List.length_append, hlen]; rfl
  have e1 : IntKind.i64.wrap (((progN (lF a0 t)).Kids.length : Int) - 1) = (t : Int) := by
    show IntKind.i64.wrap (((lF a0 t ++ [blk]).length : Int) - 1) = _
    rw [hl2, w64 (by omega) (by omega)]
    omega
  have e2 : sub (progN (lF a0 t)).Kids 0 (IntKind.i64.wrap (((progN (lF a0 t)).Kids.length : Int) - 1)) = some (lF a0 t) := by
    rw [e1]
    show sub (lF a0 t ++ [blk]) 0 (t : Int) = some (lF a0 t)
    unfold sub
    rw [if_pos (by omega), Int.toNat_natCast, List.take_left' hlen]
    rfl
  obtain ⟨bs, at_, lc, q1, q2, q3⟩ := stand_loop a0 t ht hg M (progN (lF a0 t)) t 0 200 (by omega) (by omega) (fun u hu => by omega)
  have hS : decl_Table_stand 200 (allK (lF a0 t) M) (progN (lF a0 t)) 0 [] = some (bs, at_, wF a0 t, lc) := by
    rw [stand_eq _ _ _ e2]; exact q1
  refine ⟨M, at_, ?_, q3⟩
  unfold decl_Of
  simp only [prog_ok (lF a0 t) (by omega) (lF_every a0 ht), Option.bind_some, Bool.not_true, Bool.false_eq_true, if_false, hM]
  have z : ((0 : Int) != 0) = false := rfl
  simp only [z, Bool.false_eq_true, if_false]
  rw [show decl_Table_stand 200 [(51, (Tdecl_kinds.mk [] [])), (52, (Tdecl_kinds.mk (lF a0 t) M)), (53, (Tdecl_kinds.mk [] [])), (54, (Tdecl_kinds.mk [] []))] (progN (lF a0 t)) 0 [] = some (bs, at_, wF a0 t, lc) from hS]
  simp only [Option.bind_some]
  by_cases hw : wF a0 t = 0
  · obtain ⟨rfl, rfl⟩ := q2 hw
    rw [hw]
    rfl
  · rw [if_pos (by simpa using hw), if_neg hw]
theorem mx_ns (j : Nat) : 1 ≤ mx 1 (nsF a0 j) ∧ mx 1 (nsF a0 j) ≤ 127 := by
  have := ns_range a0 j
  rw [mx1]; omega
end
end Go.Proofs.YtjojaiomgdjhfaaGreatDoor.F
namespace Go.Proofs.YtjojaiomgdjhfaaGreatDoor.F
open Go
section
variable (a0 : List Int)
def tblN (t : Nat) (M : MS) : Tdecl_Table := Tdecl_Table.mk (allK (lF a0 t) M) (progN (lF a0 t)) (bF a0 t) (sF a0 t)
theorem base_at {t i : Nat} (h : i < t) (M : MS) : decl_Table_Base 200 (some (tblN a0 t M)) (i : Int) = some (sF a0 i) := by
  have e1 : decide ((i : Int) < 0) = false := decide_eq_false (by omega)
  have e2 : decide ((i : Int) ≥ ((tblN a0 t M).base.length : Int)) = false := decide_eq_false (by
    show ¬ (i : Int) ≥ ((bF a0 t).length : Int)
    rw [bF_len]; omega)
  have e3 : ix (tblN a0 t M).base (i : Int) = some (sF a0 i) := ix_of (by omega) (show (bF a0 t)[(i : Int).toNat]? = some (sF a0 i) from by simpa using bF_get a0 h)
  unfold decl_Table_Base
  simp only [joinK, Option.isNone_some, Bool.false_or, e1, e2, e3, Option.bind_some, Bool.false_eq_true, if_false]
theorem base_out (t : Nat) (M : MS) : decl_Table_Base 200 (some (tblN a0 t M)) (t : Int) = some 0 := by
  have e1 : decide ((t : Int) < 0) = false := decide_eq_false (by omega)
  have e2 : decide ((t : Int) ≥ ((tblN a0 t M).base.length : Int)) = true := decide_eq_true (by
    show (t : Int) ≥ ((bF a0 t).length : Int)
    rw [bF_len]; omega)
  unfold decl_Table_Base
  simp only [joinK, Option.isNone_some, Bool.false_or, e1, e2, Option.bind_some, Bool.false_eq_true, if_false, if_true]
theorem many_at {t i : Nat} (h : i < t) (M : MS) : decl_Table_Many 200 (some (tblN a0 t M)) (i : Int) = some (mx 1 (nsF a0 i)) := by
  have e1 : decide ((i : Int) < 0) = false := decide_eq_false (by omega)
  have e2 : decide ((i : Int) ≥ ((tblN a0 t M).base.length : Int)) = false := decide_eq_false (by
    show ¬ (i : Int) ≥ ((bF a0 t).length : Int)
    rw [bF_len]; omega)
  have e4 : ((mgetI 52 (tblN a0 t M).all_).getD (Tdecl_kinds.mk [] [])).list = lF a0 t := rfl
  have e3 : ix (lF a0 t) (i : Int) = some (isoN i (nsF a0 i)) := ix_of (by omega) (by simpa using lF_get a0 h)
  have e5 : (isoN i (nsF a0 i)).N = nsF a0 i := rfl
  unfold decl_Table_Many
  simp only [joinK, Option.isNone_some, Bool.false_or, e1, e2, e4, e3, e5, Option.bind_some, Bool.false_eq_true, if_false]
theorem many_neg (t : Nat) (M : MS) : decl_Table_Many 200 (some (tblN a0 t M)) (-1) = some 0 := by kernel_rfl
theorem th_loop {t : Nat} (htl : t = a0.length) (hl : a0.length ≤ 40) (hg : ∀ u, u < t → fc a0 u = 0) (M : MS) (J : Int → Option Bool) (hJ : J (sF a0 t) = some true) : ∀ m i j : Nat, i + m = t → m < j → loopM j (thB a0 (some (tblN a0 t M)) J) (sF a0 i, (i : Int)) = some true
  | 0, i, j, h1, h2 => by
    obtain ⟨j, rfl⟩ : ∃ n, j = n + 1 := ⟨j - 1, by omega⟩
    obtain rfl : i = t := by omega
    have e : decide ((i : Int) < (a0.length : Int)) = false := decide_eq_false (by omega)
    refine loop_end ?_
    simp only [thB, e, Bool.false_eq_true, if_false, hJ]
    rfl
  | m + 1, i, j, h1, h2 => by
    obtain ⟨j, rfl⟩ : ∃ n, j = n + 1 := ⟨j - 1, by omega⟩
    have hi : i < t := by omega
    have e : decide ((i : Int) < (a0.length : Int)) = true := decide_eq_true (by omega)
    have ex : ix a0 (i : Int) = some a0[i] := ix_nat (by omega)
    have en : iand .i64 a0[i] 127 = nsF a0 i := by
      unfold nsF
      rw [List.getD_eq_getElem?_getD, List.getElem?_eq_getElem (by omega)]; rfl
    have n1 : (sF a0 i != sF a0 i) = false := by simp
    have n2 : (mx 1 (nsF a0 i) != mx 1 (nsF a0 i)) = false := by simp
    have e2 : IntKind.i64.wrap ((i : Int) + 1) = ((i + 1 : Nat) : Int) := by rw [w64 (by omega) (by omega)]; omega
    obtain ⟨s1, s2⟩ := sF_le a0 (i := i) (fun u hu => hg u (by omega))
    obtain ⟨m1, m2⟩ := mx_ns a0 i
    have e3 : IntKind.i64.wrap (sF a0 i + mx 1 (nsF a0 i)) = sF a0 (i + 1) := by rw [w64 (by omega) (by omega)]; rfl
    refine loop_next ?_ (th_loop htl hl hg M J hJ m (i + 1) j (by omega) (by omega))
    simp only [thB, e, if_true, base_at a0 hi M, many_at a0 hi M, Option.bind_some, joinK, n1, ex, en, n2, Bool.false_eq_true, if_false, e2, e3]
theorem tail_ok {t : Nat} (hl : a0.length ≤ 40) (htl : t ≤ a0.length) (hg : ∀ u, u + 1 < t → fc a0 u = 0) (hend : t = a0.length ∨ wF a0 t ≠ 0) : lawT a0 (lF a0 t, sF a0 t, wF a0 t) = some true := by
  have hlen := lF_len a0 t
  obtain ⟨M, at_, h1, h2⟩ := of_ok a0 (t := t) (by omega) hg
  have hr : room 64 ((lF a0 t).length + [(TNode.mk 30 0 0 [] [])].length) = true := room_of (by omega) (by simp only [List.length_cons, List.length_nil]; omega)
  have hO : decl_Of 200 (TNode.mk 55 0 0 [] (lF a0 t ++ [(TNode.mk 30 0 0 [] [])])) = _ := h1
  unfold lawT
  simp only [hr, if_true, hO, Option.bind_some]
  by_cases hw : wF a0 t = 0
  · obtain rfl : t = a0.length := by
      rcases hend with h | h
      · exact h
      · exact absurd hw h
    have hgood : ∀ u, u < a0.length → fc a0 u = 0 := by
      intro u hu
      rcases Nat.lt_or_ge (u + 1) a0.length with h | h
      · exact hg u h
      · have e : a0.length = u + 1 := by omega
        rw [e] at hw
        exact hw
    have z : ((0 : Int) != 0) = false := rfl
    have hLocs : decl_Table_Locs 200 (some (tblN a0 a0.length M)) = some (sF a0 a0.length) := rfl
    have n1 : (sF a0 a0.length != sF a0 a0.length) = false := by simp
    have n2 : (sF a0 a0.length == sF a0 a0.length) = true := by simp
    rw [if_pos hw]
    simp only [hw, z, Bool.false_eq_true, if_false, joinK, Option.isNone_some, Bool.or_self]
    rw [show (Tdecl_Table.mk (allK (lF a0 a0.length) M) (progN (lF a0 a0.length)) (bF a0 a0.length) (sF a0 a0.length)) = tblN a0 a0.length M from rfl]
    simp only [hLocs, Option.bind_some, n1, Bool.false_eq_true, if_false]
    refine th_loop a0 rfl hl hgood M _ ?_ a0.length 0 200 (by omega) (by omega)
    simp only [n2, if_true, base_out a0 a0.length M, many_neg a0 a0.length M, Option.bind_some]
    rfl
  · have e1 : (wF a0 t != 0) = true := by simpa using hw
    rw [if_neg hw]
    simp only [e1, if_true]
    have ht0 : t ≠ 0 := fun h => hw (by rw [h]; rfl)
    have e2 : IntKind.i64.wrap (((lF a0 t).length : Int) - 1) = (t : Int) - 1 := by rw [hlen]; exact w64 (by omega) (by omega)
    rw [e2, h2 hw]
    simp
theorem cut_all : (List.range 40).all (fun i => sub lets (i : Int) ((i + 1 : Nat) : Int) == some (nm i)) = true := by kernel_rfl
theorem law_loop (hl : a0.length ≤ 40) : ∀ m i j : Nat, i + m = a0.length → m < j → (∀ u, u + 1 < i → fc a0 u = 0) → loopM j (lawB a0) (lF a0 i, sF a0 i, wF a0 i, (i : Int)) = some true := by
  intro m
  induction m with
  | zero =>
    intro i j h1 h2 hg
    obtain ⟨j, rfl⟩ : ∃ n, j = n + 1 := ⟨j - 1, by omega⟩
    have e : decide ((i : Int) < (a0.length : Int)) = false := decide_eq_false (by omega)
    refine loop_end ?_
    simp only [lawB, e, Bool.false_and, Bool.false_eq_true, if_false, tail_ok a0 hl (by omega) hg (.inl (by omega))]
    rfl
  | succ m ih =>
    intro i j h1 h2 hg
    obtain ⟨j, rfl⟩ : ∃ n, j = n + 1 := ⟨j - 1, by omega⟩
    by_cases hw : wF a0 i = 0
    · have hgood : ∀ u, u < i → fc a0 u = 0 := by
        intro u hu
        rcases Nat.lt_or_ge (u + 1) i with h | h
        · exact hg u h
        · have e : i = u + 1 := by omega
          rw [e] at hw
          exact hw
      have hi : i < a0.length := by omega
      have e : decide ((i : Int) < (a0.length : Int)) = true := decide_eq_true (by omega)
      have z : ((0 : Int) == 0) = true := rfl
      have ex : ix a0 (i : Int) = some a0[i] := ix_nat hi
      have en : iand .i64 a0[i] 127 = nsF a0 i := by
        unfold nsF
        rw [List.getD_eq_getElem?_getD, List.getElem?_eq_getElem hi]; rfl
      have e2 : IntKind.i64.wrap ((i : Int) + 1) = ((i + 1 : Nat) : Int) := by rw [w64 (by omega) (by omega)]; omega
      obtain ⟨s1, s2⟩ := sF_le a0 hgood
      obtain ⟨m1, m2⟩ := mx_ns a0 i
      have e3 : IntKind.i64.wrap (sF a0 i + mx 1 (nsF a0 i)) = sF a0 (i + 1) := by rw [w64 (by omega) (by omega)]; rfl
      have hc : sub [97, 98, 99, 100, 101, 102, 103, 104, 105, 106, 107, 108, 109, 110, 111, 112, 113, 114, 115, 116, 117, 118, 119, 120, 121, 122, 65, 66, 67, 68, 69, 70, 71, 72, 73, 74, 75, 76, 77, 78] (i : Int) ((i + 1 : Nat) : Int) = some (nm i) := by
        have := List.all_eq_true.1 cut_all i (List.mem_range.2 (by omega))
        simpa [lets] using this
      have hr : ∀ x : TNode, room 64 ((lF a0 i).length + [x].length) = true := fun x => room_of (by omega) (by rw [lF_len]; simp only [List.length_cons, List.length_nil]; omega)
      have hx : lF a0 i ++ [TNode.mk 52 (i : Int) (nsF a0 i) (nm i) [TNode.mk 1 0 0 [] []]] = lF a0 (i + 1) := (lF_succ a0 i).symm
      refine loop_next (s' := (lF a0 (i + 1), sF a0 (i + 1), wF a0 (i + 1), ((i + 1 : Nat) : Int))) ?_ (ih (i + 1) j (by omega) (by omega) (fun u hu => hgood u (by omega)))
      simp only [lawB, e, hw, z, Bool.and_self, if_true, ex, Option.bind_some, joinK, en, e2, e3, hc, hr, hx, decide_eq_true_eq]
      have hwn : wF a0 (i + 1) = fc a0 i := rfl
      rw [hwn]
      unfold fc
      by_cases c1 : nsF a0 i > 64
      · rw [if_pos c1, if_pos c1]
      rw [if_neg c1, if_neg c1]
      by_cases c2 : sF a0 (i + 1) > 256
      · rw [if_pos c2, if_pos c2]
      · rw [if_neg c2, if_neg c2]
    · have e1 : (wF a0 i == 0) = false := by simpa using hw
      refine loop_end ?_
      simp only [lawB, e1, Bool.and_false, Bool.false_eq_true, if_false, tail_ok a0 hl (by omega) hg (.inr hw)]
      rfl
theorem locates_ok : law18_DeclLocates 200 a0 = some true := by
  by_cases h : a0.length ≤ 40
  · rw [law_eq a0 h]
    exact law_loop a0 h a0.length 0 200 (by omega) (by omega) (fun u hu => by omega)
  · have e : ((!true) || (decide ((a0.length : Int) > 40))) = true := by simp; omega
    unfold law18_DeclLocates
    rw [works18]
    simp only [Option.bind_some, e, if_true]
theorem locates_ex : ∃ k, law18_DeclLocates k a0 = some true := ⟨200, locates_ok a0⟩
end
end Go.Proofs.YtjojaiomgdjhfaaGreatDoor.F
namespace Go.Proofs.YtjojaiomgdjhfaaGreatDoor.AE
open Go
section
variable {H : Type}
theorem Dwf.inv_int {tb : List TI} {t : TypeId} {d : DataW H} {k : IntKind} (h : Dwf tb t d) (hd : descOf tb t = some (.int k)) : ∃ n, d = .lit (.int k n) ∧ (Lit.int k n).wf = true := by
  cases h with
  | int h hw => rw [hd] at h; cases h; exact ⟨_, rfl, hw⟩
  | bool h => rw [hd] at h; cases h
  | str h _ => rw [hd] at h; cases h
  | nilp h => rw [hd] at h; cases h
  | nils h => rw [hd] at h; cases h
  | ptr h _ => rw [hd] at h; cases h
  | slice h _ _ => rw [hd] at h; cases h
  | struct h _ _ => rw [hd] at h; cases h
  | array h _ _ => rw [hd] at h; cases h
theorem Dwf.inv_slice {tb : List TI} {t e : TypeId} {d : DataW H} (h : Dwf tb t d) (hd : descOf tb t = some (.slice e)) : d = .nil ∨ ∃ es rest, d = .slice es rest ∧ es.length ≤ maxLen ∧ ∀ d ∈ es, Dwf tb e d := by
  cases h with
  | int h hw => rw [hd] at h; cases h
  | bool h => rw [hd] at h; cases h
  | str h _ => rw [hd] at h; cases h
  | nilp h => rw [hd] at h; cases h
  | nils h => exact .inl rfl
  | ptr h _ => rw [hd] at h; cases h
  | slice h hl he => rw [hd] at h; cases h; exact .inr ⟨_, _, rfl, hl, he⟩
  | struct h _ _ => rw [hd] at h; cases h
  | array h _ _ => rw [hd] at h; cases h
def dI : DataW H → Int
  | .lit (.int _ n) => n
  | _ => 0
def dIs : DataW H → List Int
  | .slice es _ => es.map dI
  | _ => []
theorem t22 : descOf tab 22 = some (.slice 3) := by kernel_rfl
theorem t3 : descOf tab 3 = some (.int .i64) := by kernel_rfl
theorem s3 : sizeD tab 3 = 1 := by kernel_rfl
theorem p22 (cs : List AV) : pack tab 22 cs = cs.headD .undef := by kernel_rfl
theorem p3 (cs : List AV) : pack tab 3 cs = cs.headD .undef := by kernel_rfl
theorem packs_ints : ∀ es : List (DataW H), (∀ d ∈ es, Dwf tab 3 d) → packs tab 3 es = (es.map dI).map fun x => AV.int .i64 x
  | [], _ => rfl
  | d :: r, h => by
    obtain ⟨n, rfl, _⟩ := (h d (by simp)).inv_int t3
    rw [packs, packs_ints r (fun d hd => h d (by simp [hd])), p3]
    rfl
theorem ints_av {d : DataW H} (h : Dwf tab 22 d) : av tab 22 d = .slice .none 1 ((dIs d).map fun x => AV.int .i64 x) := by
  unfold av
  rw [p22]
  rcases h.inv_slice t22 with rfl | ⟨es, rest, rfl, _, he⟩
  · simp only [avs, t22, nilA, s3, dIs]
    rfl
  · simp only [avs, t22, s3, dIs, packs_ints es he]
    rfl
end
end Go.Proofs.YtjojaiomgdjhfaaGreatDoor.AE
