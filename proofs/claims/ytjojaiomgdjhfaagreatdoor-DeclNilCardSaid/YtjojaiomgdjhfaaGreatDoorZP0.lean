/- DeclNil over the printed functions: no table has nothing. No condition. -/
import Derived.Test.YtjojaiomgdjhfaaGreatDoorZF0
import Derived.KernelRfl
set_option linter.unusedVariables false
set_option maxRecDepth 100000
namespace Go.Proofs.YtjojaiomgdjhfaaGreatDoor.F
open Go
theorem works18 (k : Nat) : law18_works (k + 100) = some true := by kernel_rfl
theorem glob_none (k : Nat) (s : List UInt8) : decl_Table_Global (k + 10) none s = (ref18_Given (k + 10) s).map fun g => decide (g ≥ 0) := by
  by_cases h1 : s = [108, 101, 110]
  · subst h1; kernel_rfl
  by_cases h2 : s = [105, 110, 112, 117, 116]
  · subst h2; kernel_rfl
  by_cases h3 : s = [102, 105, 108, 108]
  · subst h3; kernel_rfl
  by_cases h4 : s = [105, 110, 112, 117, 116, 115]
  · subst h4; kernel_rfl
  have hl : loopM (k + 10) (fun (l1_19 : Int) =>
      if (decide (l1_19 < (([51, 52, 53, 54] : List Int).length : Int))) then
      (ix [51, 52, 53, 54] l1_19).bind fun x6_0 =>
      (decl_Table_number (k + 10) none x6_0 s).bind fun (x7_3_0, x7_3_1) =>
      if x7_3_1 then
      some (.inr true)
      else
      some (.inl (IntKind.i64.wrap (l1_19 + 1)))
      else
      ((some false : Option Bool)).map .inr) 0 = some false := by kernel_rfl
  unfold decl_Table_Global word_Given ref18_Given
  have e1 : (s == [108, 101, 110]) = false := by simpa using h1
  have e2 : (s == [105, 110, 112, 117, 116]) = false := by simpa using h2
  have e3 : (s == [102, 105, 108, 108]) = false := by simpa using h3
  have e4 : (s == [105, 110, 112, 117, 116, 115]) = false := by simpa using h4
  simp only [joinK, e1, e2, e3, e4, Bool.false_eq_true, if_false, Bool.or_self, Option.bind_some, Option.map_some]
  exact hl
theorem nil_holds (s : List UInt8) (i : Int) : law18_DeclNil 100 s i = some true := by
  have hw : law18_works 100 = some true := works18 0
  have hg : ∃ g, ref18_Given 100 s = some g := by
    unfold ref18_Given
    split <;> first | exact ⟨_, rfl⟩ | skip
    split <;> first | exact ⟨_, rfl⟩ | skip
    split <;> exact ⟨_, rfl⟩
  obtain ⟨g, hg⟩ := hg
  have hG : decl_Table_Global 100 none s = some (decide (g ≥ 0)) := by
    rw [show (100 : Nat) = 90 + 10 from rfl, glob_none, show 90 + 10 = 100 from rfl, hg]; rfl
  have h1 : decl_Table_Rec 100 none s = some (TNode.mk 0 0 0 [] [], false) := by kernel_rfl
  have h2 : decl_Table_Iso 100 none s = some (0, false) := by kernel_rfl
  have h3 : decl_Table_Fun 100 none s = some (0, false) := by kernel_rfl
  have h4 : decl_Table_Merge 100 none s = some (0, false) := by kernel_rfl
  have h5 : decl_Table_Base 100 none i = some 0 := by kernel_rfl
  have h6 : decl_Table_Many 100 none i = some 0 := by kernel_rfl
  have h7 : decl_Table_Locs 100 none = some 0 := by kernel_rfl
  have h8 : decl_Table_Recs 100 none = some [] := by kernel_rfl
  have h9 : decl_Table_Isos 100 none = some [] := by kernel_rfl
  have h10 : decl_Table_Funs 100 none = some [] := by kernel_rfl
  have h11 : decl_Table_Merges 100 none = some [] := by kernel_rfl
  have h12 : decl_Table_Bodies 100 none = some [] := by kernel_rfl
  have h13 : decl_Table_Main 100 none = some (TNode.mk 0 0 0 [] []) := by kernel_rfl
  unfold law18_DeclNil
  simp only [h1, h2, h3, h4, h5, h6, h7, h8, h9, h10, h11, h12, h13, hw, hG, hg, Option.bind_some, joinK]
  rw [if_pos (by kernel_rfl)]
  have z : (IntKind.i64.wrap (IntKind.i64.wrap (0 + 0) + 0) == 0) = true := by kernel_rfl
  simp only [z, if_true]
  rw [if_pos (by kernel_rfl)]
  simp
theorem nil_ex (s : List UInt8) (i : Int) : ∃ k, law18_DeclNil k s i = some true := ⟨100, nil_holds s i⟩
end Go.Proofs.YtjojaiomgdjhfaaGreatDoor.F
