/- What the laws over the spellings share: the contract out of a function's answer, the world that holds the spellings. No condition. -/
import Derived.Test.YtakkikkcbdcpfaaDoorCards
import Derived.Test.YtakkikkcbdcpfaaDoorTie
import Derived.Test.YtakkikkcbdcpfaaDoorZY0
import Derived.Test.YtakkikkcbdcpfaaDoorZA1
import Derived.WalkKit
import Derived.ProofKit
import Derived.OpenShut
import Derived.ShutString
import Derived.ChangeOld
import Derived.Below
import Derived.Deep.DeepHandedRow
import Derived.Lib.LaidTab
set_option maxRecDepth 100000
namespace Go.Proofs.YtakkikkcbdcpfaaDoor.AE
open Go Go.RowKit

theorem law_SF {Z : Seat} {f : FuncId} {args : List AV} {W : World} {vs : Array Value} (h : SF Z f args [] (.bool true) []) (hv : VL (Gh.start W) args vs.toList) (hg : Glob Z.gl (Gh.start W)) :
    Calls Z.P f vs W fun e w' => e = .returned (.bool true) ∧ Below W.heap.size W w' := by
  refine (h.2 (Gh.start W) vs W (start_wc W) hv hg).mono fun e w' h => ?_
  obtain ⟨v, g', rfl, ret⟩ := h
  have : v = .bool true := ret.val
  subst this
  exact ⟨rfl, below_of ret.ctx⟩
theorem own : ownKnob Tryd.prog.godebug = none := by kernel_rfl
def laidT : List (String × DataW Unit) := [("marline/word.spellings", Rows.laid_marline_word_spellings)]
theorem gl_eq : glOf Tryd.prog tab laidT = SY.Zs.gl := by kernel_rfl
theorem gl_types : glTypes Tryd.prog [95, 9] laidT = true := by kernel_rfl
theorem gl_plain : plainT tab [95, 9] = true := by kernel_rfl
theorem glob {W : World} (h : laidMetH Tryd.prog laidT W) : Glob SY.Zs.gl (Gh.start W) := by
  have h2 : laidMet Tryd.prog laidT W := h
  obtain ⟨ps, h3, _, _⟩ := h2
  rw [← gl_eq]
  exact glob_of tb_ok gl_plain laidT ps gl_types h3
/-- A world for the witness: the settled one, the spellings (block 0) holding what the initialiser lays. -/
noncomputable def laidWorld (os : Os) : World :=
  { World.holding Tryd.prog os ⟨#[], #[], []⟩ with heap := (World.holding Tryd.prog os ⟨#[], #[], []⟩).heap.modify 0 fun
      | .cells _ t frozen => .cells #[.string ⟨#[]⟩, .string ⟨#[43]⟩, .string ⟨#[45]⟩, .string ⟨#[42]⟩, .string ⟨#[47]⟩, .string ⟨#[37]⟩, .string ⟨#[61, 61]⟩, .string ⟨#[33, 61]⟩, .string ⟨#[60]⟩, .string ⟨#[60, 61]⟩, .string ⟨#[62]⟩, .string ⟨#[62, 61]⟩, .string ⟨#[38, 38]⟩, .string ⟨#[124, 124]⟩, .string ⟨#[33]⟩] t frozen
      | o => o }
theorem laid_met (os : Os) (args : Array Value) : laidMet Tryd.prog laidT ((laidWorld os).forCall (fun _ _ => 0) ⟨#[], args, []⟩).memory :=
  laidMet_of_run' 8 (by kernel_rfl) (by kernel_rfl)
end Go.Proofs.YtakkikkcbdcpfaaDoor.AE
