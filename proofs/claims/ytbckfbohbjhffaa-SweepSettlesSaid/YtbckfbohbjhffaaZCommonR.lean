/- What the laws of this seat share: the contract out of a function's answer. No condition. -/
import Derived.Test.YtbckfbohbjhffaaRows
import Derived.Test.YtbckfbohbjhffaaZSE
import Derived.Test.YtbckfbohbjhffaaZTop
import Derived.WalkKit
import Derived.ProofKit
import Derived.OpenShut
import Derived.ShutString
import Derived.ChangeOld
import Derived.Below
import Derived.SizedLaws
set_option maxRecDepth 100000
namespace Go.Proofs.Ytbckfbohbjhffaa.AE
open Go Go.RowKit

theorem law_SF {Z : Seat} {f : FuncId} {args : List AV} {W : World} {vs : Array Value} (h : SF Z f args [] (.bool true) []) (hv : VL (Gh.start W) args vs.toList) (hg : Glob Z.gl (Gh.start W)) :
    Calls Z.P f vs W fun e w' => e = .returned (.bool true) ∧ Below W.heap.size W w' := by
  refine (h.2 (Gh.start W) vs W (start_wc W) hv hg).mono fun e w' h => ?_
  obtain ⟨v, g', rfl, ret⟩ := h
  have : v = .bool true := ret.val
  subst this
  exact ⟨rfl, below_of ret.ctx⟩
theorem own : ownKnob Try.prog.godebug = none := by kernel_rfl
theorem glob0 {W : World} : Glob Z.gl (Gh.start W) := fun x hx => by cases hx
end Go.Proofs.Ytbckfbohbjhffaa.AE
