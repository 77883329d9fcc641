/- A statement's row, out of the evaluator's answer. No condition. -/
import Derived.Test.YtbckfbohbjhffaaZInput
import GoSem.ClaimJoined
import Derived.FnData
import Derived.ChangeOld
set_option linter.unusedVariables false
set_option linter.unusedSimpArgs false
namespace Go.Proofs.Ytbckfbohbjhffaa.AE
open Go Go.RowKit

section
variable {H : Type} {enc : TypeId × Value → H} {P : Program} {w : World} {tb : List TI} {T : List TypeId}

theorem cells_one {r : Reach} {b : Nat} {t : TypeId} {d : TypeDesc} (hu : P.underlying t = some d) (ha : aggD d = false) {v : Value} (h : Value.okWide P w r b t v) : v.cells.toList = [v] := by
  cases v with
  | agg cs =>
    exfalso
    unfold Value.okWide at h
    rw [hu] at h
    cases d <;> simp only [aggD] at ha <;> first
      | (cases ha; done)
      | (simp only [Cell.okWide, hu, Cell.ok] at h; done)
  | _ => rfl
theorem cells_agg {r : Reach} {b : Nat} {t : TypeId} {d : TypeDesc} (hu : P.underlying t = some d) (ha : aggD d = true) {v : Value} (h : Value.okWide P w r b t v) : ∃ cs, v = .agg cs := by
  unfold Value.okWide at h
  rw [hu] at h
  cases d <;> simp only [aggD] at ha <;> first
    | (cases ha; done)
    | (obtain ⟨cs, h1, _⟩ := h; exact ⟨cs, h1⟩)

/-- An argument. -/
theorem arg_V (hP : TbOk P tb) (hT : plainT tb T = true) {t : TypeId} (ht : t ∈ T) {r : Reach} {b base : Nat} {sp : Nat → Bool} {held : Bool} {v : Value} {d : DataW H} {ps : List MemPlace}
    (hval : Value.okWide P w r b t v) (h : DataW.Trod enc P w base sp held t v d ps) : V (Gh.start w) (av tb t d) v := by
  obtain ⟨fuel, h⟩ := h
  obtain ⟨k1, k2⟩ := trod_lies hP hT fuel t _ _ ht h
  obtain ⟨ti, hti, hone⟩ := plainT_get hT ht
  obtain ⟨i, d', hi, hu, _, hagg, _, _, _⟩ := (hP.facts hti).ex
  unfold av pack
  rw [hti]
  simp only
  cases ha : ti.agg with
  | true =>
    simp only [if_true]
    obtain ⟨cs, rfl⟩ := cells_agg hu (by rw [← hagg]; exact ha) hval
    exact ⟨cs, rfl, k1.VL⟩
  | false =>
    simp only [Bool.false_eq_true, if_false]
    rw [cells_one hu (by rw [← hagg]; exact ha) hval] at k1
    have := k1.VL
    match avs tb t d, this with
    | [a], ⟨v', vs, e, hv, _⟩ => cases e; exact hv
    | [], h => cases h
    | a :: b :: r, ⟨v', vs, e, _, v2, vs2, e2, _⟩ => cases e; cases e2

/-- All of them. -/
def avl (tb : List TI) : List TypeId → List (DataW H) → List AV
  | t :: ts, d :: ds => av tb t d :: avl tb ts ds
  | _, _ => []
theorem args_VL (hP : TbOk P tb) (hT : plainT tb T = true) {r : Reach} {b base : Nat} {sp : Nat → Bool} {held : Bool} : ∀ (ts : List TypeId) (vs : List Value) (ds : List (DataW H)) (ps : List MemPlace), (∀ t ∈ ts, t ∈ T) →
    (∀ (j : Nat) t v, ts[j]? = some t → vs[j]? = some v → Value.okWide P w r b t v) → DataW.TrodAll enc P w base sp held ts vs ds ps → VL (Gh.start w) (avl tb ts ds) vs
  | [], [], [], _, _, _, _ => rfl
  | t :: ts, v :: vs, d :: ds, ps, hm, hval, h => by
    obtain ⟨p, q, h1, h2, _⟩ := h
    exact ⟨v, vs, rfl, arg_V hP hT (hm t (by simp)) (hval 0 t v rfl rfl) h1, args_VL hP hT ts vs ds q (fun t ht => hm t (by simp [ht])) (fun j t v a b => hval (j + 1) t v a b) h2⟩
  | [], _ :: _, _, _, _, _, h => h.elim
  | [], [], _ :: _, _, _, _, h => h.elim
  | _ :: _, [], _, _, _, _, h => h.elim
  | _ :: _, _ :: _, [], _, _, _, h => h.elim

/-- The variables that are laid. -/
def glOf (P : Program) (tb : List TI) : List (String × DataW Unit) → List (Nat × List AV)
  | [] => []
  | (n, d) :: r => match P.globalNamed n with
    | some g => match (P.globals[g]?).map (·.type) with
      | some t => (g, avs tb t d) :: glOf P tb r
      | none => glOf P tb r
    | none => glOf P tb r
def glTypes (P : Program) (T : List TypeId) (laid : List (String × DataW Unit)) : Bool := laid.all fun x => match (P.globalNamed x.1).bind fun g => (P.globals[g]?).map (·.type) with
  | some t => T.contains t
  | none => true
theorem glob_of (hP : TbOk P tb) (hT : plainT tb T = true) : ∀ (laid : List (String × DataW Unit)) (ps : List MemPlace), glTypes P T laid = true → DataW.LaidVars P w laid ps → Glob (glOf P tb laid) (Gh.start w)
  | [], _, _, _ => by intro x hx; simp [glOf] at hx
  | (n, d) :: r, ps, hm, h => by
    obtain ⟨g, t, cs, fuel, p, q, h1, h2, h3, h4, h5, _⟩ := h
    simp only [glTypes, List.all_cons, Bool.and_eq_true, h1, Option.bind_some, h2] at hm
    obtain ⟨m1, m2⟩ := hm
    obtain ⟨k1, k2⟩ := trod_lies hP hT fuel t _ _ (by simpa using m1) h4
    have ih := glob_of hP hT r q m2 h5
    intro x hx
    simp only [glOf, h1, h2, List.mem_cons] at hx
    rcases hx with rfl | hx
    · intro i a ha
      obtain ⟨v, q1, q2, q3⟩ := k1.2 i a ha
      refine .mk (v := v) ?_ q2 q3
      rw [Nat.zero_add, World.var?_cell h1 h3]
      rw [Array.getElem?_toList] at q1
      exact q1
    · exact ih x hx

theorem below_of {g' : Gh} {H' : AE.Heap} {w' : World} (h : Ctx w (Gh.start w) [] g' H' w') : Below w.heap.size w w' :=
  ⟨h.os, h.tape, h.out, h.size, fun k hk => (h.keep k hk (fun hl => by obtain ⟨b, ob, e, _⟩ := hl; cases e)).1⟩

/-- ████ The evaluator's answer is the program's. -/
theorem law_calls (hP : TbOk P tb) (hT : plainT tb T = true) (hm : P.follows .mixedOrders = true) {cfg : Cfg} {gl : List (Nat × List AV)} {f : FuncId} {k : Nat} {H' : AE.Heap} {as : List AV} {args : Array Value}
    (hv : VL (Gh.start w) as args.toList) (hgl : Glob gl (Gh.start w)) (hev : ev tb P cfg gl k f as [] = some (.bool true, H')) :
    Calls P f args w fun e w' => e = .returned (.bool true) ∧ Below w.heap.size w w' := by
  refine ((ev_good (cfg := cfg) (gl := gl) hP hm k).1 f as [] _ _ hev (Gh.start w) args w (start_wc w) hv hgl).mono fun e w' h => ?_
  obtain ⟨v, g', rfl, ret⟩ := h
  have : v = .bool true := ret.val
  subst this
  exact ⟨rfl, below_of ret.ctx⟩

theorem back_all (hl : laidOutB P = true) {W W' : World} (hb : Below W.heap.size W W') : ∀ (ts : List TypeId) (vs : List Value) (ds : List (DataW H)) (ps : List MemPlace), (∀ t ∈ ts, P.readableRec t = true ∧ t < P.types.size) →
    DataW.TrodAll enc P W 0 (fun _ => true) true ts vs ds ps → (∀ x ∈ ps, x.block < W.heap.size) → DataW.TrodAll enc P W' 0 (fun b => decide (b < W.heap.size)) true ts vs ds ps
  | [], [], [], _, _, h, _ => h
  | t :: ts, v :: vs, d :: ds, ps, hm, h, hlt => by
    obtain ⟨p, q, h1, h2, rfl⟩ := h
    obtain ⟨m1, m2⟩ := hm t (by simp)
    exact ⟨p, q, Below.trod hl m1 m2 h1 hb (fun x hx => hlt x (by simp [hx])), back_all hl hb ts vs ds q (fun t ht => hm t (by simp [ht])) h2 (fun x hx => hlt x (by simp [hx])), rfl⟩
  | [], _ :: _, _, _, _, h, _ => h.elim
  | [], [], _ :: _, _, _, h, _ => h.elim
  | _ :: _, [], _, _, _, h, _ => h.elim
  | _ :: _, _ :: _, [], _, _, h, _ => h.elim
end

end Go.Proofs.Ytbckfbohbjhffaa.AE
