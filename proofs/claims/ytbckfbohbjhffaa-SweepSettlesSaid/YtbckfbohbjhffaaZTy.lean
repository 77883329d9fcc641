/- The types' table and the model's own questions on types. No condition. -/
import Derived.Test.YtbckfbohbjhffaaZRel3
import Derived.Laws.Sem
set_option linter.unusedVariables false
set_option linter.unusedSimpArgs false
namespace Go.Proofs.Ytbckfbohbjhffaa.AE
open Go

def TbOk (P : Program) (tb : List TI) : Prop := ∀ t ti, tb[t]? = some ti → mkTI P t = some ti

theorem run_bind2 {α β : Type} (P : Program) (x : Sem α) (f : α → Sem β) (w : World) : (x >>= f).run P w = (x.run P w).andThen fun a w' => (f a).run P w' := Sem.run_bind' P x f w
theorem run_pure2 {α : Type} (P : Program) (x : α) (w : World) : (pure x : Sem α).run P w = .ok x w := rfl

structure TyFacts (P : Program) (t : TypeId) (ti : TI) : Prop where
  ex : ∃ i d, P.info? t = some i ∧ P.underlying t = some d ∧ ti.size = i.size ∧ ti.agg = aggD d ∧ ti.bytes = i.bytes ∧ ti.zero = zeroCellsOf i.zero ∧ ti.desc = ofDesc d
  eq : ∀ d, P.underlying t = some d → ti.eqOk = eqOkD P t d

theorem TbOk.facts {P : Program} {tb : List TI} (h : TbOk P tb) {t : TypeId} {ti : TI} (ht : tb[t]? = some ti) : TyFacts P t ti := by
  have := h t ti ht
  unfold mkTI at this
  split at this
  · rename_i i d h1 h2
    cases this
    exact ⟨⟨i, d, h1, h2, rfl, rfl, rfl, rfl, rfl⟩, fun d' hd' => by rw [h2] at hd'; cases hd'; rfl⟩
  · cases this

theorem run_typeInfo {P : Program} {t : TypeId} {i : TypeInfo} (h : P.info? t = some i) (w : World) : (typeInfo t).run P w = .ok i w := by
  unfold typeInfo
  rw [run_bind2]
  show (match P.info? t with | some i => (pure i : Sem TypeInfo) | none => stuck "no such type").run P w = _
  rw [h]; rfl
theorem run_under {P : Program} {t : TypeId} {d : TypeDesc} (h : P.underlying t = some d) (w : World) : (underlying t).run P w = .ok d w := by
  unfold underlying
  rw [run_bind2]
  show (match P.underlying t with | some d => (pure d : Sem TypeDesc) | none => stuck "no such type").run P w = _
  rw [h]; rfl
theorem run_sizeOf2 {P : Program} {t : TypeId} {i : TypeInfo} (h : P.info? t = some i) (w : World) : (sizeOf t).run P w = .ok i.size w := by
  unfold Go.sizeOf
  rw [run_bind2, run_typeInfo h]; rfl
theorem run_isAgg {P : Program} {t : TypeId} {d : TypeDesc} (h : P.underlying t = some d) (w : World) : (isAgg t).run P w = .ok (aggD d) w := by
  unfold isAgg
  rw [run_bind2, run_under h]
  cases d <;> rfl
theorem run_zero {P : Program} {t : TypeId} {i : TypeInfo} {z : Value} (h : P.info? t = some i) (hz : i.zero = some z) (w : World) : (zeroValue t).run P w = .ok z w := by
  unfold zeroValue
  rw [run_bind2, run_typeInfo h]
  show (match i.zero with | some v => (pure v : Sem Value) | none => _).run P w = _
  rw [hz]; rfl

theorem TyFacts.size {P : Program} {t : TypeId} {ti : TI} (h : TyFacts P t ti) (w : World) : (sizeOf t).run P w = .ok ti.size w := by
  obtain ⟨i, d, h1, h2, h3, _⟩ := h.ex
  rw [run_sizeOf2 h1, h3]
theorem TyFacts.isAgg {P : Program} {t : TypeId} {ti : TI} (h : TyFacts P t ti) (w : World) : (isAgg t).run P w = .ok ti.agg w := by
  obtain ⟨i, d, h1, h2, _, h3, _⟩ := h.ex
  rw [run_isAgg h2, h3]
theorem TyFacts.under {P : Program} {t : TypeId} {ti : TI} (h : TyFacts P t ti) : ∃ d, P.underlying t = some d ∧ ofDesc d = ti.desc := by
  obtain ⟨i, d, h1, h2, _, _, _, _, h3⟩ := h.ex
  exact ⟨d, h2, h3.symm⟩

/-- What the description of a type says of the model's own. -/
theorem descOf_some {P : Program} {tb : List TI} (h : TbOk P tb) {t : TypeId} {d : TD} (hd : descOf tb t = some d) : ∃ ti, tb[t]? = some ti ∧ ti.desc = d ∧ ∃ d', P.underlying t = some d' ∧ ofDesc d' = d := by
  unfold descOf at hd
  split at hd
  · rename_i ti ht
    cases hd
    exact ⟨ti, ht, rfl, (h.facts ht).under⟩
  · cases hd
theorem tsize_some {P : Program} {tb : List TI} (h : TbOk P tb) {t : TypeId} {n : Nat} (hd : tsize tb t = some n) : ∃ ti, tb[t]? = some ti ∧ ti.size = n := by
  unfold tsize at hd
  split at hd
  · rename_i ti ht
    cases hd
    exact ⟨ti, ht, rfl⟩
  · cases hd
theorem tsize_run {P : Program} {tb : List TI} (h : TbOk P tb) {t : TypeId} {n : Nat} (hd : tsize tb t = some n) (w : World) : (sizeOf t).run P w = .ok n w := by
  obtain ⟨ti, h1, rfl⟩ := tsize_some h hd
  exact (h.facts h1).size w

theorem ofDesc_slice {d : TypeDesc} {e : TypeId} (h : ofDesc d = .slice e) : d = .slice e := by cases d <;> simp_all [ofDesc]
theorem ofDesc_string {d : TypeDesc} (h : ofDesc d = .string) : d = .string := by cases d <;> simp_all [ofDesc]
theorem ofDesc_int {d : TypeDesc} {k : IntKind} (h : ofDesc d = .int k) : d = .int k := by cases d <;> simp_all [ofDesc]
theorem ofDesc_bool {d : TypeDesc} (h : ofDesc d = .bool) : d = .bool := by cases d <;> simp_all [ofDesc]
theorem ofDesc_ptr {d : TypeDesc} {e : TypeId} (h : ofDesc d = .ptr e) : d = .pointer e := by cases d <;> simp_all [ofDesc]
theorem ofDesc_array {d : TypeDesc} {n : Nat} {e : TypeId} (h : ofDesc d = .array n e) : d = .array n e := by cases d <;> simp_all [ofDesc]
theorem ofDesc_map {d : TypeDesc} {k e : TypeId} (h : ofDesc d = .map k e) : d = .map k e := by cases d <;> simp_all [ofDesc]
theorem ofDesc_struct {d : TypeDesc} {l : List (Nat × TypeId)} (h : ofDesc d = .struct l) : ∃ fs, d = .struct fs ∧ l = fs.toList.map fun f => (f.offset, f.type) := by
  cases d <;> simp_all [ofDesc]
theorem ofDesc_fn {d : TypeDesc} (h : ofDesc d = .fn) : ∃ a b c, d = .func a b c := by cases d <;> simp_all [ofDesc]

/-- Constants and zero values. -/
theorem V_ofCell (g : Gh) (v : Value) : V g (ofCell v) v := by
  unfold ofCell
  split <;> first | (simp only [V]; done) | (simp [V]; done) | (simp only [V, VL]; exact ⟨_, _, rfl, rfl, rfl⟩) | trivial
theorem VL_ofCell (g : Gh) : ∀ vs : List Value, VL g (vs.map ofCell) vs
  | [] => rfl
  | v :: vs => ⟨v, vs, rfl, V_ofCell g v, VL_ofCell g vs⟩
theorem V_ofVal (g : Gh) (v : Value) : V g (ofVal v) v := by
  unfold ofVal
  split
  · exact ⟨_, rfl, VL_ofCell g _⟩
  · exact V_ofCell g v
theorem VL_zero (g : Gh) {i : TypeInfo} {z : Value} (hz : i.zero = some z) : VL g (zeroCellsOf i.zero) z.cells.toList := by
  rw [hz]; exact VL_ofCell g _

theorem ofCell_refs (v : Value) : refs (ofCell v) = [] ∧ toks (ofCell v) = [] := by
  unfold ofCell
  split <;> simp [refs, toks, refsL, toksL]

end Go.Proofs.Ytbckfbohbjhffaa.AE
