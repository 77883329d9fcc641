/- Operations that make values of parts, that write memory, and that make it. No condition. -/
import Derived.Test.YtbckfbohbjhffaaZOps3
set_option linter.unusedVariables false
set_option linter.unusedSimpArgs false
namespace Go.Proofs.Ytbckfbohbjhffaa.AE
open Go

theorem setRange_length (vs : List AV) : ∀ (cs : List AV) (off : Nat), (setRange cs off vs).length = cs.length := by
  induction vs with
  | nil => intro cs off; rfl
  | cons v vs ih => intro cs off; simp only [setRange]; rw [ih]; simp

/-- A run of stores into a row, and 'setRange'. -/
theorem VL.set {g : Gh} {cs : List AV} {us : List Value} (h : VL g cs us) (o : Nat) {a : AV} {v : Value} (hv : V g a v) : VL g (cs.set o a) (us.set o v) := by
  refine VL.of_get (by simp [h.length]) fun i x y hx hy => ?_
  rw [List.getElem?_set] at hx hy
  split at hx
  · rename_i e
    rw [if_pos e] at hy
    split at hx
    · rename_i e2
      rw [if_pos (by rw [h.length]; exact e2)] at hy
      cases hx; cases hy; exact hv
    · cases hx
  · rename_i e
    rw [if_neg e] at hy
    obtain ⟨u, h1, h2⟩ := h.get i x hx
    rw [h1] at hy; cases hy; exact h2

theorem VL.setRange {g : Gh} : ∀ {vs : List AV} {us : List Value}, VL g vs us → ∀ {cs : List AV} {ws : List Value} (off : Nat), VL g cs ws → off + vs.length ≤ cs.length →
    VL g (AE.setRange cs off vs) (ws.take off ++ us ++ ws.drop (off + us.length))
  | [], us, h, cs, ws, off, hc, hl => by
    simp [VL] at h; subst h
    simpa [AE.setRange] using hc
  | v :: vs, us, h, cs, ws, off, hc, hl => by
    obtain ⟨u, us, rfl, h1, h2⟩ := h
    simp only [AE.setRange]
    simp only [List.length_cons] at hl
    have ih := VL.setRange h2 (off + 1) (hc.set off h1) (by simp; omega)
    have hws : ws.length = cs.length := hc.length
    have e : (ws.set off u).take (off + 1) ++ us ++ (ws.set off u).drop (off + 1 + us.length) = ws.take off ++ (u :: us) ++ ws.drop (off + (u :: us).length) := by
      have hlt : off < ws.length := by omega
      rw [List.set_eq_take_append_cons_drop, if_pos hlt]
      have e1 : (ws.take off).length = off := by simp; omega
      rw [List.take_append, List.drop_append, e1]
      simp only [Nat.add_sub_cancel_left, List.take_succ_cons, List.take_zero, List.length_cons]
      rw [List.take_of_length_le (by omega), List.drop_of_length_le (by omega)]
      have e2 : off + 1 + us.length - off = us.length + 1 := by omega
      rw [e2, List.drop_succ_cons, List.drop_drop]
      simp
      congr 1; omega
    rw [e] at ih
    exact ih

inductive PV (g : Gh) : List (Nat × AV) → List (Nat × Value) → Prop
  | nil : PV g [] []
  | cons {i : Nat} {a : AV} {v : Value} {as : List (Nat × AV)} {vs : List (Nat × Value)} (h : V g a v) (t : PV g as vs) : PV g ((i, a) :: as) ((i, v) :: vs)

theorem run_fill {g : Gh} {place : Nat → Option (Nat × Nat)} : ∀ {parts : List (Nat × AV)} {vparts : List (Nat × Value)} {cells r : List AV} {vcells : Array Value},
    PV g parts vparts → VL g cells vcells.toList → fillL place cells parts = some r →
    ∃ out, Instr.fill place vcells vparts = some out ∧ VL g r out.toList ∧ out.size = vcells.size
  | [], _, cells, r, vcells, .nil, hc, h => by
    cases h; exact ⟨vcells, rfl, hc, rfl⟩
  | (i, a) :: parts, _, cells, r, vcells, .cons (v := v) hv hr, hc, h => by
    simp only [fillL] at h
    unfold Instr.fill
    split at h
    · cases h
    · rename_i off size hp
      rw [hp]
      simp only
      split at h
      · cases h
      · rename_i hcond
        have hcond' : (cellsOf a).length = size ∧ off + (cellsOf a).length ≤ cells.length ∧ noUndef a = true := by
          refine ⟨?_, ?_, ?_⟩
          · exact Decidable.byContradiction fun x => hcond (.inl x)
          · exact Nat.le_of_not_gt fun x => hcond (.inr (.inl x))
          · cases hq : noUndef a with
            | true => rfl
            | false => exact (hcond (.inr (.inr hq))).elim
        obtain ⟨h1, h2, h3⟩ := hcond'
        have hcl := hv.cells h3
        have hcs : v.cells.size = size := by rw [← h1, ← hcl.length]; simp
        have hvs : vcells.size = cells.length := by rw [← hc.length]; simp
        rw [if_neg (by
          simp only [Bool.or_eq_true, decide_eq_true_eq, not_or]
          exact ⟨by simp [hcs], by omega⟩)]
        have hfold : ∀ (l : List Value) (k : Nat) (arr : Array Value), off + k + l.length ≤ arr.size → ((l.zipIdx k).foldl (fun cs x => cs.setIfInBounds (off + x.2) x.1) arr).toList = arr.toList.take (off + k) ++ l ++ arr.toList.drop (off + k + l.length) := by
          intro l
          induction l with
          | nil => intro k arr _; simp
          | cons x l ih =>
            intro k arr hlen
            simp only [List.length_cons] at hlen
            rw [List.zipIdx_cons, List.foldl_cons, ih (k + 1) _ (by simp; omega)]
            simp only [Array.toList_setIfInBounds]
            have hlt : off + k < arr.toList.length := by simp; omega
            rw [List.set_eq_take_append_cons_drop, if_pos hlt]
            have e1 : (arr.toList.take (off + k)).length = off + k := by simp; omega
            rw [List.take_append, List.drop_append, e1]
            have e3 : off + (k + 1) - (off + k) = 1 := by omega
            have e4 : off + (k + 1) + l.length - (off + k) = l.length + 1 := by omega
            rw [e3, e4, List.take_succ_cons, List.take_zero, List.drop_succ_cons, List.drop_drop, List.take_of_length_le (by omega), List.drop_of_length_le (by omega)]
            simp
            congr 1; omega
        have hres : (v.cells.zipIdx.foldl (fun cs (c, j) => cs.setIfInBounds (off + j) c) vcells).toList = vcells.toList.take off ++ v.cells.toList ++ vcells.toList.drop (off + v.cells.toList.length) := by
          have := hfold v.cells.toList 0 vcells (by simp [hcs, hvs]; omega)
          simp only [Nat.add_zero] at this
          rw [← this, ← Array.foldl_toList, Array.toList_zipIdx]
        have ih := run_fill (place := place) (vcells := v.cells.zipIdx.foldl (fun cs (c, j) => cs.setIfInBounds (off + j) c) vcells) hr (by rw [hres]; exact VL.setRange hcl off hc h2) h
        obtain ⟨out, k1, k2, k3⟩ := ih
        refine ⟨out, k1, k2, ?_⟩
        rw [k3, ← Array.length_toList, hres]
        simp [hcs, hvs]; omega

end Go.Proofs.Ytbckfbohbjhffaa.AE
