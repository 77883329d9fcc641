/- Operations that take values apart: slices, elements, fields, tuples, lengths. No condition. -/
import Derived.Test.YtbckfbohbjhffaaZOps1
set_option linter.unusedVariables false
set_option linter.unusedSimpArgs false
namespace Go.Proofs.Ytbckfbohbjhffaa.AE
open Go

theorem extract_mk (s : List UInt8) (l h : Nat) : (⟨s.toArray⟩ : ByteArray).extract l h = ⟨((s.take h).drop l).toArray⟩ := by
  apply ByteArray.ext
  apply Array.ext'
  rw [Lib.extract_data]
  simp [List.drop_take]

theorem run_bnd {P : Program} {g : Gh} {x : AV} {top n : Nat} (h : bnd x top = some n) {v : Value} (hv : V g x v) {top' : Nat} (ht : top ≤ top') (code : BoundsCode) (w : World) :
    (Instr.sliceBound v top' code).run P w = .ok n w ∧ n ≤ top := by
  unfold bnd at h
  split at h
  · split at h
    · rename_i hb
      cases h; simp only [V] at hv; subst hv
      refine ⟨?_, by omega⟩
      unfold Instr.sliceBound
      rw [run_bind2]
      show (if 0 ≤ _ ∧ _ ≤ (top' : Int) then (Pure.pure _ : Sem Nat) else _).run P w = _
      rw [if_pos ⟨hb.1, by omega⟩]; rfl
    · cases h
  · cases h

inductive OptV (g : Gh) : Option AV → Option Value → Prop
  | none : OptV g none none
  | some {x : AV} {v : Value} (h : V g x v) : OptV g (some x) (some v)

theorem run_bounds {P : Program} {g : Gh} {w : World} {isSlice : Bool} {lo hi : Option AV} {vlo vhi : Option Value} (hlo : OptV g lo vlo) (hhi : OptV g hi vhi) {len top cap l h : Nat}
    (hh : bndO hi len top = some h) (hl : bndO lo 0 h = some l) (ht : top ≤ cap) :
    (Instr.sliceBounds isSlice len cap vlo vhi none).run P w = .ok (l, h, cap) w := by
  unfold Instr.sliceBounds
  cases hhi with
  | none =>
    simp only [bndO] at hh; cases hh
    cases hlo with
    | none =>
      simp only [bndO] at hl; cases hl
      simp only [run_bind2, run_pure2, Result.andThen_ok]
    | some hv =>
      simp only [run_bind2, run_pure2, Result.andThen_ok, (run_bnd (P := P) hl hv (Nat.le_refl _) _ w).1]
  | some hu =>
    cases hlo with
    | none =>
      simp only [bndO] at hl; cases hl
      simp only [run_bind2, run_pure2, Result.andThen_ok, (run_bnd (P := P) hh hu ht _ w).1]
    | some hv =>
      simp only [run_bind2, run_pure2, Result.andThen_ok, (run_bnd (P := P) hh hu ht _ w).1, (run_bnd (P := P) hl hv (Nat.le_refl _) _ w).1]

theorem run_bounds3 {P : Program} {g : Gh} {w : World} {isSlice : Bool} {lo : Option AV} {vlo : Option Value} {hi mx : AV} {vhi vmx : Value} (hlo : OptV g lo vlo) (hhi : V g hi vhi) (hmx : V g mx vmx) {len top cap l h m : Nat}
    (hm : bnd mx top = some m) (hh : bnd hi m = some h) (hl : bndO lo 0 h = some l) (ht : top ≤ cap) :
    (Instr.sliceBounds isSlice len cap vlo (some vhi) (some vmx)).run P w = .ok (l, h, m) w := by
  unfold Instr.sliceBounds
  cases hlo with
  | none =>
    simp only [bndO] at hl; cases hl
    simp only [run_bind2, run_pure2, Result.andThen_ok, (run_bnd (P := P) hm hmx ht _ w).1, (run_bnd (P := P) hh hhi (Nat.le_refl _) _ w).1]
  | some hv =>
    simp only [run_bind2, run_pure2, Result.andThen_ok, (run_bnd (P := P) hm hmx ht _ w).1, (run_bnd (P := P) hh hhi (Nat.le_refl _) _ w).1, (run_bnd (P := P) hl hv (Nat.le_refl _) _ w).1]

theorem pinned_drop_take {g : Gh} {c off s : Nat} {es : List AV} (h : Pinned g c off (es.flatMap cellsOf)) (hs : ∀ e ∈ es, (cellsOf e).length = s) (h' l : Nat) :
    Pinned g c (off + l * s) (((es.take h').drop l).flatMap cellsOf) := by
  have key : ∀ (es : List AV) (n : Nat), (∀ e ∈ es, (cellsOf e).length = s) → n ≤ es.length → (es.take n).flatMap cellsOf = (es.flatMap cellsOf).take (n * s) ∧ (es.drop n).flatMap cellsOf = (es.flatMap cellsOf).drop (n * s) := by
    intro es
    induction es with
    | nil => intro n _ hn; simp at hn; subst hn; simp
    | cons e r ih =>
      intro n hs hn
      cases n with
      | zero => simp
      | succ n =>
        obtain ⟨k1, k2⟩ := ih n (fun x hx => hs x (by simp [hx])) (by simpa using hn)
        have he := hs e (by simp)
        have hm : (n + 1) * s = (cellsOf e).length + n * s := by rw [he, Nat.add_mul]; omega
        refine ⟨?_, ?_⟩
        · rw [List.take_succ_cons, List.flatMap_cons, List.flatMap_cons, k1, hm, List.take_length_add_append]
        · rw [List.drop_succ_cons, List.flatMap_cons, k2, hm, List.drop_length_add_append]
  intro i a ha
  by_cases h1 : h' ≤ es.length
  · have k1 := key es h' hs h1
    by_cases h2 : l ≤ (es.take h').length
    · have k2 := key (es.take h') l (fun e he => hs e (List.mem_of_mem_take he)) h2
      rw [k2.2, k1.1] at ha
      rw [List.getElem?_drop, List.getElem?_take] at ha
      split at ha
      · have := h _ a ha
        rwa [← Nat.add_assoc] at this
      · cases ha
    · rw [List.drop_of_length_le (by omega)] at ha; simp at ha
  · rw [List.take_of_length_le (by omega)] at ha
    by_cases h2 : l ≤ es.length
    · have k2 := key es l hs h2
      rw [k2.2, List.getElem?_drop] at ha
      have := h _ a ha
      rwa [← Nat.add_assoc] at this
    · rw [List.drop_of_length_le (by omega)] at ha; simp at ha

theorem run_evSlice {P : Program} {tb : List TI} (hP : TbOk P tb) {g : Gh} {w : World} {t : TypeId} {x r : AV} {lo hi mx : Option AV} {vlo vhi vmx : Option Value} {v : Value}
    (h : evSlice tb t x lo hi mx = some r) (hv : V g x v) (hlo : OptV g lo vlo) (hhi : OptV g hi vhi) (hmx : OptV g mx vmx) : ∃ u, (Instr.sliceAt t v vlo vhi vmx).run P w = .ok u w ∧ V g r u := by
  unfold evSlice at h
  split at h
  · rename_i s hd
    obtain ⟨_, _, _, d', h1, h2⟩ := descOf_some hP hd
    cases ofDesc_string h2
    simp only [V] at hv; subst hv
    split at h
    · cases h
    · cases hmx
      split at h
      · rename_i hb hbh
        split at h
        · rename_i l hbl
          cases h
          refine ⟨_, ?_, rfl⟩
          unfold Instr.sliceAt
          simp only [run_bind2, run_under h1, Result.andThen_ok]
          unfold Instr.slice
          simp only [run_bind2, run_under h1, Result.andThen_ok, size_mk, Option.isSome_none, Bool.false_eq_true, if_false]
          rw [run_bounds hlo hhi hbh hbl (Nat.le_refl _)]
          simp only [Result.andThen_ok, run_pure2, extract_mk]
        · cases h
      · cases h
  · rename_i e tok sz es hd
    obtain ⟨_, _, _, d', h1, h2⟩ := descOf_some hP hd
    cases ofDesc_slice h2
    split at h
    · cases h
    rename_i hsz
    have hsz' : tsize tb e = some sz := by
      cases hx : tsize tb e with
      | none => rw [hx] at hsz; simp at hsz
      | some q => rw [hx] at hsz; simp at hsz; rw [hsz]
    have hsize := tsize_run hP hsz' w
    -- the value's parts: base, length, capacity
    have hparts : ∃ base cap, v = .slice base es.length cap ∧ es.length ≤ cap ∧ ((es = [] ∧ Bare tok (.slice base es.length cap)) ∨ ∃ c off, base = some ⟨c, off, none⟩ ∧ (∀ e ∈ es, (cellsOf e).length = sz) ∧ Pinned g c off (es.flatMap cellsOf) ∧ TokOk g es.length c off cap tok) := by
      simp only [V] at hv
      rcases hv with ⟨hb, rfl⟩ | ⟨c, off, cap, rfl, k1, k2, k3, k4⟩
      · obtain ⟨p, cap, rfl⟩ := hb.slice
        exact ⟨p, cap, rfl, Nat.zero_le _, .inl ⟨rfl, hb⟩⟩
      · exact ⟨_, cap, rfl, k1, .inr ⟨c, off, rfl, k2, k3, k4⟩⟩
    obtain ⟨base, cap, rfl, hcap, hbase⟩ := hparts
    have finish : ∀ l h' m tok', (Instr.sliceBounds true es.length cap vlo vhi vmx).run P w = .ok (l, h', m) w → l ≤ h' → h' ≤ m → h' ≤ es.length → m ≤ cap →
        (∀ c off, TokOk g es.length c off cap tok → TokOk g (h' - l) c (if m = l then off else off + l * sz) (m - l) tok') → (es = [] → tok = .none ∨ cap = 0 → tok' = .none ∨ m = 0) →
        ∃ u, (Instr.sliceAt t (.slice base es.length cap) vlo vhi vmx).run P w = .ok u w ∧ V g (.slice tok' sz ((es.take h').drop l)) u := by
      intro l h' m tok' hb hl1 hl2 hl3 hl4 htok hbare
      refine ⟨.slice (if m = l then base else base.map (·.add (l * sz))) (h' - l) (m - l), ?_, ?_⟩
      · unfold Instr.sliceAt
        simp only [run_bind2, run_under h1, Result.andThen_ok]
        unfold Instr.slice
        simp only [run_bind2, run_under h1, Result.andThen_ok]
        rw [hb]
        simp only [Result.andThen_ok, run_bind2, hsize, run_pure2]
      · have hlen : ((es.take h').drop l).length = h' - l := by simp; omega
        simp only [V]
        rcases hbase with ⟨rfl, hb0⟩ | ⟨c, off, rfl, k2, k3, k4⟩
        · have e1 : h' = 0 := by simpa using hl3
          have e2 : l = 0 := by omega
          subst e1 e2
          refine .inl ⟨?_, by simp⟩
          rcases hb0 with e | ⟨a, c1, e, hb1⟩
          · cases e
            have e3 : m = 0 := by omega
            subst e3
            exact .inl (by simp)
          · cases e
            refine .inr ⟨a, m, ?_, hbare rfl hb1⟩
            simp [Addr.add]
        · refine .inr ⟨c, if m = l then off else off + l * sz, m - l, ?_, by rw [hlen]; omega, fun e he => k2 e (List.mem_of_mem_take (List.mem_of_mem_drop he)), ?_, by rw [hlen]; exact htok c off k4⟩
          · rw [hlen]
            split
            · rfl
            · simp only [Option.map_some, Addr.add]
              split
              · rename_i h0; rw [h0]; simp
              · rfl
          · split
            · have : (es.take h').drop l = [] := by apply List.drop_of_length_le; simp; omega
              rw [this]; intro i a ha; simp at ha
            · exact pinned_drop_take k3 k2 h' l
    split at h
    · cases hmx
      split at h
      · rename_i hb hbh
        split at h
        · rename_i l hbl
          cases h
          have hle : hb ≤ es.length := by
            cases hhi with
            | none => simp only [bndO] at hbh; cases hbh; exact Nat.le_refl _
            | some hu => exact (run_bnd (P := P) hbh hu (Nat.le_refl _) .index w).2
          have hll : l ≤ hb := by
            cases hlo with
            | none => simp only [bndO] at hbl; cases hbl; omega
            | some hu => exact (run_bnd (P := P) hbl hu (Nat.le_refl _) .index w).2
          refine finish l hb cap _ (run_bounds hlo hhi hbh hbl hcap) hll (by omega) hle (Nat.le_refl _) (fun c off k4 => ?_) fun h0 ht => ?_
          rotate_left
          · subst h0
            have e1 : hb = 0 := by simpa using hle
            have e2 : l = 0 := by omega
            subst e1 e2
            rw [if_pos ⟨rfl, .inl rfl⟩]
            exact ht
          by_cases hcond : hb = es.length ∧ (l = 0 ∨ tok = .full)
          · rw [if_pos hcond]
            obtain ⟨e1, e2⟩ := hcond
            cases tok with
            | none => trivial
            | full => simp only [TokOk] at k4 ⊢; omega
            | buf b =>
              have e3 : l = 0 := by rcases e2 with e2 | e2; exact e2; cases e2
              subst e3
              simp only [TokOk] at k4 ⊢
              have e5 : (if cap = 0 then off else off + 0 * sz) = off := by split <;> simp
              rw [e5]
              intro s n hn
              have := k4 s n hn
              simp only [Nat.sub_zero, e1]; exact this
          · rw [if_neg hcond]; trivial
        · cases h
      · cases h
    · rename_i mv
      split at h
      · cases h
      rename_i m hbm
      split at h
      · cases h
      rename_i hv'
      split at h
      · cases h
      rename_i hb hbh
      split at h
      · rename_i l hbl
        cases h
        cases hmx with | some hmv =>
        cases hhi with | some hhv =>
        have hme := (run_bnd (P := P) hbm hmv (Nat.le_refl _) .index w).2
        have hle := (run_bnd (P := P) hbh hhv (Nat.le_refl _) .index w).2
        have hll : l ≤ hb := by
          cases hlo with
          | none => simp only [bndO] at hbl; cases hbl; omega
          | some hu => exact (run_bnd (P := P) hbl hu (Nat.le_refl _) .index w).2
        refine finish l hb m _ (run_bounds3 hlo hhv hmv hbm hbh hbl hcap) hll hle (by omega) (by omega) (fun c off k4 => ?_) fun h0 ht => ?_
        rotate_left
        · subst h0
          have e1 : m = 0 := by simpa using hme
          subst e1
          by_cases hcond : hb = 0
          · rw [if_pos hcond]; exact .inr rfl
          · rw [if_neg hcond]; exact .inl rfl
        by_cases hcond : hb = m
        · rw [if_pos hcond]; simp only [TokOk]; omega
        · rw [if_neg hcond]; trivial
      · cases h
  · rename_i e hd
    obtain ⟨_, _, _, d', h1, h2⟩ := descOf_some hP hd
    cases ofDesc_slice h2
    simp only [V] at hv; subst hv
    have fin : ∀ sz, tsize tb e = some sz → (Instr.sliceBounds true 0 0 vlo vhi vmx).run P w = .ok (0, 0, 0) w → (Instr.sliceAt t (.slice none 0 0) vlo vhi vmx).run P w = .ok (.slice none 0 0) w := by
      intro sz hsz hb
      unfold Instr.sliceAt
      simp only [run_bind2, run_under h1, Result.andThen_ok]
      unfold Instr.slice
      simp only [run_bind2, run_under h1, Result.andThen_ok]
      rw [hb]
      simp only [Result.andThen_ok, run_bind2, tsize_run hP hsz w, run_pure2]; rfl
    split at h
    · rename_i sz hi' hsz
      cases hmx
      split at h
      · rename_i a b ha hb
        cases h
        have ea : a = 0 := by
          cases hhi with
          | none => simp only [bndO] at ha; cases ha; rfl
          | some hu => exact Nat.le_zero.1 (run_bnd (P := P) ha hu (Nat.le_refl _) .index w).2
        subst ea
        have eb : b = 0 := by
          cases hlo with
          | none => simp only [bndO] at hb; cases hb; rfl
          | some hu => exact Nat.le_zero.1 (run_bnd (P := P) hb hu (Nat.le_refl _) .index w).2
        subst eb
        exact ⟨_, fin _ hsz (run_bounds hlo hhi ha hb (Nat.le_refl _)), rfl⟩
      · cases h
    · rename_i sz m hh hsz
      cases hmx with | some hmv =>
      cases hhi with | some hhv =>
      split at h
      · rename_i m' a b hm' ha hb
        cases h
        have em : m' = 0 := Nat.le_zero.1 (run_bnd (P := P) hm' hmv (Nat.le_refl _) .index w).2
        subst em
        have ea : a = 0 := Nat.le_zero.1 (run_bnd (P := P) ha hhv (Nat.le_refl _) .index w).2
        subst ea
        have eb : b = 0 := by
          cases hlo with
          | none => simp only [bndO] at hb; cases hb; rfl
          | some hu => exact Nat.le_zero.1 (run_bnd (P := P) hb hu (Nat.le_refl _) .index w).2
        subst eb
        exact ⟨_, fin _ hsz (run_bounds3 hlo hhv hmv hm' ha hb (Nat.le_refl _)), rfl⟩
      · cases h
    · cases h
  · cases h

end Go.Proofs.Ytbckfbohbjhffaa.AE
