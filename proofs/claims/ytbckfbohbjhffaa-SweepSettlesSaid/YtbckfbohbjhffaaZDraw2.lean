/- A drawn region: one operation, then all. No condition. -/
import Derived.Test.YtbckfbohbjhffaaZDraw
set_option linter.unusedVariables false
set_option linter.unusedSimpArgs false
namespace Go.Proofs.Ytbckfbohbjhffaa.AE
open Go

theorem StepTo.refl {gl : List (Nat × List AV)} {n : Nat} {g : Gh} {S : St} {a : Act} {w : World} (h : StOk gl n g S a w) : StepTo gl n g S w S a w :=
  ⟨g, h, Ctx.refl _ _ _, Keep.refl _ _, fun _ _ h => h⟩
theorem StepTo.congr {gl : List (Nat × List AV)} {n : Nat} {g : Gh} {S S1 S2 : St} {a' : Act} {w w' : World} (h : StepTo gl n g S w S1 a' w') (hA : ∀ t, getA S2.A t = getA S1.A t) (hH : ∀ b, find S2.H b = find S1.H b) :
    StepTo gl n g S w S2 a' w' := by
  obtain ⟨g', k1, k2, k3, k4⟩ := h
  exact ⟨g', ⟨k1.wc.congr hH, fun t => by rw [hA]; exact k1.vals t, k1.size, k1.defers, k1.glob⟩, k2.congr hH, k3, fun e he h => by rw [hH]; exact k4 e he h⟩

theorem evWanted_congr {ops : Array Oper} {A A' : Slots} {o : Oper} (h : ∀ t ∈ namesOf ops o, getA A t = getA A' t) : evWanted ops A o = evWanted ops A' o := by
  unfold evWanted
  split
  · rfl
  · rename_i j want hg
    split
    · rename_i oj hoj
      split
      · rename_i t ht
        rw [h t (by unfold namesOf; rw [hg]; simp [hoj, ht])]
      · rfl
    · rfl
theorem evalA_congr {gl : List (Nat × List AV)} {ops : Array Oper} {A A' : Slots} {o : Oper} (h : ∀ t ∈ namesOf ops o, getA A t = getA A' t) : ∀ x ∈ o.op.operands.toList, evalA gl A x = evalA gl A' x := by
  intro x hx
  cases x with
  | tmp t => exact h t (by unfold namesOf; exact List.mem_append_left _ (List.mem_filterMap.2 ⟨.tmp t, hx, rfl⟩))
  | _ => rfl

theorem evStep0_good {P : Program} {tb : List TI} {cfg : Cfg} {call : CallF} (hP : TbOk P tb) {gl : List (Nat × List AV)} (hcall : CallOk P gl call) (hent : Enters P call) {n : Nat} {g : Gh} {S T S' : St} {a : Act} {w : World}
    (hS : StOk gl n g S a w) {fid : FuncId} {ops : Array Oper} {o : Oper} {r : OpR} (h : evStep0 tb cfg gl call fid ops T o = some r) (hA : ∀ t ∈ namesOf ops o, getA S.A t = getA T.A t) (hag : Agree r T.H S.H)
    (hfr : r.fresh = true → ∃ d, o.dst = some d ∧ ClearH d S.H ∧ ∀ t, t ≠ d → Off (fun b => rooted d b = true) (getA S.A t)) (hs : putO n o r S = some S')
    (next : Act → World → Prop) (Q : Exit → Act → World → Prop) (hn : ∀ a' w', StepTo gl n g S w S' a' w' → next a' w') :
    (Region.wanted o (yielded ops a.tmps) = true → o.wp P a w next Q) ∧ (Region.wanted o (yielded ops a.tmps) = false → next (a.put o.dst undef) w) := by
  unfold putO at hs
  cases hsd : setDst n o.dst r.v S.A with
  | none => rw [hsd] at hs; cases hs
  | some A =>
    rw [hsd] at hs
    cases hs
    unfold evStep0 at h
    rw [← evWanted_congr hA] at h
    split at h
    · cases h
    · rename_i hw0
      have hwt := wanted_spec hS.vals _ hw0
      refine ⟨fun h1 => by (rw [hwt] at h1; cases h1), fun _ => ?_⟩
      cases h
      exact hn _ _ ⟨g, ⟨hS.wc, vals_put hS.size hsd ⟨#[], rfl, rfl⟩ (fun t _ => hS.vals t), by rw [put_size]; exact hS.size, by rw [put_defers]; exact hS.defers, hS.glob⟩, Ctx.refl _ _ _, Keep.refl _ _, fun _ _ h => h⟩
    · rename_i hw0
      have hwt := wanted_spec hS.vals _ hw0
      refine ⟨fun _ => ?_, fun h1 => by (rw [hwt] at h1; cases h1)⟩
      rw [← evOp_congr (evalA_congr hA)] at h
      refine evOp_good hP hcall hent hS.glob hS.wc (fun x => hS.eval x) h hag (fun hf => by obtain ⟨d, h1, h2, _⟩ := hfr hf; exact ⟨d, h1, h2⟩) next Q fun v w' g' st => ?_
      have hFx : ∀ b, Fr r o b → ¬ IsExt b := fun b hF => by
        obtain ⟨_, d, _, h2⟩ := hF
        exact rooted_notExt h2
      refine hn _ _ ⟨g', ⟨st.wc, vals_put hS.size hsd st.val (fun t ht => st.keep.V ?_ (hS.vals t)), by rw [put_size]; exact hS.size, by rw [put_defers]; exact hS.defers, fun x hx => (hS.glob x hx).mono st.keep.gam⟩,
        st.ctx, st.keep.wider hFx, pers_insAll _ _⟩
      by_cases hfrs : r.fresh = true
      · obtain ⟨d, h1, h2, h3⟩ := hfr hfrs
        have hne : t ≠ d := fun e => ht (by rw [h1, e])
        have hoff := h3 t hne
        refine ⟨fun b hb hF => hoff.1 b hb ?_, fun b hb hF => hoff.2 b hb ?_⟩ <;> (obtain ⟨_, d', k1, k2⟩ := hF; rw [h1] at k1; cases k1; exact k2)
      · exact ⟨fun b _ hF => hfrs hF.1, fun b _ hF => hfrs hF.1⟩

theorem StepTo.trans {gl : List (Nat × List AV)} {n : Nat} {g g1 : Gh} {S S1 S2 : St} {a2 : Act} {w w1 w2 : World}
    (h1 : Ctx w g S.H g1 S1.H w1) (h2 : Keep (fun b => ¬ IsExt b) g g1) (h3 : Pers S.H S1.H) (h : StepTo gl n g1 S1 w1 S2 a2 w2) : StepTo gl n g S w S2 a2 w2 := by
  obtain ⟨g', k1, k2, k3, k4⟩ := h
  exact ⟨g', k1, h1.trans k2, h2.trans k3, h3.trans k4⟩

/-! ### the checks -/
theorem Before.mem {ops : Array Oper} {D : Nat → Bool} (hD : ∀ j o e, D j = true → ops[j]? = some o → e ∈ o.after → Region.binds .any e = true → D e.on = true) {j i : Nat} (h : Before ops j i)
    (hj : ∀ o e, ops[j]? = some o → e ∈ o.after → Region.binds .any e = true → D e.on = true) : D i = true := by
  induction h with
  | edge ho he hb => exact hj _ _ ho he hb
  | step ho he hb _ ih => exact ih fun o e' h1 h2 h3 => hD _ o e' (hj _ _ ho he hb) h1 h2 h3

structure Pair (ops : Array Oper) (R : List OpR) (i j : Nat) (x y : Oper) (p q : OpR) : Prop where
  off : offFresh y q p = true
  or : Before ops j i ∨ (apartB ops x y = true ∧ apartR p q = true ∧ offFresh x p q = true)
theorem pairOk_spec {ops : Array Oper} {R : List OpR} {i j : Nat} (h : pairOk ops (befores ops.toList []) R i j = true) : ∃ x y p q, ops[i]? = some x ∧ ops[j]? = some y ∧ R[i]? = some p ∧ R[j]? = some q ∧ Pair ops R i j x y p q := by
  unfold pairOk at h
  split at h
  · rename_i x y p q h1 h2 h3 h4
    simp only [Bool.and_eq_true, Bool.or_eq_true] at h
    refine ⟨x, y, p, q, h1, h2, h3, h4, h.1, ?_⟩
    rcases h.2 with h5 | ⟨⟨h5, h6⟩, h7⟩
    · left
      refine befores_spec ops ops.toList [] (fun i => by simp) (fun j i hi => by simp at hi) j i ?_
      simpa using h5
    · exact .inr ⟨h5, h6, h7⟩
  · cases h

theorem apartB_spec {ops : Array Oper} {x y : Oper} (h : apartB ops x y = true) : (∀ d, x.dst = some d → d ∉ namesOf ops y ∧ y.dst ≠ some d) ∧ ∀ e, y.dst = some e → e ∉ namesOf ops x := by
  unfold apartB at h
  split at h <;> simp_all
  exact fun e => h.2 e.symm
theorem offRoots_spec {ws : List (Oid × Ob)} {bs : List Oid} (h : offRoots ws bs = true) {b u : Oid} (hu : u ∈ bs) (hb : u.root = b.root) : find ws b = none := by
  simp only [offRoots, List.all_eq_true, bne_iff_ne, ne_eq] at h
  exact find_none_of_roots fun w hw e => h w hw u hu (by rw [hb, e])
theorem offFresh_spec {x : Oper} {p q : OpR} (h : offFresh x p q = true) (hp : p.fresh = true) {d : Nat} (hd : x.dst = some d) :
    Off (fun b => rooted d b = true) q.v ∧ ∀ b ob, find q.ws b = some ob → rooted d b = false ∧ ∀ y ∈ ob.refs ++ ob.toks, rooted d y = false := by
  unfold offFresh at h
  rw [hp, hd] at h
  simp only [Bool.not_true, Bool.false_or, Bool.and_eq_true, Bool.not_eq_true', List.any_eq_false, List.all_eq_true] at h
  obtain ⟨⟨h1, h2⟩, h3⟩ := h
  refine ⟨⟨fun b hb => h1 b hb, fun b hb => h2 b hb⟩, fun b ob hf => ?_⟩
  have := h3 _ (find_mem hf)
  refine ⟨this.1.1, fun y hy => ?_⟩
  rcases List.mem_append.1 hy with hy | hy
  · simpa using this.1.2 y hy
  · simpa using this.2 y hy

section
variable {P : Program} {tb : List TI} {cfg : Cfg} {call : CallF} {gl : List (Nat × List AV)} {n : Nat} {fid : FuncId} {ops : Array Oper} {S0 : St} {R : List OpR}

theorem dstAt_of {i : Nat} {o : Oper} (h : ops[i]? = some o) : dstAt ops i = o.dst := by simp [dstAt, h]

/-- What an operation comes to, whoever answers its call. -/
def StepX (P : Program) (tb : List TI) (gl : List (Nat × List AV)) (fid : FuncId) (ops : Array Oper) (T : St) (o : Oper) (r : OpR) : Prop :=
  ∃ cfg call, CallOk P gl call ∧ Enters P call ∧ evStep0 tb cfg gl call fid ops T o = some r
/-- An operation whose turn it is, some being done. -/
theorem draw_op (hP : TbOk P tb)
    (htr : ∀ j o, ops[j]? = some o → ∃ r, R[j]? = some r ∧ StepX P tb gl fid ops (stAt ops R (fun _ => true) S0 j) o r ∧ ∀ d, o.dst = some d → d < n)
    (hord : ∀ j, j < ops.size → freshOk S0 ops R j = true ∧ ∀ i, i < j → pairOk ops (befores ops.toList []) R i j = true)
    {D : Nat → Bool} (hcl : ∀ j o e, D j = true → ops[j]? = some o → e ∈ o.after → Region.binds .any e = true → D e.on = true) {j : Nat} {o : Oper} (ho : ops[j]? = some o) (hDj : D j = false)
    (hrdy : ∀ e ∈ o.after, Region.binds .any e = true → D e.on = true) {g : Gh} {a : Act} {w : World} (hS : StOk gl n g (stAt ops R D S0 ops.size) a w) (next : Act → World → Prop) (Q : Exit → Act → World → Prop)
    (hn : ∀ a' w', StepTo gl n g (stAt ops R D S0 ops.size) w (stAt ops R (fun i => D i || decide (i = j)) S0 ops.size) a' w' → next a' w') :
    (Region.wanted o (yielded ops a.tmps) = true → o.wp P a w next Q) ∧ (Region.wanted o (yielded ops a.tmps) = false → next (a.put o.dst undef) w) := by
  have hj : j < ops.size := (Array.getElem?_eq_some_iff.1 ho).1
  obtain ⟨r, hr, ⟨cfg, call, hcall, hent, hev⟩, hdn⟩ := htr j o ho
  -- those ahead in the text
  have hlo : ∀ i, i < j → ∃ x p, ops[i]? = some x ∧ R[i]? = some p ∧ offFresh o r p = true ∧ (D i = true ∨ (apartB ops x o = true ∧ apartR p r = true ∧ offFresh x p r = true)) := by
    intro i hi
    obtain ⟨x, y, p, q, h1, h2, h3, h4, h5⟩ := pairOk_spec ((hord j hj).2 i hi)
    rw [ho] at h2; cases h2
    rw [hr] at h4; cases h4
    exact ⟨x, p, h1, h3, h5.off, h5.or.imp (fun hb => hb.mem hcl fun o' e k1 k2 k3 => by rw [ho] at k1; cases k1; exact hrdy e k2 k3) id⟩
  have hhi : ∀ i, j < i → i < ops.size → D i = true → ∃ x p, ops[i]? = some x ∧ R[i]? = some p ∧ apartB ops o x = true ∧ apartR r p = true ∧ offFresh o r p = true := by
    intro i hi him hDi
    obtain ⟨x, y, p, q, h1, h2, h3, h4, h5⟩ := pairOk_spec ((hord i him).2 j hi)
    rw [ho] at h1; cases h1
    rw [hr] at h3; cases h3
    refine ⟨y, q, h2, h4, ?_⟩
    rcases h5.or with hb | hb
    · have := hb.mem hcl fun o' e k1 k2 k3 => hcl i o' e hDi k1 k2 k3
      rw [hDj] at this; cases this
    · exact hb
  -- where the done ones and those ahead in the text differ
  have hdiff : ∀ i, i < ops.size → D i ≠ decide (i < j) → i ≠ j ∧ ((i < j ∧ D i = false) ∨ (j < i ∧ D i = true)) := by
    intro i him hne
    by_cases e : i = j
    · subst e; simp [hDj] at hne
    · refine ⟨e, ?_⟩
      by_cases h : i < j
      · left; simp [h] at hne; exact ⟨h, hne⟩
      · right; simp [h] at hne; exact ⟨by omega, hne⟩
  have hstopA : slotsAt ops R (fun i => decide (i < j)) S0.A ops.size = slotsAt ops R (fun _ => true) S0.A j := by
    have := slots_stop ops R S0.A j (ops.size - j)
    rwa [show j + (ops.size - j) = ops.size by omega] at this
  have hstopH : heapAt R (fun i => decide (i < j)) S0.H ops.size = heapAt R (fun _ => true) S0.H j := by
    have := heap_stop R S0.H j (ops.size - j)
    rwa [show j + (ops.size - j) = ops.size by omega] at this
  have hA : ∀ t ∈ namesOf ops o, getA (stAt ops R D S0 ops.size).A t = getA (stAt ops R (fun _ => true) S0 j).A t := by
    intro t ht
    show getA (slotsAt ops R D S0.A ops.size) t = getA (slotsAt ops R (fun _ => true) S0.A j) t
    rw [← hstopA]
    refine slots_congr ops R S0.A t ops.size fun i him hne => ?_
    obtain ⟨_, ⟨h1, h2⟩ | ⟨h1, h2⟩⟩ := hdiff i him hne
    · obtain ⟨x, p, k1, k2, _, k3 | ⟨k3, _, _⟩⟩ := hlo i h1
      · rw [h2] at k3; cases k3
      · rw [dstAt_of k1]; intro hd; exact ((apartB_spec k3).1 t hd).1 ht
    · obtain ⟨x, p, k1, k2, k3, _, _⟩ := hhi i h1 him h2
      rw [dstAt_of k1]; intro hd; exact (apartB_spec k3).2 t hd ht
  have hag : Agree r (stAt ops R (fun _ => true) S0 j).H (stAt ops R D S0 ops.size).H := by
    rintro b ⟨u, hu, hub⟩
    show find (heapAt R (fun _ => true) S0.H j) b = find (heapAt R D S0.H ops.size) b
    rw [← hstopH]
    refine (heap_congr R S0.H b ops.size fun i him hne => ?_).symm
    obtain ⟨_, ⟨h1, h2⟩ | ⟨h1, h2⟩⟩ := hdiff i him hne
    · obtain ⟨x, p, k1, k2, _, k3 | ⟨_, k3, _⟩⟩ := hlo i h1
      · rw [h2] at k3; cases k3
      · intro r' hr'; rw [k2] at hr'; cases hr'
        simp only [apartR, Bool.and_eq_true] at k3
        exact offRoots_spec k3.1.1 hu hub
    · obtain ⟨x, p, k1, k2, _, k3, _⟩ := hhi i h1 him h2
      intro r' hr'; rw [k2] at hr'; cases hr'
      simp only [apartR, Bool.and_eq_true] at k3
      exact offRoots_spec k3.2 hu hub
  -- what is done speaks of no new object
  have hoff : r.fresh = true → ∀ d, o.dst = some d → ∀ i p, i < ops.size → D i = true → R[i]? = some p → offFresh o r p = true := by
    intro _ d _ i p him hDi hp
    by_cases e : i = j
    · subst e; rw [hDj] at hDi; cases hDi
    · by_cases h : i < j
      · obtain ⟨x, p', k1, k2, k3, _⟩ := hlo i h
        rw [hp] at k2; cases k2; exact k3
      · obtain ⟨x, p', k1, k2, _, _, k3⟩ := hhi i (by omega) him hDi
        rw [hp] at k2; cases k2; exact k3
  have hfr : r.fresh = true → ∃ d, o.dst = some d ∧ ClearH d (stAt ops R D S0 ops.size).H ∧ ∀ t, t ≠ d → Off (fun b => rooted d b = true) (getA (stAt ops R D S0 ops.size).A t) := by
    intro hf
    have hfo := (hord j hj).1
    unfold freshOk at hfo
    rw [ho, hr] at hfo
    simp only [hf, Bool.not_true, Bool.false_or] at hfo
    split at hfo
    · rename_i d hd
      obtain ⟨c1, c2⟩ := clear_spec hfo
      refine ⟨d, hd, ⟨fun b hb => ?_, fun b ob hfb y hy => ?_⟩, fun t ht => ?_⟩
      · cases hfb : find (stAt ops R D S0 ops.size).H b with
        | none => rfl
        | some ob =>
          rcases heap_from R S0.H ops.size hfb with h | ⟨i, p, h1, h2, h3, h4⟩
          · rw [c1.1 b hb] at h; cases h
          · have := ((offFresh_spec (hoff hf d hd i p h1 h2 h3) hf hd).2 b ob h4).1
            rw [hb] at this; cases this
      · rcases heap_from R S0.H ops.size hfb with h | ⟨i, p, h1, h2, h3, h4⟩
        · exact c1.2 b ob h y hy
        · exact ((offFresh_spec (hoff hf d hd i p h1 h2 h3) hf hd).2 b ob h4).2 y hy
      · rcases slots_from ops R (D := D) S0.A t ops.size with h | ⟨i, p, h1, h2, h3, h4, h5⟩
        · show Off _ (getA (slotsAt ops R D S0.A ops.size) t)
          rw [h]; exact c2 t ht
        · show Off _ (getA (slotsAt ops R D S0.A ops.size) t)
          rw [h5]; exact (offFresh_spec (hoff hf d hd i p h1 h2 h4) hf hd).1
    · cases hfo
  obtain ⟨S', hs⟩ : ∃ S', putO n o r (stAt ops R D S0 ops.size) = some S' := by
    unfold putO setDst
    cases hd : o.dst with
    | none => exact ⟨_, rfl⟩
    | some d => simp only [if_pos (hdn d hd)]; exact ⟨_, rfl⟩
  refine evStep0_good hP hcall hent hS hev hA hag hfr hs next Q fun a' w' st => hn a' w' (st.congr (fun t => ?_) fun b => ?_)
  · -- slots
    show getA (slotsAt ops R (fun i => D i || decide (i = j)) S0.A ops.size) t = _
    have hoth : dstAt ops j ≠ some t → getA (slotsAt ops R (fun i => D i || decide (i = j)) S0.A ops.size) t = getA (slotsAt ops R D S0.A ops.size) t := fun hne =>
      slots_congr ops R S0.A t ops.size fun i him hd => by
        by_cases e : i = j
        · subst e; exact hne
        · simp [e] at hd
    unfold putO setDst at hs
    cases hd : o.dst with
    | none =>
      rw [hd] at hs
      cases hs
      exact hoth (by rw [dstAt_of ho, hd]; simp)
    | some d =>
      rw [hd] at hs
      simp only [if_pos (hdn d hd)] at hs
      cases hs
      simp only [getA_put]
      by_cases e : d = t
      · subst e
        rw [if_pos rfl]
        refine slots_last ops R S0.A (by rw [dstAt_of ho, hd]) hr (by simp) ops.size hj fun i h1 h2 h3 => ?_
        have h4 : D i = true := by simpa [show i ≠ j by omega] using h3
        obtain ⟨x, p, k1, k2, k3, _, _⟩ := hhi i h1 h2 h4
        rw [dstAt_of k1]
        exact ((apartB_spec k3).1 d hd).2
      · rw [if_neg e]
        exact hoth (by rw [dstAt_of ho, hd]; simp [e])
  · -- heap
    show find (heapAt R (fun i => D i || decide (i = j)) S0.H ops.size) b = _
    have hSH : S'.H = insAll (heapAt R D S0.H ops.size) r.ws := by
      unfold putO at hs
      split at hs
      · cases hs; rfl
      · cases hs
    rw [hSH, find_insAll]
    cases hf : find r.ws b with
    | none =>
      refine heap_congr R S0.H b ops.size fun i him hd => ?_
      by_cases e : i = j
      · subst e; intro r' hr'; rw [hr] at hr'; cases hr'; exact hf
      · simp [e] at hd
    | some ob =>
      refine heap_last R S0.H hr hf (by simp) ops.size hj fun i h1 h2 h3 => ?_
      have h4 : D i = true := by simpa [show i ≠ j by omega] using h3
      obtain ⟨x, p, k1, k2, _, k3, _⟩ := hhi i h1 h2 h4
      intro r' hr'; rw [k2] at hr'; cases hr'
      simp only [apartR, Bool.and_eq_true] at k3
      cases hf2 : find p.ws b with
      | none => rfl
      | some ob2 =>
        have := offRoots_spec k3.1.2 (b := b) (u := b) (List.mem_map.2 ⟨_, find_mem hf2, rfl⟩) rfl
        rw [hf] at this; cases this

theorem countP_lt {p q : Nat → Bool} : ∀ (l : List Nat), (∀ i ∈ l, q i = true → p i = true) → (∃ j ∈ l, p j = true ∧ q j = false) → l.countP q < l.countP p
  | [], _, ⟨j, hj, _⟩ => by cases hj
  | x :: l, h, ⟨j, hj, h1, h2⟩ => by
    have hle : l.countP q ≤ l.countP p := List.countP_mono_left fun i hi => h i (List.mem_cons_of_mem _ hi)
    rw [List.countP_cons, List.countP_cons]
    rcases List.mem_cons.1 hj with rfl | hj
    · rw [h1, h2]; simp; omega
    · have ih := countP_lt l (fun i hi => h i (List.mem_cons_of_mem _ hi)) ⟨j, hj, h1, h2⟩
      have hx := h x (List.mem_cons_self)
      cases hq : q x
      · simp only [Bool.false_eq_true, if_false]; omega
      · rw [hx hq]; simp only [if_true]; omega

theorem draw_any (hP : TbOk P tb)
    (htr : ∀ j o, ops[j]? = some o → ∃ r, R[j]? = some r ∧ StepX P tb gl fid ops (stAt ops R (fun _ => true) S0 j) o r ∧ ∀ d, o.dst = some d → d < n)
    (hord : ∀ j, j < ops.size → freshOk S0 ops R j = true ∧ ∀ i, i < j → pairOk ops (befores ops.toList []) R i j = true) (hedge : ∀ j o, ops[j]? = some o → ∀ e ∈ o.after, Region.binds .any e = true → e.on < j)
    {g0 : Gh} {w0 : World} {Q : Exit → Act → World → Prop} (hQ : ∀ a' w', StepTo gl n g0 S0 w0 (stAt ops R (fun _ => true) S0 ops.size) a' w' → Q .normal a' w') :
    ∀ (fuel : Nat) (listed : Array Bool) (a : Act) (w : World), listed.size = ops.size → (List.range ops.size).countP (fun i => !listed.getD i false) ≤ fuel →
      (∀ j o e, listed.getD j false = true → ops[j]? = some o → e ∈ o.after → Region.binds .any e = true → listed.getD e.on false = true) →
      StepTo gl n g0 S0 w0 (stAt ops R (fun i => listed.getD i false) S0 ops.size) a w → wpAny P .any ops Q fuel listed a w := by
  intro fuel
  -- with nothing ready, all is done
  have hall : ∀ (listed : Array Bool), listed.size = ops.size → Region.ready .any ops listed = [] → ∀ i, i < ops.size → listed.getD i false = true := by
    intro listed hsz hre i
    induction i using Nat.strongRecOn with
    | _ i ih =>
      intro hi
      cases hd : listed.getD i false with
      | true => rfl
      | false =>
        have hmem : i ∈ Region.ready .any ops listed := by
          rw [mem_ready]
          refine ⟨?_, ops[i], Array.getElem?_eq_getElem hi, fun e he hb => ?_⟩
          · simp only [Array.getD_eq_getD_getElem?, Array.getElem?_eq_getElem (show i < listed.size by omega)] at hd ⊢
            exact hd
          · have hlt := hedge i _ (Array.getElem?_eq_getElem hi) e he hb
            exact ih _ hlt (by omega)
        rw [hre] at hmem; cases hmem
  have hdone : ∀ (listed : Array Bool) (a : Act) (w : World), (∀ i, i < ops.size → listed.getD i false = true) → StepTo gl n g0 S0 w0 (stAt ops R (fun i => listed.getD i false) S0 ops.size) a w → Q .normal a w := by
    intro listed a w h st
    refine hQ a w (st.congr (fun t => ?_) fun b => ?_)
    · exact slots_congr ops R S0.A t ops.size fun i hi hd => by simp [h i hi] at hd
    · exact heap_congr R S0.H b ops.size fun i hi hd => by simp [h i hi] at hd
  induction fuel with
  | zero =>
    intro listed a w hsz hc hcl st
    have hall0 : ∀ i, i < ops.size → listed.getD i false = true := by
      intro i hi
      have : (List.range ops.size).countP (fun i => !listed.getD i false) = 0 := by omega
      have := List.countP_eq_zero.1 this i (List.mem_range.2 hi)
      simpa using this
    refine ⟨?_, hdone listed a w hall0 st⟩
    rw [List.eq_nil_iff_forall_not_mem]
    intro i hi
    rw [mem_ready] at hi
    obtain ⟨h1, o, ho, _⟩ := hi
    have hi' := (Array.getElem?_eq_some_iff.1 ho).1
    have := hall0 i hi'
    simp only [Array.getD_eq_getD_getElem?, Array.getElem?_eq_getElem (show i < listed.size by omega)] at h1 this
    simp at h1 this
    rw [h1] at this; cases this
  | succ fuel ih =>
    intro listed a w hsz hc hcl st
    refine ⟨fun hre => hdone listed a w (hall listed hsz hre) st, fun j hj => ?_⟩
    rw [mem_ready] at hj
    obtain ⟨h1, o, ho, hrdy⟩ := hj
    have hjs := (Array.getElem?_eq_some_iff.1 ho).1
    have hDj : listed.getD j false = false := by
      simp only [Array.getD_eq_getD_getElem?, Array.getElem?_eq_getElem (show j < listed.size by omega)] at h1 ⊢
      exact h1
    obtain ⟨g1, k1, k2, k3, k4⟩ := st
    have hD' : ∀ i, (listed.setIfInBounds j true).getD i false = (listed.getD i false || decide (i = j)) := by
      intro i
      by_cases e : j = i
      · subst e; simp [show j < listed.size by omega]
      · rw [getD_set_ne false e]; simp [Ne.symm e]
    have main := draw_op (D := fun i => listed.getD i false) hP htr hord hcl ho hDj hrdy k1 (wpAny P .any ops Q fuel (listed.setIfInBounds j true)) Q fun a' w' st' => by
      refine ih (listed.setIfInBounds j true) a' w' (by simpa using hsz) ?_ ?_ ?_
      · have : (List.range ops.size).countP (fun i => !(listed.setIfInBounds j true).getD i false) < (List.range ops.size).countP (fun i => !listed.getD i false) := by
          refine countP_lt _ (fun i _ h => ?_) ⟨j, List.mem_range.2 hjs, by simp [hDj], by simp [hD']⟩
          rw [hD'] at h
          simp only [Bool.not_or, Bool.and_eq_true] at h
          exact h.1
        omega
      · intro i o' e h1 h2 h3 h4
        rw [hD'] at h1 ⊢
        simp only [Bool.or_eq_true, decide_eq_true_eq] at h1 ⊢
        rcases h1 with h1 | rfl
        · exact .inl (hcl i o' e h1 h2 h3 h4)
        · rw [ho] at h2; cases h2
          exact .inl (hrdy e h3 h4)
      · have := StepTo.trans k2 k3 k4 st'
        refine this.congr (fun t => ?_) fun b => ?_
        · exact slots_congr ops R S0.A t ops.size fun i hi hd => by simp [hD'] at hd
        · exact heap_congr R S0.H b ops.size fun i hi hd => by simp [hD'] at hd
    unfold wpOp
    rw [ho]
    simp only
    cases hw : Region.wanted o (yielded ops a.tmps) with
    | true => simp only [if_true]; exact .inl (main.1 hw)
    | false => simp only [Bool.false_eq_true, if_false]; exact main.2 hw

/-- The trace of a region, operation by operation. -/
def TraceX (P : Program) (tb : List TI) (gl : List (Nat × List AV)) (fid : FuncId) (n : Nat) (ops : Array Oper) : List Oper → St → St → List OpR → Prop
  | [], S, S', R => S' = S ∧ R = []
  | o :: l, S, S', R => ∃ r S1 R1, StepX P tb gl fid ops S o r ∧ putO n o r S = some S1 ∧ TraceX P tb gl fid n ops l S1 S' R1 ∧ R = r :: R1
theorem traceX_of (hcall : CallOk P gl call) (hent : Enters P call) : ∀ (l : List Oper) (S S' : St) (R : List OpR), evTrace tb cfg gl call fid n ops l S = some (S', R) → TraceX P tb gl fid n ops l S S' R
  | [], S, S', R, h => by simp only [evTrace] at h; cases h; exact ⟨rfl, rfl⟩
  | o :: l, S, S', R, h => by
    simp only [evTrace] at h
    split at h
    · rename_i x hx
      split at h
      · rename_i S1 hp
        split at h
        · rename_i S2 xs hxs
          cases h
          exact ⟨x, S1, xs, ⟨cfg, call, hcall, hent, hx⟩, hp, traceX_of hcall hent l S1 _ _ hxs, rfl⟩
        · cases h
      · cases h
    · cases h
theorem traceX_spec (S0 : St) (R : List OpR) : ∀ (l : List Oper) (k : Nat) (S S' : St) (rs : List OpR), TraceX P tb gl fid n ops l S S' rs → (∀ i, l[i]? = ops[k + i]?) → (∀ i, rs[i]? = R[k + i]?) → S = stAt ops R (fun _ => true) S0 k →
    S' = stAt ops R (fun _ => true) S0 (k + l.length) ∧ ∀ j o, k ≤ j → ops[j]? = some o → ∃ r, R[j]? = some r ∧ StepX P tb gl fid ops (stAt ops R (fun _ => true) S0 j) o r ∧ ∀ d, o.dst = some d → d < n
  | [], k, S, S', rs, h, hl, hr, hS => by
    obtain ⟨rfl, rfl⟩ := h
    refine ⟨hS, fun j o hj ho => ?_⟩
    have := hl (j - k)
    rw [show k + (j - k) = j by omega, ho] at this
    cases this
  | o :: l, k, S, S', rs, h, hl, hr, hS => by
    obtain ⟨x, S1, xs, hx, hS1, hxs, rfl⟩ := h
    have ho : ops[k]? = some o := by have := hl 0; simpa using this.symm
    have hrk : R[k]? = some x := by have := hr 0; simpa using this.symm
    have hd : ∀ d, o.dst = some d → d < n := by
      intro d hd
      unfold putO setDst at hS1
      rw [hd] at hS1
      simp only at hS1
      by_cases hdn : d < n
      · exact hdn
      · rw [if_neg hdn] at hS1; cases hS1
    have h1 : S1 = stAt ops R (fun _ => true) S0 (k + 1) := by
      unfold putO setDst at hS1
      subst hS
      simp only [stAt, slotsAt, heapAt, if_true, ho, hrk, updA, updH]
      cases hdd : o.dst with
      | none => rw [hdd] at hS1; simp only at hS1; cases hS1; rfl
      | some d =>
        rw [hdd] at hS1
        simp only [if_pos (hd d hdd)] at hS1
        cases hS1; rfl
    obtain ⟨k1, k2⟩ := traceX_spec S0 R l (k + 1) S1 _ _ hxs (fun i => by have := hl (i + 1); simp only [List.getElem?_cons_succ] at this; rw [this]; congr 1; omega)
      (fun i => by have := hr (i + 1); simp only [List.getElem?_cons_succ] at this; rw [this]; congr 1; omega) h1
    refine ⟨by rw [k1, List.length_cons]; congr 1; omega, fun j o' hj ho' => ?_⟩
    by_cases e : j = k
    · subst e
      rw [ho] at ho'; cases ho'
      exact ⟨x, hrk, by rw [← hS]; exact hx, hd⟩
    · exact k2 j o' (by omega) ho'

theorem drawX_good (hP : TbOk P tb) (hm : P.follows .mixedOrders = true) {g : Gh} {S S' : St} {R : List OpR} {a : Act} {w : World} (hS : StOk gl n g S a w)
    (htr : TraceX P tb gl fid n ops ops.toList S S' R) (hord : orderOk S ops R = true) {id : Nat} {Q : Exit → Act → World → Prop} (hQ : ∀ a' w', StepTo gl n g S w S' a' w' → Q .normal a' w') : (Code.region id ops true).wp P Q a w := by
  obtain ⟨e1, e2⟩ := traceX_spec S R ops.toList 0 S S' R htr (fun i => by simp) (fun i => by simp) rfl
  have e3 : S' = stAt ops R (fun _ => true) S ops.size := by rw [e1]; simp
  simp only [orderOk, List.all_eq_true, List.mem_range, Bool.and_eq_true] at hord
  refine wp_region_any hm (draw_any hP (fun j o ho => e2 j o (Nat.zero_le _) ho) (fun j hj => ⟨(hord j hj).1.2, (hord j hj).2⟩) (fun j o ho e he hb => ?_) (fun a' w' st => hQ a' w' (by rw [e3]; exact st))
    ops.size _ a _ (by simp) (by simpa using List.countP_le_length (p := fun i => !(Array.replicate ops.size false).getD i false) (l := List.range ops.size)) (fun j o e hj => ?_) ?_)
  · have hjs := (Array.getElem?_eq_some_iff.1 ho).1
    have := (hord j hjs).1.1
    unfold edgesOk at this
    rw [ho] at this
    simp only [List.all_eq_true] at this
    have := this e (by simpa using he)
    simpa [hb] using this
  · by_cases hjs : j < ops.size <;> simp [hjs] at hj
  · refine ⟨g, ⟨(hS.wc.drew (Drew.drew w)).congr fun b => ?_, fun t => ?_, hS.size, hS.defers, hS.glob⟩, (Ctx.drew (Drew.drew w) g S.H).congr fun b => ?_, Keep.refl _ _, ?_⟩
    · exact heap_congr R (D' := fun _ => false) S.H b ops.size (fun i hi hd => by simp [hi] at hd) |>.trans (heap_none R S.H ops.size b)
    · have : getA (stAt ops R (fun i => (Array.replicate ops.size false).getD i false) S ops.size).A t = getA S.A t :=
        slots_congr ops R (D' := fun _ => false) S.A t ops.size (fun i hi hd => by simp [hi] at hd) |>.trans (slots_none ops R S.A ops.size t)
      rw [this]; exact hS.vals t
    · exact heap_congr R (D' := fun _ => false) S.H b ops.size (fun i hi hd => by simp [hi] at hd) |>.trans (heap_none R S.H ops.size b)
    · intro e _ h
      have : find (stAt ops R (fun i => (Array.replicate ops.size false).getD i false) S ops.size).H e = find S.H e :=
        heap_congr R (D' := fun _ => false) S.H e ops.size (fun i hi hd => by simp [hi] at hd) |>.trans (heap_none R S.H ops.size e)
      rw [this]; exact h
where
  heap_none (R : List OpR) (H : Heap) : ∀ k b, find (heapAt R (fun _ => false) H k) b = find H b
    | 0, _ => rfl
    | k + 1, b => heap_none R H k b
  slots_none (ops : Array Oper) (R : List OpR) (A : Slots) : ∀ k t, getA (slotsAt ops R (fun _ => false) A k) t = getA A t
    | 0, _ => rfl
    | k + 1, t => slots_none ops R A k t
theorem evDraw_good (hP : TbOk P tb) (hcall : CallOk P gl call) (hent : Enters P call) (hm : P.follows .mixedOrders = true) {g : Gh} {S S' : St} {a : Act} {w : World} (hS : StOk gl n g S a w)
    (h : evDraw tb cfg gl call fid n ops S = some S') {id : Nat} {Q : Exit → Act → World → Prop} (hQ : ∀ a' w', StepTo gl n g S w S' a' w' → Q .normal a' w') : (Code.region id ops true).wp P Q a w := by
  unfold evDraw at h
  split at h
  · cases h
  · rename_i S1 R htr
    split at h
    · rename_i hord
      cases h
      exact drawX_good hP hm hS (traceX_of hcall hent _ _ _ _ htr) hord hQ
    · cases h
end

end Go.Proofs.Ytbckfbohbjhffaa.AE
