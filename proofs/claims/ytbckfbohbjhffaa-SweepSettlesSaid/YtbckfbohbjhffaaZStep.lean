/- One operation after the other, in the order of the text. No condition. -/
import Derived.Test.YtbckfbohbjhffaaZOp
set_option linter.unusedVariables false
set_option linter.unusedSimpArgs false
namespace Go.Proofs.Ytbckfbohbjhffaa.AE
open Go

structure StOk (gl : List (Nat × List AV)) (n : Nat) (g : Gh) (S : St) (a : Act) (w : World) : Prop where
  wc : WC g S.H w
  vals : ∀ t, V g (getA S.A t) (a.tmps.getD t undef)
  size : a.tmps.size = n
  defers : a.defers = []
  glob : ∀ x ∈ gl, Pinned g x.1 0 x.2

theorem StOk.eval {gl : List (Nat × List AV)} {n : Nat} {g : Gh} {S : St} {a : Act} {w : World} (h : StOk gl n g S a w) (x : Operand) : V g (evalA gl S.A x) (a.eval x) := by
  cases x with
  | tmp t => exact h.vals t
  | const v => exact V_ofVal g v
  | global i =>
    simp only [evalA]
    split
    · rename_i cs hf
      exact ⟨i, 0, rfl, h.glob _ (find_mem hf)⟩
    · trivial
  | func f => exact ⟨#[], #[], rfl, rfl, rfl⟩

def Inv (gl : List (Nat × List AV)) (n : Nat) (w0 : World) (g0 : Gh) (H0 : Heap) (S : St) (a : Act) (w : World) : Prop :=
  ∃ g, StOk gl n g S a w ∧ Ctx w0 g0 H0 g S.H w ∧ Keep (fun b => ¬ IsExt b) g0 g ∧ Pers H0 S.H

/-! ### what is stripped speaks of nothing there -/
mutual
theorem refs_strip (p : Oid → Bool) : ∀ (a : AV), ∀ b ∈ refs (strip p a), p b = false
  | .ptr b off => by simp only [strip]; split <;> simp_all [refs]
  | .mref b s o l c => by simp only [strip]; split <;> simp_all [refs]
  | .mapr b => by simp only [strip]; split <;> simp_all [refs]
  | .slice tok s es => by
    cases tok with
    | buf b => simp only [strip]; split <;> simp [refs]
    | none => simp [strip, refs]
    | full => simp [strip, refs]
  | .fn f a b => by
    simp only [strip, refs, List.mem_append]
    intro x hx
    exact hx.elim (refsL_strip p a x) (refsL_strip p b x)
  | .iface t v => by simp only [strip, refs]; exact refs_strip p v
  | .agg cs => by simp only [strip, refs]; exact refsL_strip p cs
  | .tuple vs => by simp only [strip, refs]; exact refsL_strip p vs
  | .undef => by simp [strip, refs]
  | .bool _ => by simp [strip, refs]
  | .int _ _ => by simp [strip, refs]
  | .str _ => by simp [strip, refs]
  | .nilp => by simp [strip, refs]
  | .pin _ => by simp [strip, refs]
  | .nils => by simp [strip, refs]
  | .nilm => by simp [strip, refs]
  | .nilf => by simp [strip, refs]
  | .nili => by simp [strip, refs]
theorem refsL_strip (p : Oid → Bool) : ∀ (as : List AV), ∀ b ∈ refsL (stripL p as), p b = false
  | [] => by simp [stripL, refsL]
  | a :: as => by
    simp only [stripL, refsL, List.mem_append]
    intro x hx
    exact hx.elim (refs_strip p a x) (refsL_strip p as x)
end
mutual
theorem toks_strip (p : Oid → Bool) : ∀ (a : AV), ∀ b ∈ toks (strip p a), p b = false
  | .ptr b off => by simp only [strip]; split <;> simp_all [toks]
  | .mref b s o l c => by simp only [strip]; split <;> simp_all [toks]
  | .mapr b => by simp only [strip]; split <;> simp_all [toks]
  | .slice tok s es => by
    cases tok with
    | buf b => simp only [strip]; split <;> simp_all [toks]
    | none => simp [strip, toks]
    | full => simp [strip, toks]
  | .fn f a b => by
    simp only [strip, toks, List.mem_append]
    intro x hx
    exact hx.elim (toksL_strip p a x) (toksL_strip p b x)
  | .iface t v => by simp only [strip, toks]; exact toks_strip p v
  | .agg cs => by simp only [strip, toks]; exact toksL_strip p cs
  | .tuple vs => by simp only [strip, toks]; exact toksL_strip p vs
  | .undef => by simp [strip, toks]
  | .bool _ => by simp [strip, toks]
  | .int _ _ => by simp [strip, toks]
  | .str _ => by simp [strip, toks]
  | .nilp => by simp [strip, toks]
  | .pin _ => by simp [strip, toks]
  | .nils => by simp [strip, toks]
  | .nilm => by simp [strip, toks]
  | .nilf => by simp [strip, toks]
  | .nili => by simp [strip, toks]
theorem toksL_strip (p : Oid → Bool) : ∀ (as : List AV), ∀ b ∈ toksL (stripL p as), p b = false
  | [] => by simp [stripL, toksL]
  | a :: as => by
    simp only [stripL, toksL, List.mem_append]
    intro x hx
    exact hx.elim (toks_strip p a x) (toksL_strip p as x)
end

theorem find_purge (d : Nat) (S : St) (b : Oid) : find (purge d S).H b = if rooted d b then none else (find S.H b).map (Ob.strip (rooted d)) := by
  simp only [purge]
  rw [find_map (Ob.strip (rooted d)), find_filter (fun x : Oid × Ob => !rooted d x.1) (fun b => !rooted d b) (fun _ => rfl)]
  cases rooted d b <;> simp
theorem purge_less (d : Nat) (S : St) : Less S.H (purge d S).H := by
  refine ⟨fun b ob' hb => ?_⟩
  rw [find_purge] at hb
  split at hb
  · cases hb
  · cases hf : find S.H b with
    | none => rw [hf] at hb; cases hb
    | some ob => rw [hf] at hb; cases hb; exact ⟨ob, _, rfl, rfl⟩
theorem getA_purge (d : Nat) (S : St) (t : Nat) : getA (purge d S).A t = strip (rooted d) (getA S.A t) := by
  simp only [getA, purge]
  rw [find_map (strip (rooted d))]
  cases find S.A t <;> rfl
theorem Ob.refs_strip (p : Oid → Bool) (ob : Ob) : ∀ y ∈ (ob.strip p).refs ++ (ob.strip p).toks, p y = false := by
  intro y hy
  cases ob with
  | cells wr cs =>
    simp only [Ob.strip, Ob.refs, Ob.toks, List.mem_append] at hy
    exact hy.elim (refsL_strip p cs y) (toksL_strip p cs y)
  | buf s n => simp [Ob.strip, Ob.refs, Ob.toks] at hy
  | map es =>
    simp only [Ob.strip, Ob.refs, Ob.toks, List.mem_append, List.mem_flatMap, List.mem_map] at hy
    rcases hy with ⟨e, ⟨e0, _, rfl⟩, hy⟩ | ⟨e, ⟨e0, _, rfl⟩, hy⟩
    · exact hy.elim (AE.refs_strip p _ y) (AE.refs_strip p _ y)
    · exact hy.elim (toks_strip p _ y) (toks_strip p _ y)
theorem purge_clear (d : Nat) (S : St) : ClearH d (purge d S).H := by
  refine ⟨fun b hb => by rw [find_purge, if_pos hb], fun x ob hf y hy => ?_⟩
  rw [find_purge] at hf
  split at hf
  · cases hf
  · cases hq : find S.H x with
    | none => rw [hq] at hf; cases hf
    | some ob0 => rw [hq] at hf; cases hf; exact Ob.refs_strip _ ob0 y hy
theorem clear_spec {d : Nat} {S : St} (h : clear S d = true) : ClearH d S.H ∧ ∀ t, t ≠ d → Off (fun b => rooted d b = true) (getA S.A t) := by
  simp only [clear, Bool.and_eq_true, List.all_eq_true] at h
  obtain ⟨h1, h2⟩ := h
  refine ⟨⟨fun b hb => ?_, fun x ob hf y hy => ?_⟩, fun t ht => ?_⟩
  · cases hf : find S.H b with
    | none => rfl
    | some ob =>
      have := h2 _ (find_mem hf)
      simp only [Bool.not_eq_true'] at this
      rw [this.1.1] at hb; cases hb
  · have := h2 _ (find_mem hf)
    simp only [Bool.not_eq_true', List.any_eq_false] at this
    rcases List.mem_append.1 hy with hy | hy
    · simpa using this.1.2 y hy
    · simpa using this.2 y hy
  · unfold getA
    cases hf : find S.A t with
    | none => exact ⟨by simp [refs], by simp [toks]⟩
    | some v =>
      have := h1 _ (find_mem hf)
      simp only [Bool.or_eq_true, decide_eq_true_eq, Bool.and_eq_true, Bool.not_eq_true', List.any_eq_false] at this
      rcases this with h3 | ⟨h3, h4⟩
      · exact (ht h3).elim
      · exact ⟨fun b hb => by simpa using h3 b hb, fun b hb => by simpa using h4 b hb⟩

theorem map_fresh {x : Option AV} {r : OpR} (h : x.map (fun v => ({ v } : OpR)) = some r) : r.fresh = false := by
  cases x with
  | none => cases h
  | some v => cases h; rfl
theorem map_fresh2 {x : Option AV} {r : OpR} (f : AV → OpR) (hf : ∀ v, (f v).fresh = false) (h : x.map f = some r) : r.fresh = false := by
  cases x with
  | none => cases h
  | some v => cases h; exact hf v
def boolOf : Option Value → Option Bool
  | some (.bool b) => some b
  | _ => none
theorem evOp_fresh {P : Program} {tb : List TI} {cfg : Cfg} {call : CallF} {fid : FuncId} {ρ : Operand → AV} {H : Heap} {o : Oper} {r : OpR} (h : evOp tb cfg call fid ρ H o = some r) (hf : r.fresh = true) (hnc : isCallV o.op = false) (H' : Heap) :
    evOp tb cfg call fid ρ H' o = some r ∧ ∃ d, o.dst = some d := by
  unfold evOp at h ⊢
  simp only at h ⊢
  split at h
  · cases h; cases hf
  · rename_i x hop
    split at h
    · rename_i d hd
      exact ⟨h, d, hd⟩
    · cases h
  · split at h
    · cases h; cases hf
    · cases h
  · split at h
    · rename_i ti d hti hd
      exact ⟨h, d, hd⟩
    · cases h
  · split at h
    · rename_i s d hs hd
      exact ⟨h, d, hd⟩
    · cases h
  · rw [map_fresh h] at hf; cases hf
  · rw [map_fresh h] at hf; cases hf
  · -- load
    unfold evLoad at h
    split at h
    · rw [map_fresh h] at hf; cases hf
    · split at h
      · rw [map_fresh2 _ (fun _ => rfl) h] at hf; cases hf
      · cases h
    · cases h
  · -- store
    unfold evStore at h
    split at h
    · split at h
      · split at h
        · cases h; cases hf
        · cases h
      · cases h
    · cases h
  · split at h <;> first | (cases h; cases hf; done) | (cases h; done)
  · rw [map_fresh h] at hf; cases hf
  · rw [map_fresh h] at hf; cases hf
  · rw [map_fresh h] at hf; cases hf
  · split at h
    · cases h; cases hf
    · cases h
  · rw [map_fresh h] at hf; cases hf
  · rw [map_fresh h] at hf; cases hf
  · rw [map_fresh h] at hf; cases hf
  · rw [map_fresh h] at hf; cases hf
  · rw [map_fresh h] at hf; cases hf
  · split at h
    · rw [map_fresh h] at hf; cases hf
    · cases h
  · -- call
    rename_i c hop
    split at h
    · rename_i x hcal
      rw [hop] at hnc
      simp [isCallV, hcal] at hnc
    · split at h
      · split at h <;> first | (cases h; cases hf; done) | (cases h; done)
      · cases h
    · -- append
      split at h
      · rename_i d t u tr s x xr hd hat hax
        refine ⟨?_, d, hd⟩
        unfold evAppend at h ⊢
        split at h
        · split at h
          · cases h
          · split at h
            · cases h
            · rename_i hc
              rw [if_neg hc]
              split at h
              · exact h
              · exact h
              · split at h
                · cases h
                · split at h
                  · split at h
                    · cases h; cases hf
                    · cases h
                  · cases h
              · cases h
        · cases h
      · cases h
    · rw [map_fresh h] at hf; cases hf
    · rw [map_fresh h] at hf; cases hf
    · cases h
  · cases h

theorem evCall_fresh {ro : FuncId → Bool} {call : CallF} {dst : Option Nat} {H : Heap} {f : FuncId} {args : List AV} {r : OpR} (h : evCall ro call dst H f args = some r) (hf : r.fresh = true) : ∃ d, dst = some d := by
  unfold evCall at h
  split at h
  · cases h
  split at h
  · cases h
  split at h
  · split at h
    · split at h
      · split at h
        · cases h; cases hf
        · cases h
      · cases h
    · split at h
      · rename_i r0 H2 hc
        split at h
        · rename_i ids _ _ _ _ _ _ _ _ _ _ _ _ r' ws _ _
          cases h
          cases ha : adopt dst ids r0 H2 ws with
          | none => rw [ha] at hf; cases hf
          | some ra =>
            obtain ⟨d, _, _, _, _, hd, _⟩ := adopt_some ha
            exact ⟨d, hd⟩
        · cases h
      · cases h
  · cases h
theorem fresh_dst {P : Program} {tb : List TI} {cfg : Cfg} {call : CallF} {fid : FuncId} {ρ : Operand → AV} {H : Heap} {o : Oper} {r : OpR} (h : evOp tb cfg call fid ρ H o = some r) (hf : r.fresh = true) : ∃ d, o.dst = some d := by
  cases hnc : isCallV o.op with
  | false => exact (evOp_fresh (P := P) h hf hnc H).2
  | true =>
    unfold isCallV at hnc
    split at hnc
    · rename_i c hop
      split at hnc
      · rename_i x hcal
        unfold evOp at h
        simp only [hop, hcal] at h
        split at h
        · obtain ⟨d, hd⟩ := evCall_fresh h hf
          exact ⟨d, adoptAt_some hd⟩
        · cases h
      · cases hnc
    · cases hnc

/-! ### one step -/
theorem getD_put {a : Act} {d t : Nat} {v : Value} (hd : d < a.tmps.size) : (a.put (some d) v).tmps.getD t undef = if d = t then v else a.tmps.getD t undef := by
  simp only [Act.put, Array.getD_eq_getD_getElem?, Array.getElem?_setIfInBounds]
  split
  · rename_i e; subst e; simp [hd]
  · rfl
theorem put_size (a : Act) (dst : Option Nat) (v : Value) : (a.put dst v).tmps.size = a.tmps.size := by cases dst <;> simp [Act.put]
theorem put_defers (a : Act) (dst : Option Nat) (v : Value) : (a.put dst v).defers = a.defers := by cases dst <;> simp [Act.put]

/-- The slots behind a step. -/
theorem vals_put {g : Gh} {A A' : Slots} {a : Act} {n : Nat} (hn : a.tmps.size = n) {dst : Option Nat} {av : AV} {v : Value} (hs : setDst n dst av A = some A') (hv : V g av v)
    (hA : ∀ t, dst ≠ some t → V g (getA A t) (a.tmps.getD t undef)) (t : Nat) : V g (getA A' t) ((a.put dst v).tmps.getD t undef) := by
  cases dst with
  | none => simp only [setDst] at hs; cases hs; exact hA t (by simp)
  | some d =>
    simp only [setDst] at hs
    split at hs
    · rename_i hd
      cases hs
      rw [getA_put, getD_put (by omega)]
      by_cases e : d = t
      · rw [if_pos e, if_pos e]; exact hv
      · rw [if_neg e, if_neg e]; exact hA t (by simp; exact e)
    · cases hs

theorem pers_insAll (H : Heap) (ws : List (Oid × Ob)) : Pers H (insAll H ws) := by
  intro e _ h
  rw [find_insAll]
  cases find ws e <;> simp_all
theorem pers_purge (d : Nat) (S : St) : Pers S.H (purge d S).H := by
  rintro e ⟨i, hi⟩ h
  rw [find_purge, if_neg (by simp [rooted, hi])]
  cases hf : find S.H e with
  | none => rw [hf] at h; cases h
  | some ob => rfl
theorem Pers.trans {H H' H'' : Heap} (h : Pers H H') (k : Pers H' H'') : Pers H H'' := fun e he h1 => k e he (h e he h1)
theorem rooted_notExt {d : Nat} {b : Oid} (h : rooted d b = true) : ¬ IsExt b := by
  rintro ⟨i, hi⟩
  simp [rooted, hi] at h

/-- What one operation does, from a state to the next. -/
def StepTo (gl : List (Nat × List AV)) (n : Nat) (g : Gh) (S : St) (w : World) (S' : St) (a' : Act) (w' : World) : Prop :=
  ∃ g', StOk gl n g' S' a' w' ∧ Ctx w g S.H g' S'.H w' ∧ Keep (fun b => ¬ IsExt b) g g' ∧ Pers S.H S'.H

theorem wanted_spec {g : Gh} {A : Slots} {a : Act} (hv0 : ∀ t, V g (getA A t) (a.tmps.getD t undef)) {ops : Array Oper} {o : Oper} : ∀ b, evWanted ops A o = some b → Region.wanted o (yielded ops a.tmps) = b := by
  intro b hb
  unfold evWanted at hb
  unfold Region.wanted
  split at hb
  · rename_i hg; rw [hg]; cases hb; rfl
  · rename_i j want hg
    rw [hg]
    simp only
    split at hb
    · rename_i oj hoj
      split at hb
      · rename_i t ht
        have hv := hv0 t
        have hy : yielded ops a.tmps j = boolOf a.tmps[t]? := by
          unfold yielded
          rw [hoj]
          simp only [Option.bind_some, ht]
          cases a.tmps[t]? with
          | none => rfl
          | some u => cases u <;> rfl
        rw [hy]
        split at hb
        · rename_i x hx
          cases hb
          rw [hx] at hv
          simp only [V] at hv
          have : a.tmps[t]? = some (.bool x) := by
            rw [Array.getD_eq_getD_getElem?] at hv
            cases hq : a.tmps[t]? with
            | none => rw [hq] at hv; simp [undef] at hv
            | some u => rw [hq] at hv; simp at hv; rw [hv]
          rw [this]
          cases x <;> cases want <;> rfl
        · rename_i hx
          cases hb
          rw [hx] at hv
          obtain ⟨y, hy2, hl⟩ := hv
          have : boolOf a.tmps[t]? = none := by
            rw [Array.getD_eq_getD_getElem?] at hy2
            cases hq : a.tmps[t]? with
            | none => rfl
            | some u => rw [hq] at hy2; simp at hy2; rw [hy2]; rfl
          rw [this]; rfl
        · cases hb
      · cases hb
    · cases hb

theorem evStep_good {P : Program} {tb : List TI} {cfg : Cfg} {call : CallF} (hP : TbOk P tb) {gl : List (Nat × List AV)} (hcall : CallOk P gl call) (hent : Enters P call) {n : Nat} {g : Gh} {S S' : St} {a : Act} {w : World}
    (hS : StOk gl n g S a w) {fid : FuncId} {ops : Array Oper} {o : Oper} {r : OpR} (h : evStep tb cfg gl call fid n ops S o = some (S', r)) (next : Act → World → Prop) (Q : Exit → Act → World → Prop)
    (hn : ∀ a' w', StepTo gl n g S w S' a' w' → next a' w') :
    (Region.wanted o (yielded ops a.tmps) = true → o.wp P a w next Q) ∧ (Region.wanted o (yielded ops a.tmps) = false → next (a.put o.dst undef) w) := by
  have hwant := wanted_spec hS.vals (ops := ops) (o := o)
  unfold evStep at h
  split at h
  · cases h
  · -- not wanted
    rename_i hw0
    have hwt := hwant _ hw0
    refine ⟨fun h1 => by (rw [hwt] at h1; cases h1), fun _ => ?_⟩
    cases hs : setDst n o.dst (.tuple []) S.A with
    | none => rw [hs] at h; cases h
    | some A =>
      rw [hs] at h; cases h
      exact hn _ _ ⟨g, ⟨hS.wc, vals_put hS.size hs ⟨#[], rfl, rfl⟩ (fun t _ => hS.vals t), by rw [put_size]; exact hS.size, by rw [put_defers]; exact hS.defers, hS.glob⟩, Ctx.refl _ _ _, Keep.refl _ _, fun _ _ h => h⟩
  · rename_i hw0
    have hwt := hwant _ hw0
    refine ⟨fun _ => ?_, fun h1 => by (rw [hwt] at h1; cases h1)⟩
    split at h
    · cases h
    rename_i r0 hop
    -- the state ahead of the operation
    obtain ⟨S1, g1, hS1, hS1A, hk1, hc1, hp1, hclr, hop1, hset⟩ : ∃ (S1 : St) (g1 : Gh), WC g1 S1.H w ∧ (∀ t, o.dst ≠ some t → V g1 (getA S1.A t) (a.tmps.getD t undef) ∧ Off (Fr r0 o) (getA S1.A t)) ∧ Keep (fun _ => False) g g1 ∧ Ctx w g S.H g1 S1.H w ∧ Pers S.H S1.H ∧
        (r0.fresh = true → ∃ d, o.dst = some d ∧ ClearH d S1.H) ∧ evOp tb cfg call fid (evalA gl S.A) S1.H o = some r0 ∧
        (setDst n o.dst r0.v S1.A).map (fun A => ((⟨A, insAll S1.H r0.ws⟩ : St), r0)) = some (S', r) := by
      by_cases hfr : r0.fresh = true
      · rw [if_pos hfr] at h
        obtain ⟨d, hd⟩ := fresh_dst (P := P) hop hfr
        rw [hd] at h
        simp only at h
        by_cases hcl : clear S d = true
        · rw [if_pos hcl, if_neg (by simp [hcl])] at h
          obtain ⟨c1, c2⟩ := clear_spec hcl
          refine ⟨S, g, hS.wc, fun t ht => ⟨hS.vals t, ?_⟩, Keep.refl _ _, Ctx.refl _ _ _, fun _ _ h => h, fun _ => ⟨d, hd, c1⟩, hop, by rw [hd]; exact h⟩
          have hne : t ≠ d := fun e => ht (by rw [hd, e])
          have hoff := c2 t hne
          exact ⟨fun b hb hF => hoff.1 b hb (by obtain ⟨_, d', h1, h2⟩ := hF; rw [hd] at h1; cases h1; exact h2), fun b hb hF => hoff.2 b hb (by obtain ⟨_, d', h1, h2⟩ := hF; rw [hd] at h1; cases h1; exact h2)⟩
        · have hnc : isCallV o.op = false := by
            cases hx : isCallV o.op with
            | false => rfl
            | true => rw [if_pos (by simp [hfr, hx, hcl])] at h; cases h
          rw [if_neg hcl, if_neg (by simp [hnc])] at h
          obtain ⟨l1, l2, l3⟩ := hS.wc.less (purge_less d S)
          refine ⟨purge d S, g.heap (purge d S).H, l1, fun t ht => ⟨?_, ?_⟩, l2, l3, pers_purge d S, fun _ => ⟨d, hd, purge_clear d S⟩, (evOp_fresh (P := P) hop hfr hnc _).1, by rw [hd]; exact h⟩
          · rw [getA_purge]
            exact V.strip _ _ _ (l2.V (Off.none _) (hS.vals t))
          · rw [getA_purge]
            refine ⟨fun b hb hF => ?_, fun b hb hF => ?_⟩
            · obtain ⟨_, d', h1, h2⟩ := hF
              rw [hd] at h1; cases h1
              rw [refs_strip _ _ b hb] at h2; cases h2
            · obtain ⟨_, d', h1, h2⟩ := hF
              rw [hd] at h1; cases h1
              rw [toks_strip _ _ b hb] at h2; cases h2
      · have hfr' : r0.fresh = false := by simpa using hfr
        rw [if_neg hfr, if_neg (by simp [hfr'])] at h
        exact ⟨S, g, hS.wc, fun t _ => ⟨hS.vals t, ⟨fun b _ hF => hfr hF.1, fun b _ hF => hfr hF.1⟩⟩, Keep.refl _ _, Ctx.refl _ _ _, fun _ _ h => h, fun hf => (hfr hf).elim, hop, h⟩
    have hρ : ∀ x, V g1 (evalA gl S.A x) (a.eval x) := fun x => hk1.V (Off.none _) (hS.eval x)
    refine evOp_good hP hcall hent (fun x hx => (hS.glob x hx).mono hk1.gam) hS1 hρ hop1 (Agree.refl _ _) hclr next Q fun v w' g' st => ?_
    have hFx : ∀ b, Fr r0 o b → ¬ IsExt b := fun b hF => by
      obtain ⟨_, d, _, h2⟩ := hF
      exact rooted_notExt h2
    cases hs : setDst n o.dst r0.v S1.A with
    | none => rw [hs] at hset; cases hset
    | some A =>
      rw [hs] at hset; cases hset
      refine hn _ _ ⟨g', ⟨st.wc, vals_put hS.size hs st.val (fun t ht => st.keep.V (hS1A t ht).2 (hS1A t ht).1), by rw [put_size]; exact hS.size, by rw [put_defers]; exact hS.defers, fun x hx => ?_⟩,
        hc1.trans st.ctx, (hk1.wider fun _ h => h.elim).trans (st.keep.wider hFx), hp1.trans (pers_insAll _ _)⟩
      exact ((hS.glob x hx).mono hk1.gam).mono st.keep.gam

end Go.Proofs.Ytbckfbohbjhffaa.AE
