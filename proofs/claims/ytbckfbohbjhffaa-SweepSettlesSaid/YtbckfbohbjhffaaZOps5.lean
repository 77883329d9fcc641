/- Values made of parts; stores; new objects. No condition. -/
import Derived.Test.YtbckfbohbjhffaaZOps4
import Derived.Laws.Tables
set_option linter.unusedVariables false
set_option linter.unusedSimpArgs false
namespace Go.Proofs.Ytbckfbohbjhffaa.AE
open Go

theorem zero_some {P : Program} {t : TypeId} {ti : TI} (h : TyFacts P t ti) (hz : ti.zero.isEmpty = false) : ∃ i z, P.info? t = some i ∧ i.zero = some z ∧ ti.size = i.size ∧ ti.zero = z.cells.toList.map ofCell := by
  obtain ⟨i, d, h1, h2, h3, _, _, h5, _⟩ := h.ex
  cases hi : i.zero with
  | none => rw [h5, hi] at hz; simp [zeroCellsOf] at hz
  | some z => exact ⟨i, z, h1, hi, h3, by rw [h5, hi]; rfl⟩

theorem mapM_sizes {P : Program} {tb : List TI} (hP : TbOk P tb) : ∀ (fs : List Field), (∀ f ∈ fs, ∃ s, tsize tb f.type = some s) →
    ∃ pl, fs.mapM (fun f => (P.info? f.type).map fun i => (f.offset, i.size)) = some pl ∧ ∀ k : Nat, pl[k]? = (fs[k]?).bind fun f => (tsize tb f.type).map fun s => (f.offset, s)
  | [], _ => ⟨[], by simp, by simp⟩
  | f :: fs, h => by
    obtain ⟨s, hs⟩ := h f (by simp)
    obtain ⟨pl, h1, h2⟩ := mapM_sizes hP fs fun x hx => h x (by simp [hx])
    obtain ⟨ti, hti, rfl⟩ := tsize_some hP hs
    obtain ⟨i, d, k1, k2, k3, _⟩ := (hP.facts hti).ex
    refine ⟨(f.offset, i.size) :: pl, by simp [List.mapM_cons, k1, h1], fun k => ?_⟩
    cases k with
    | zero => simp [hs, k3]
    | succ k => simpa using h2 k

theorem run_evBuild {P : Program} {tb : List TI} (hP : TbOk P tb) {g : Gh} {w : World} {t : TypeId} {parts : List (Nat × AV)} {r : AV} (h : evBuild tb t parts = some r) {vparts : Array (Nat × Value)} (hp : PV g parts vparts.toList) :
    ∃ u, (Instr.build t vparts).run P w = .ok u w ∧ V g r u := by
  unfold evBuild at h
  split at h
  · cases h
  rename_i ti hti
  split at h
  · cases h
  rename_i hze
  obtain ⟨i, z, h1, h2, h3, h4⟩ := zero_some (hP.facts hti) (by simpa using hze)
  have hz : VL g ti.zero z.cells.toList := by rw [h4]; exact VL_ofCell g _
  obtain ⟨d', k1, k2⟩ := (hP.facts hti).under
  split at h
  · rename_i fs hd
    split at h
    · cases h
    rename_i hsz
    rw [hd] at k2
    obtain ⟨fields, rfl, rfl⟩ := ofDesc_struct k2
    have hall : ∀ f ∈ fields.toList, ∃ s, tsize tb f.type = some s := by
      intro f hf
      cases hq : tsize tb f.type with
      | some s => exact ⟨s, rfl⟩
      | none => exact (hsz (by simp only [List.any_eq_true]; exact ⟨(f.offset, f.type), List.mem_map.2 ⟨f, hf, rfl⟩, by simp [hq]⟩)).elim
    obtain ⟨pl, m1, m2⟩ := mapM_sizes hP fields.toList hall
    cases hr : fillL (fun i => ((fields.toList.map fun f => (f.offset, f.type))[i]?).bind fun (f : Nat × TypeId) => (tsize tb f.2).map fun s => (f.1, s)) ti.zero parts with
    | none => rw [hr] at h; cases h
    | some cells =>
      rw [hr] at h; cases h
      have hplace : (fun i => ((fields.toList.map fun f => (f.offset, f.type))[i]?).bind fun (f : Nat × TypeId) => (tsize tb f.2).map fun s => (f.1, s)) = (fun i : Nat => pl.toArray[i]?) := by
        funext i
        rw [List.getElem?_toArray, m2 i, List.getElem?_map]
        cases fields.toList[i]? <;> rfl
      rw [hplace] at hr
      obtain ⟨out, o1, o2, o3⟩ := run_fill hp hz hr
      refine ⟨.agg out, run_build w t vparts out ?_, ⟨out, rfl, o2⟩⟩
      unfold Program.built
      simp only [h1, k1, h2, m1, o1]
  · rename_i n e hd
    split at h
    · rename_i s hs
      rw [hd] at k2
      cases ofDesc_array k2
      cases hr : fillL (fun i => some (i * s, s)) ti.zero parts with
      | none => rw [hr] at h; cases h
      | some cells =>
        rw [hr] at h; cases h
        obtain ⟨out, o1, o2, o3⟩ := run_fill hp hz hr
        obtain ⟨te, hte, rfl⟩ := tsize_some hP hs
        obtain ⟨ie, _, q1, _, q3, _⟩ := (hP.facts hte).ex
        refine ⟨.agg out, run_build w t vparts out ?_, ⟨out, rfl, o2⟩⟩
        unfold Program.built
        simp only [h1, k1, h2, q1, ← q3, o1]
    · cases h
  · cases h

theorem flatten_get (l : List AV) (hl : l ≠ []) : ∀ (n i : Nat), (List.replicate n l).flatten[i]? = if i < n * l.length then l[i % l.length]? else none
  | 0, i => by simp
  | n + 1, i => by
    have hpos : 0 < l.length := List.length_pos_iff.2 hl
    rw [List.replicate_succ, List.flatten_cons, List.getElem?_append]
    split
    · rename_i h
      rw [if_pos (by rw [Nat.add_mul]; omega), Nat.mod_eq_of_lt h]
    · rename_i h
      have h' : l.length ≤ i := by omega
      rw [flatten_get l hl n (i - l.length)]
      have : (i - l.length) % l.length = i % l.length := by rw [Nat.mod_eq_sub_mod h']
      rw [this]
      have e : (i - l.length < n * l.length) ↔ i < (n + 1) * l.length := by rw [Nat.add_mul]; omega
      simp only [e]

theorem chunk_length (agg : Bool) (s : Nat) : ∀ (n : Nat) (cs : List AV), (chunk agg s n cs).length = n
  | 0, _ => rfl
  | n + 1, cs => by simp [chunk, chunk_length agg s n]
theorem cellsOf_ok {a : AV} (h : cellOk a = true) : cellsOf a = [a] := by cases a <;> simp_all [cellOk, cellsOf]
theorem chunk_cells {agg : Bool} {s : Nat} (hs : agg = true ∨ s = 1) : ∀ (n : Nat) (cs : List AV), cs.length = n * s → (∀ c ∈ cs, cellOk c = true) →
    (chunk agg s n cs).flatMap cellsOf = cs ∧ ∀ e ∈ chunk agg s n cs, (cellsOf e).length = s
  | 0, cs, hl, _ => by
    simp at hl; subst hl; simp [chunk]
  | n + 1, cs, hl, hc => by
    rw [Nat.add_mul] at hl
    obtain ⟨k1, k2⟩ := chunk_cells hs n (cs.drop s) (by simp; omega) (fun c hcm => hc c (List.mem_of_mem_drop hcm))
    simp only [chunk, List.flatMap_cons, k1, List.mem_cons]
    cases agg with
    | true =>
      refine ⟨by simp [cellsOf], fun e he => ?_⟩
      rcases he with rfl | he
      · simp [cellsOf]; omega
      · exact k2 e he
    | false =>
      have hs1 : s = 1 := by rcases hs with h | h; cases h; exact h
      subst hs1
      cases cs with
      | nil => simp at hl
      | cons c r =>
        have hcc := cellsOf_ok (hc c (by simp))
        simp only [List.headD_cons, List.drop_succ_cons, List.drop_zero, Bool.false_eq_true, if_false]
        refine ⟨by rw [hcc]; rfl, fun e he => ?_⟩
        rcases he with rfl | he
        · rw [hcc]; rfl
        · exact k2 e (by simpa using he)

theorem cleanL_length : ∀ cs : List AV, (cleanL cs).length = cs.length
  | [] => rfl
  | c :: r => by simp [cleanL, cleanL_length r]
theorem stillL_all {cs : List AV} (h : stillL cs = true) : ∀ c ∈ cs, cellOk c = true := by
  simp only [stillL, Bool.and_eq_true, List.all_eq_true] at h
  exact h.2
theorem fillL_length {place : Nat → Option (Nat × Nat)} : ∀ {parts : List (Nat × AV)} {cells r : List AV}, fillL place cells parts = some r → r.length = cells.length
  | [], cells, r, h => by cases h; rfl
  | (i, v) :: parts, cells, r, h => by
    simp only [fillL] at h
    split at h
    · cases h
    · split at h
      · cases h
      · rw [fillL_length h, setRange_length]

/-- A new row that nobody writes, told as a slice. -/
theorem slice_of_pin {g : Gh} {c : Nat} {agg : Bool} {s n cap : Nat} {cs : List AV} {tok : Tok} (hs : agg = true ∨ s = 1) (hl : cs.length = n * s) (hst : stillL cs = true) (hcap : n ≤ cap)
    (hp : ∀ i a, cs[i]? = some a → g.Γ c i a) (ht : TokOk g n c 0 cap tok) : V g (.slice tok s (chunk agg s n cs)) (.slice (some ⟨c, 0, none⟩) n cap) := by
  obtain ⟨k1, k2⟩ := chunk_cells hs n cs hl (stillL_all hst)
  simp only [V]
  refine .inr ⟨c, 0, cap, by rw [chunk_length], by rw [chunk_length]; exact hcap, k2, ?_, by rw [chunk_length]; exact ht⟩
  rw [k1]
  intro i a ha
  rw [Nat.zero_add]; exact hp i a ha

theorem good_buildSlice {P : Program} {tb : List TI} (hP : TbOk P tb) {g : Gh} {H : Heap} {a : Act} {w : World} {F : Oid → Prop} {o : Oper} (hw : WC g H w) {t : TypeId} {len : Nat} {parts : List (Nat × AV)} {r : AV}
    (h : evBuildSlice tb t len parts = some r) {vparts : Array (Nat × Value)} (hp : PV g parts vparts.toList)
    (hex : execOp a.eval o = vOf (Instr.buildSlice t len vparts)) : OpGood P g H a w F o { v := r } := by
  unfold evBuildSlice at h
  split at h
  · rename_i e hd
    obtain ⟨_, _, _, d', h1, h2⟩ := descOf_some hP hd
    cases ofDesc_slice h2
    split at h
    · rename_i te hte
      split at h
      · cases h
      rename_i hcond
      have c1 : ¬ len * te.size > 16777216 := fun x => hcond (.inl x)
      have c2 : te.zero.length = te.size := Decidable.byContradiction fun x => hcond (.inr (.inl x))
      have c3 : te.size ≠ 0 := fun x => hcond (.inr (.inr (.inl x)))
      have c4 : te.agg = true ∨ te.size = 1 := by
        cases ha : te.agg with
        | true => exact .inl rfl
        | false => exact .inr (Decidable.byContradiction fun x => hcond (.inr (.inr (.inr ⟨ha, x⟩))))
      have hze : te.zero.isEmpty = false := by
        cases hq : te.zero with
        | nil => rw [hq] at c2; simp at c2; omega
        | cons x y => rfl
      obtain ⟨i, z, k1, k2, k3, k4⟩ := zero_some (hP.facts hte) hze
      split at h
      · rename_i cells hcells
        split at h
        · rename_i hst
          cases h
          have hzl : z.cells.size = te.size := by rw [← c2, k4]; simp
          have hz0 : VL g (List.replicate len te.zero).flatten ((Array.range (len * te.size)).map (fun j => (if len * te.size = 0 then (#[] : Array Value) else z.cells)[j % (if len * te.size = 0 then (#[] : Array Value) else z.cells).size]!)).toList := by
            refine VL.of_get (by simp [c2]) fun j x v hx hv => ?_
            rw [flatten_get _ (by intro hq; rw [hq] at hze; simp at hze)] at hx
            split at hx
            · rename_i hj
              rw [c2] at hx hj
              simp only [Array.toList_map, Array.toList_range, List.getElem?_map, List.getElem?_range hj, Option.map_some, Option.some.injEq] at hv
              rw [if_neg (by omega), hzl] at hv
              subst hv
              rw [k4, List.getElem?_map, Array.getElem?_toList] at hx
              have hmod : j % te.size < z.cells.size := by rw [hzl]; exact Nat.mod_lt _ (by omega)
              rw [Array.getElem?_eq_getElem hmod] at hx
              simp only [Option.map_some, Option.some.injEq] at hx
              subst hx
              rw [getElem!_pos z.cells _ hmod]
              exact V_ofCell g _
            · cases hx
          obtain ⟨out, o1, o2, o3⟩ := run_fill (place := fun i => some (i * te.size, te.size)) hp hz0 hcells
          have hcl := VL.clean cells _ o2
          have hlen : (cleanL cells).length = len * te.size := by rw [cleanL_length, fillL_length hcells]; simp [c2]
          obtain ⟨n1, n2⟩ := hw.newPin (cleanL cells) out e (by rw [List.take_of_length_le (by rw [← hcl.length]; exact Nat.le_refl _)]; exact hcl) hst
          refine OpGood.value (v := .slice (some ⟨w.heap.size, 0, none⟩) len len) (w' := w.alloc (.cells out e)) (g' := g.pinAt w.heap.size (cleanL cells)) ?_ ⟨?_, n1, Keep.pinAt hw _ _, n2⟩
          · rw [hex]
            refine run_v ?_
            unfold Instr.buildSlice
            simp only [run_bind2, run_under h1, Result.andThen_ok, (hP.facts hte).size]
            rw [if_neg c1]
            by_cases hz : len * te.size = 0
            · simp only [if_pos hz] at o1 ⊢
              simp only [run_bind2, run_pure2, Result.andThen_ok]
              rw [o1]; rfl
            · simp only [if_neg hz] at o1 ⊢
              simp only [run_bind2, run_zero k1 k2, run_pure2, Result.andThen_ok]
              rw [o1]; rfl
          · exact slice_of_pin c4 hlen hst (Nat.le_refl _) (fun i a ha => by simp only [Gh.pinAt, if_true]; exact ha) rfl
        · cases h
      · cases h
    · cases h
  · cases h

/-! ### stores -/
theorem V.keepTok {g : Gh} (o : Oid) (j : Nat) {a : AV} {v : Value} (h : V g a v) : V g (keepTok o j a) v := by
  unfold AE.keepTok
  split
  · split
    · exact h
    · exact V.clean _ _ h
  · exact V.clean _ _ h
theorem VL.keepToks {g : Gh} (o : Oid) : ∀ {as : List AV} {vs : List Value} (j : Nat), VL g as vs → VL g (AE.keepToks o j as) vs
  | [], _, _, h => h
  | a :: as, _, j, h => by
    obtain ⟨v, vs, rfl, h1, h2⟩ := h
    exact ⟨v, vs, rfl, V.keepTok o j h1, VL.keepToks o (j + 1) h2⟩
theorem keepToks_length (o : Oid) : ∀ (as : List AV) (j : Nat), (keepToks o j as).length = as.length
  | [], _ => rfl
  | a :: as, j => by simp [keepToks, keepToks_length o as]
theorem all_cellOk {g : Gh} : ∀ {as : List AV} {vs : List Value}, VL g as vs → as.all cellOk = true → ∀ v ∈ vs, v.oneCell' = true
  | [], _, h, _, v, hv => by simp [VL] at h; subst h; simp at hv
  | a :: as, _, h, hc, v, hv => by
    obtain ⟨u, us, rfl, h1, h2⟩ := h
    simp only [List.all_cons, Bool.and_eq_true] at hc
    rcases List.mem_cons.1 hv with rfl | hv
    · exact h1.one hc.1
    · exact all_cellOk h2 hc.2 v hv
theorem noUndef_of_cells {a : AV} (h : (cellsOf a).all cellOk = true) : noUndef a = true := by cases a <;> simp_all [cellsOf, cellOk, noUndef]

theorem good_store {P : Program} {tb : List TI} (hP : TbOk P tb) {g : Gh} {G H : Heap} {a : Act} {w : World} {F : Oid → Prop} {o : Oper} (hw : WC g H w) {t : TypeId} {ad x : AV} {r : OpR}
    (h : evStore tb G t ad x = some r) (hag : Agree r G H) {vad vx : Value} (ha : V g ad vad) (hx : V g x vx) (hex : execOp a.eval o = (do Instr.storeAt t vad vx; Pure.pure Next.skip : Sem Next)) : OpGood P g H a w F o r := by
  unfold evStore at h
  split at h
  · rename_i ti b off hti
    split at h
    · rename_i cs hbG
      split at h
      · rename_i hcond
        obtain ⟨c1, c2, c3, c4⟩ := hcond
        cases h
        have hb : find H b = some (.cells true cs) := by rw [← hag b ⟨b, by simp, rfl⟩]; exact hbG
        obtain ⟨c, hc, rfl⟩ := ha
        obtain ⟨c', vs, e, k1, k2, k3, k4⟩ := hw.objs b _ hb
        rw [hc] at k1; cases k1
        have hcl := hx.cells (noUndef_of_cells c4)
        have hsz : vx.cells.size = ti.size := by rw [← c1, ← hcl.length]; simp
        have hvs : vs.size = cs.length := by rw [← k3.length]; simp
        have hrow := run_storeCells_at (P := P) c off e vx.cells.toList 0 vs w k2 (by rw [hvs]; simpa [hcl.length] using c2) (all_cellOk hcl c4)
        have hv' : VL g (setRange cs off (keepToks b off (cellsOf x))) (vs.toList.take off ++ vx.cells.toList ++ vs.toList.drop (off + vx.cells.toList.length)).toArray.toList := by
          have := VL.setRange (VL.keepToks b off hcl) off k3 (by rw [keepToks_length]; exact c2)
          simpa using this
        obtain ⟨n1, n2⟩ := hw.store hb hc k2 k4 _ hv'
        refine OpGood.skip (w' := _) (g' := g) ?_ ⟨?_, n1, Keep.refl _ _, n2⟩
        · rw [hex, run_bind2]
          unfold Instr.storeAt storeVar
          simp only [run_bind2, Instr.sureAddr, run_pure2, Result.andThen_ok, (hP.facts hti).size]
          rw [if_neg (by simp [hsz])]
          rw [hrow]
          simp only [Result.andThen_ok, Nat.add_zero]
        · exact ⟨#[], rfl, rfl⟩
      · cases h
    · cases h
  · cases h

/-! ### new objects -/
theorem VL.growCells {g : Gh} (o : Oid) : ∀ (l : List (Nat × Nat)) (cs : List AV) (ts : List (Oid × Ob)) {vs : List Value}, VL g cs vs →
    VL g (l.foldl (fun (r : List AV × List (Oid × Ob)) (js : Nat × Nat) => match r.1[js.1]? with
      | some .nils => (r.1.set js.1 (.slice (.buf (.cl o js.1)) js.2 []), r.2 ++ [(.cl o js.1, .buf js.2 0)])
      | _ => r) (cs, ts)).1 vs
  | [], cs, ts, vs, h => h
  | js :: l, cs, ts, vs, h => by
    rw [List.foldl_cons]
    split
    · rename_i hn
      refine VL.growCells o l _ _ ?_
      refine VL.of_get (by simp [h.length]) fun i x v hx hv => ?_
      rw [List.getElem?_set] at hx
      split at hx
      · rename_i e
        subst e
        split at hx
        · cases hx
          obtain ⟨u, k1, k2⟩ := h.get _ _ hn
          rw [k1] at hv; cases hv
          simp only [V] at k2 ⊢
          exact .inl ⟨.inl k2, trivial⟩
        · cases hx
      · obtain ⟨u, k1, k2⟩ := h.get i x hx
        rw [k1] at hv; cases hv; exact k2
    · exact VL.growCells o l cs ts h
theorem growCells_toks (o : Oid) : ∀ (l : List (Nat × Nat)) (cs : List AV) (ts : List (Oid × Ob)), (∀ x ∈ ts, ∃ j s, x = (.cl o j, .buf s 0)) →
    ∀ x ∈ (l.foldl (fun (r : List AV × List (Oid × Ob)) (js : Nat × Nat) => match r.1[js.1]? with
      | some .nils => (r.1.set js.1 (.slice (.buf (.cl o js.1)) js.2 []), r.2 ++ [(.cl o js.1, .buf js.2 0)])
      | _ => r) (cs, ts)).2, ∃ j s, x = (.cl o j, .buf s 0)
  | [], cs, ts, h => h
  | js :: l, cs, ts, h => by
    rw [List.foldl_cons]
    split
    · refine growCells_toks o l _ _ ?_
      intro x hx
      rcases List.mem_append.1 hx with hx | hx
      · exact h x hx
      · simp at hx; subst hx; exact ⟨_, _, rfl⟩
    · exact growCells_toks o l cs ts h

mutual
theorem refs_clean : ∀ a : AV, refs (clean a) = refs a
  | .slice tok s es => by cases tok <;> rfl
  | .fn f a b => by simp only [clean, refs, refsL_clean a, refsL_clean b]
  | .iface t v => by simp only [clean, refs, refs_clean v]
  | .agg cs => by simp only [clean, refs, refsL_clean cs]
  | .tuple vs => by simp only [clean, refs, refsL_clean vs]
  | .undef => rfl
  | .bool _ => rfl
  | .int _ _ => rfl
  | .str _ => rfl
  | .nilp => rfl
  | .ptr _ _ => rfl
  | .pin _ => rfl
  | .nils => rfl
  | .mref _ _ _ _ _ => rfl
  | .nilm => rfl
  | .mapr _ => rfl
  | .nilf => rfl
  | .nili => rfl
theorem refsL_clean : ∀ as : List AV, refsL (cleanL as) = refsL as
  | [] => rfl
  | a :: as => by simp only [cleanL, refsL, refs_clean a, refsL_clean as]
end
mutual
theorem toks_clean : ∀ a : AV, toks (clean a) = []
  | .slice tok s es => by cases tok <;> rfl
  | .fn f a b => by simp only [clean, toks, toksL_clean a, toksL_clean b]; rfl
  | .iface t v => by simp only [clean, toks, toks_clean v]
  | .agg cs => by simp only [clean, toks, toksL_clean cs]
  | .tuple vs => by simp only [clean, toks, toksL_clean vs]
  | .undef => rfl
  | .bool _ => rfl
  | .int _ _ => rfl
  | .str _ => rfl
  | .nilp => rfl
  | .ptr _ _ => rfl
  | .pin _ => rfl
  | .nils => rfl
  | .mref _ _ _ _ _ => rfl
  | .nilm => rfl
  | .mapr _ => rfl
  | .nilf => rfl
  | .nili => rfl
theorem toksL_clean : ∀ as : List AV, toksL (cleanL as) = []
  | [] => rfl
  | a :: as => by simp only [cleanL, toksL, toks_clean a, toksL_clean as]; rfl
end

theorem good_box {P : Program} {g : Gh} {H : Heap} {a : Act} {w : World} {o : Oper} (hw : WC g H w) {d : Nat} (hd : ClearH d H) {acc : List (Nat × Nat)} {cs : List AV} {r : OpR}
    (h : evBox acc d cs = some r) {vs : Array Value} (hv : VL g cs vs.toList) (e : TypeId)
    (hex : (execOp a.eval o).run P w = .ok (.value (.pointer (some ⟨w.heap.size, 0, none⟩))) (w.alloc (.cells vs e))) : OpGood P g H a w (fun x => rooted d x = true) o r := by
  unfold evBox at h
  simp only at h
  split at h
  · cases h
  rename_i hr
  cases h
  have hoff : OffL (fun x => rooted d x = true) (cleanL cs) := by
    refine ⟨fun b hb => ?_, by simp [toksL_clean]⟩
    rw [refsL_clean] at hb
    intro hroot
    refine hr (List.any_eq_true.2 ⟨b, hb, ?_⟩)
    simpa [rooted] using hroot
  obtain ⟨g', k1, k2, k3, k4⟩ := hw.newObj hd (growCells (.loc d) acc (cleanL cs)).1 vs e (growCells (.loc d) acc (cleanL cs)).2
    (growCells_toks (.loc d) acc (cleanL cs) [] (by simp))
    (fun g' hk _ => VL.growCells (.loc d) acc (cleanL cs) [] (hk.VL hoff (VL.clean cs _ hv)))
  exact OpGood.value hex ⟨k1, k2, k3, k4⟩

end Go.Proofs.Ytbckfbohbjhffaa.AE
