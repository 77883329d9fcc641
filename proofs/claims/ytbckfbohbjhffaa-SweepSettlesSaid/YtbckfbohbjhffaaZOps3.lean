/- Operations that take values apart, and that read memory. No condition. -/
import Derived.Test.YtbckfbohbjhffaaZOps2
set_option linter.unusedVariables false
set_option linter.unusedSimpArgs false
namespace Go.Proofs.Ytbckfbohbjhffaa.AE
open Go

theorem add_eq (c off n : Nat) : (⟨c, off, none⟩ : Addr).add n = ⟨c, off + n, none⟩ := by
  unfold Addr.add
  split
  · rename_i h; subst h; rfl
  · rfl

theorem pinned_at {g : Gh} {c off s : Nat} {es : List AV} (h : Pinned g c off (es.flatMap cellsOf)) (hs : ∀ e ∈ es, (cellsOf e).length = s) {i : Nat} {e : AV} (he : es[i]? = some e) : Pinned g c (off + i * s) (cellsOf e) := by
  have := pinned_drop_take h hs (i + 1) i
  have h2 : (es.take (i + 1)).drop i = [e] := by
    obtain ⟨hi, rfl⟩ := List.getElem?_eq_some_iff.1 he
    have hlen : (es.take i).length = i := by simp; omega
    rw [List.take_succ_eq_append_getElem hi, List.drop_append, List.drop_of_length_le (by omega), hlen]
    simp
  rw [h2] at this
  simpa using this

theorem run_evIndexAddr {P : Program} {tb : List TI} (hP : TbOk P tb) {g : Gh} {w : World} {t : TypeId} {x i r : AV} (h : evIndexAddr tb t x i = some r) {vx vi : Value} (hx : V g x vx) (hi : V g i vi) :
    ∃ u, (Instr.indexAt t vx vi).run P w = .ok u w ∧ V g r u := by
  unfold evIndexAddr at h
  split at h
  · rename_i e tok sz es k n hd
    obtain ⟨_, _, _, d', h1, h2⟩ := descOf_some hP hd
    cases ofDesc_slice h2
    split at h
    · cases h
    rename_i hsz
    have hsz' : tsize tb e = some sz := by
      cases hq : tsize tb e with
      | none => rw [hq] at hsz; simp at hsz
      | some q => rw [hq] at hsz; simp at hsz; rw [hsz]
    split at h
    · rename_i hn
      cases he : es[n.toNat]? with
      | none => rw [he] at h; cases h
      | some el =>
        rw [he] at h; cases h
        simp only [V] at hi hx; subst hi
        rcases hx with ⟨_, rfl⟩ | ⟨c, off, cap, rfl, k1, k2, k3, k4⟩
        · simp at he
        · have hlt : n.toNat < es.length := (List.getElem?_eq_some_iff.1 he).1
          refine ⟨.pointer (some ⟨c, off + n.toNat * sz, none⟩), ?_, ⟨c, _, rfl, pinned_at k3 k2 he⟩⟩
          unfold Instr.indexAt
          simp only [asIntOf, run_bind2, run_pure2, Result.andThen_ok, run_under h1]
          rw [if_pos ⟨hn, by omega⟩]
          simp only [run_bind2, tsize_run hP hsz' w, Result.andThen_ok, run_pure2, add_eq]
    · cases h
  · rename_i e b sz off len cap k n hd
    obtain ⟨_, _, _, d', h1, h2⟩ := descOf_some hP hd
    cases ofDesc_slice h2
    split at h
    · cases h
    rename_i hsz
    have hsz' : tsize tb e = some sz := by
      cases hq : tsize tb e with
      | none => rw [hq] at hsz; simp at hsz
      | some q => rw [hq] at hsz; simp at hsz; rw [hsz]
    split at h
    · rename_i hn
      cases h
      simp only [V] at hi hx; subst hi
      obtain ⟨c, hc, rfl, _⟩ := hx
      refine ⟨.pointer (some ⟨c, off + n.toNat * sz, none⟩), ?_, ⟨c, hc, rfl⟩⟩
      unfold Instr.indexAt
      simp only [asIntOf, run_bind2, run_pure2, Result.andThen_ok, run_under h1]
      rw [if_pos hn]
      simp only [run_bind2, tsize_run hP hsz' w, Result.andThen_ok, run_pure2, add_eq]
    · cases h
  · rename_i len e b off k n hd
    obtain ⟨_, _, _, d', h1, h2⟩ := descOf_some hP hd
    cases ofDesc_array h2
    split at h
    · rename_i sz hsz'
      split at h
      · rename_i hn
        cases h
        simp only [V] at hi hx; subst hi
        obtain ⟨c, hc, rfl⟩ := hx
        refine ⟨.pointer (some ⟨c, off + n.toNat * sz, none⟩), ?_, ⟨c, hc, rfl⟩⟩
        unfold Instr.indexAt
        simp only [asIntOf, run_bind2, run_pure2, Result.andThen_ok, run_under h1, Instr.sureAddr]
        rw [if_pos hn]
        simp only [run_bind2, tsize_run hP hsz' w, Result.andThen_ok, run_pure2, add_eq]
      · cases h
    · cases h
  · rename_i len e cs k n hd
    obtain ⟨_, _, _, d', h1, h2⟩ := descOf_some hP hd
    cases ofDesc_array h2
    split at h
    · rename_i sz hsz'
      split at h
      · rename_i hn
        cases h
        simp only [V] at hi hx; subst hi
        obtain ⟨c, off, rfl, hp⟩ := hx
        refine ⟨.pointer (some ⟨c, off + n.toNat * sz, none⟩), ?_, ⟨c, _, rfl, ?_⟩⟩
        · unfold Instr.indexAt
          simp only [asIntOf, run_bind2, run_pure2, Result.andThen_ok, run_under h1, Instr.sureAddr]
          rw [if_pos hn]
          simp only [run_bind2, tsize_run hP hsz' w, Result.andThen_ok, run_pure2, add_eq]
        · intro i a ha
          rw [List.getElem?_drop] at ha
          have := hp _ a ha
          rwa [← Nat.add_assoc] at this
      · cases h
    · cases h
  · cases h

/-- Two heaps that hold the same where it was looked. -/
def Agree (r : OpR) (G H : Heap) : Prop := ∀ b, (∃ x ∈ r.rd, x.root = b.root) → find G b = find H b
theorem Agree.refl (r : OpR) (H : Heap) : Agree r H H := fun _ _ => rfl

/-- A part of a row of cells. -/
theorem run_takeCells {P : Program} {g : Gh} {w : World} {t : TypeId} {ti : TI} (ht : TyFacts P t ti) {cs : List AV} {off : Nat} {r : AV} (h : takeCells ti cs off = some r) {vs : Array Value} (hv : VL g cs vs.toList) :
    ∃ u, (part t vs off).run P w = .ok u w ∧ V g r u := by
  unfold takeCells at h
  unfold part
  simp only [run_bind2, ht.isAgg, Result.andThen_ok]
  split at h
  · rename_i ha
    rw [ha, if_pos rfl]
    split at h
    · rename_i hl
      cases h
      simp only [run_bind2, ht.size, Result.andThen_ok, run_pure2]
      refine ⟨_, rfl, ?_⟩
      simp only [V]
      refine ⟨_, rfl, ?_⟩
      have := (hv.drop off).take ti.size
      simpa [Array.toList_extract, List.extract_eq_take_drop] using this
    · cases h
  · rename_i ha
    have hf : ti.agg = false := by simpa using ha
    rw [hf]
    simp only [Bool.false_eq_true, if_false]
    obtain ⟨u, h1, h2⟩ := hv.get off r h
    rw [Array.getElem?_toList] at h1
    rw [h1]
    exact ⟨u, rfl, h2⟩

theorem run_evIndex {P : Program} {tb : List TI} (hP : TbOk P tb) {g : Gh} {w : World} {t : TypeId} {x i r : AV} (h : evIndex tb t x i = some r) {vx vi : Value} (hx : V g x vx) (hi : V g i vi) :
    ∃ u, (Instr.index t vx vi).run P w = .ok u w ∧ V g r u := by
  unfold evIndex at h
  split at h
  · rename_i len e cs k n hd
    obtain ⟨_, _, _, d', h1, h2⟩ := descOf_some hP hd
    cases ofDesc_array h2
    split at h
    · rename_i ti hti
      split at h
      · rename_i hn
        simp only [V] at hi hx; subst hi
        obtain ⟨y, rfl, hy⟩ := hx
        obtain ⟨u, k1, k2⟩ := run_takeCells (w := w) (hP.facts hti) h hy
        refine ⟨u, ?_, k2⟩
        unfold Instr.index
        simp only [asIntOf, run_bind2, run_pure2, Result.andThen_ok, run_under h1]
        rw [if_pos hn]
        simp only [run_bind2, (hP.facts hti).size, Result.andThen_ok]
        exact k1
      · cases h
    · cases h
  · rename_i s k n hd
    obtain ⟨_, _, _, d', h1, h2⟩ := descOf_some hP hd
    cases ofDesc_string h2
    split at h
    · rename_i hn
      cases he : s[n.toNat]? with
      | none => rw [he] at h; cases h
      | some b =>
        rw [he] at h; cases h
        simp only [V] at hi hx; subst hi hx
        refine ⟨.int .u8 b.toNat, ?_, rfl⟩
        unfold Instr.index
        simp only [asIntOf, run_bind2, run_pure2, Result.andThen_ok, run_under h1]
        rw [if_pos hn]
        have : (⟨s.toArray⟩ : ByteArray)[n.toNat]? = some b := by
          obtain ⟨hlt, rfl⟩ := List.getElem?_eq_some_iff.1 he
          rw [getElem?_pos (c := (⟨s.toArray⟩ : ByteArray)) (h := by simpa [ByteArray.size] using hlt)]
          rfl
        rw [this]; rfl
    · cases h
  · cases h

theorem fieldsOf_some {P : Program} {tb : List TI} (hP : TbOk P tb) {s : TypeId} {fs : List (Nat × TypeId)} (h : fieldsOf tb s = some fs) :
    ∃ fields, P.underlying s = some (.struct fields) ∧ ∀ (f off : Nat) (ft : TypeId), fs[f]? = some (off, ft) → ∃ fld, fields[f]? = some fld ∧ fld.offset = off ∧ fld.type = ft := by
  unfold fieldsOf at h
  split at h
  · rename_i l hd
    cases h
    obtain ⟨_, _, _, d', h1, h2⟩ := descOf_some hP hd
    obtain ⟨fields, rfl, rfl⟩ := ofDesc_struct h2
    refine ⟨fields, h1, fun f off ft hf => ?_⟩
    rw [List.getElem?_map] at hf
    cases hq : fields.toList[f]? with
    | none => rw [hq] at hf; cases hf
    | some fld =>
      rw [hq] at hf; cases hf
      exact ⟨fld, by rw [← Array.getElem?_toList]; exact hq, rfl, rfl⟩
  · cases h

theorem run_evFieldAddr {P : Program} {tb : List TI} (hP : TbOk P tb) {g : Gh} {w : World} {s : TypeId} {f : Nat} {x r : AV} (h : evFieldAddr tb s x f = some r) {v : Value} (hv : V g x v) :
    ∃ u, (Instr.fieldAt s v f).run P w = .ok u w ∧ V g r u := by
  unfold evFieldAddr at h
  split at h
  · cases h
  rename_i fs hfs
  obtain ⟨fields, h1, hff⟩ := fieldsOf_some hP hfs
  split at h
  · cases h
  rename_i off ft hf
  obtain ⟨fld, h2, rfl, rfl⟩ := hff f off ft hf
  split at h
  · cases h
  rename_i sz hsz
  split at h
  · cases h
  rename_i hnz
  have go : ∀ c o, (Instr.fieldAt s (.pointer (some ⟨c, o, none⟩)) f).run P w = .ok (.pointer (some ⟨c, o + fld.offset, none⟩)) w := by
    intro c o
    unfold Instr.fieldAt
    simp only [run_bind2, run_under h1, Result.andThen_ok, h2, Instr.sureAddr, run_pure2, fieldPlace, tsize_run hP hsz w]
    rw [if_neg hnz]
    simp only [run_pure2, Result.andThen_ok, add_eq]
  split at h
  · cases h
    obtain ⟨c, hc, rfl⟩ := hv
    exact ⟨_, go c _, ⟨c, hc, rfl⟩⟩
  · cases h
    obtain ⟨c, o, rfl, hp⟩ := hv
    refine ⟨_, go c o, ⟨c, _, rfl, ?_⟩⟩
    intro i a ha
    rw [List.getElem?_drop] at ha
    have := hp _ a ha
    rwa [← Nat.add_assoc] at this
  · cases h

theorem run_evField {P : Program} {tb : List TI} (hP : TbOk P tb) {g : Gh} {w : World} {s : TypeId} {f : Nat} {x r : AV} (h : evField tb s x f = some r) {v : Value} (hv : V g x v) :
    ∃ u, (Instr.field s v f).run P w = .ok u w ∧ V g r u := by
  unfold evField at h
  split at h
  · rename_i fs cs hfs
    obtain ⟨fields, h1, hff⟩ := fieldsOf_some hP hfs
    split at h
    · rename_i off ft hf
      obtain ⟨fld, h2, rfl, rfl⟩ := hff f off ft hf
      split at h
      · rename_i ti hti
        obtain ⟨y, rfl, hy⟩ := hv
        obtain ⟨u, k1, k2⟩ := run_takeCells (w := w) (hP.facts hti) h hy
        refine ⟨u, ?_, k2⟩
        unfold Instr.field
        simp only [run_bind2, run_under h1, Result.andThen_ok, h2, asAgg, run_pure2]
        exact k1
      · cases h
    · cases h
  · cases h

/-- A read at an address that nobody writes, or in an object. -/
theorem run_load_cells {P : Program} {g : Gh} {w : World} {t : TypeId} {ti : TI} (ht : TyFacts P t ti) {c off : Nat} {cs : List AV} {o : Nat} {r : AV} (h : takeCells ti cs o = some r)
    (hc : ∀ i a, cs[i]? = some a → ∃ v, w.cell? ⟨c, off + i, none⟩ = some v ∧ V g a v) :
    ∃ u, (Instr.loadAt t (.pointer (some ⟨c, off + o, none⟩))).run P w = .ok u w ∧ V g r u := by
  unfold takeCells at h
  unfold Instr.loadAt loadVar
  simp only [run_bind2, Instr.sureAddr, run_pure2, ht.isAgg, Result.andThen_ok]
  split at h
  · rename_i ha
    rw [ha, if_pos rfl]
    split at h
    · rename_i hl
      cases h
      have hcell : ∀ j, j < ti.size → ∃ v a, ((cs.drop o).take ti.size)[j]? = some a ∧ w.cell? ⟨c, off + o + j, none⟩ = some v ∧ V g a v := by
        intro j hj
        obtain ⟨v, h1, h2⟩ := hc (o + j) (cs[o + j]'(by omega)) (List.getElem?_eq_getElem _)
        exact ⟨v, _, by rw [List.getElem?_take, if_pos hj, List.getElem?_drop]; exact List.getElem?_eq_getElem _, by rw [Nat.add_assoc]; exact h1, h2⟩
      have hrun := run_loadCells (P := P) w ⟨c, off + o, none⟩ ti.size (fun j => (w.cell? ⟨c, off + o + j, none⟩).getD undef) (by
        intro j hj
        obtain ⟨v, a, _, h1, _⟩ := hcell j hj
        rw [add_eq, h1]; rfl)
      simp only [run_bind2, ht.size, Result.andThen_ok, hrun, run_pure2]
      refine ⟨_, rfl, ?_⟩
      simp only [V]
      refine ⟨_, rfl, ?_⟩
      refine VL.of_get (by simp; omega) fun j a v hja hjv => ?_
      have hj : j < ti.size := by
        rw [List.getElem?_take] at hja; split at hja; assumption; cases hja
      obtain ⟨v', a', h1, h2, h3⟩ := hcell j hj
      rw [h1] at hja; cases hja
      simp only [List.getElem?_map, List.getElem?_range hj, Option.map_some, Option.some.injEq] at hjv
      rw [h2] at hjv; simp at hjv; subst hjv
      exact h3
    · cases h
  · rename_i ha
    have hf : ti.agg = false := by simpa using ha
    rw [hf]
    simp only [Bool.false_eq_true, if_false]
    obtain ⟨v, h1, h2⟩ := hc o r h
    refine ⟨v, ?_, h2⟩
    show (load ⟨c, off + o, none⟩).run P w = _
    unfold load
    simp only [Sem.run, h1]

theorem run_evLoad {P : Program} {tb : List TI} (hP : TbOk P tb) {g : Gh} {G H : Heap} {w : World} (hw : WC g H w) {t : TypeId} {a : AV} {r : OpR} (h : evLoad tb G t a = some r) (hag : Agree r G H) {v : Value} (hv : V g a v) :
    (∃ u, (Instr.loadAt t v).run P w = .ok u w ∧ V g r.v u) ∧ r.ws = [] ∧ r.fresh = false := by
  unfold evLoad at h
  split at h
  · rename_i ti cs hti
    cases hk : takeCells ti cs 0 with
    | none => rw [hk] at h; cases h
    | some x =>
      rw [hk] at h; cases h
      obtain ⟨c, off, rfl, hp⟩ := hv
      refine ⟨?_, rfl, rfl⟩
      have := run_load_cells (P := P) (w := w) (g := g) (c := c) (off := off) (hP.facts hti) hk (fun i a ha => by
        obtain ⟨v, h1, h2, _⟩ := hw.pin c (off + i) a (hp i a ha)
        exact ⟨v, h1, h2⟩)
      simpa using this
  · rename_i ti b off hti
    split at h
    · rename_i wr cs hb
      cases hk : takeCells ti cs off with
      | none => rw [hk] at h; cases h
      | some x =>
        rw [hk] at h; cases h
        obtain ⟨c, hc, rfl⟩ := hv
        have hb' : find H b = some (.cells wr cs) := by rw [← hag b ⟨b, by simp, rfl⟩]; exact hb
        obtain ⟨c', vs, e, k1, k2, k3, k4⟩ := hw.objs b _ hb'
        rw [hc] at k1; cases k1
        refine ⟨?_, rfl, rfl⟩
        have := run_load_cells (P := P) (w := w) (g := g) (c := c) (off := 0) (hP.facts hti) hk (fun i a ha => by
          obtain ⟨v, h1, h2⟩ := k3.get i a ha
          rw [Array.getElem?_toList] at h1
          exact ⟨v, by rw [Nat.zero_add, cell_of_block k2]; exact h1, h2⟩)
        simpa using this
    · cases h
  · cases h

end Go.Proofs.Ytbckfbohbjhffaa.AE
