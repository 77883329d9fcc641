/- What comes in, as the evaluator takes it. No condition. -/
import Derived.Test.YtbckfbohbjhffaaZCode
import Derived.ChangeArms
import Derived.OpenShut
import Derived.Carry
set_option linter.unusedVariables false
set_option linter.unusedSimpArgs false
namespace Go.Proofs.Ytbckfbohbjhffaa.AE
open Go

/-! ### what lies in a world -/
mutual
inductive Lies (w : World) : Nat → Nat → AV → Prop
  | mk {c o : Nat} {a : AV} {v : Value} (h : w.cell? ⟨c, o, none⟩ = some v) (hc : cellOk a = true) (hs : Stands w a v) : Lies w c o a
inductive Stands (w : World) : AV → Value → Prop
  | bool (b : Bool) : Stands w (.bool b) (.bool b)
  | int (k : IntKind) (n : Int) : Stands w (.int k n) (.int k n)
  | str (s : List UInt8) : Stands w (.str s) (.string ⟨s.toArray⟩)
  | nilp : Stands w .nilp (.pointer none)
  | nils : Stands w .nils (.slice none 0 0)
  | pin {cs : List AV} {c off : Nat} (h : ∀ i a, cs[i]? = some a → Lies w c (off + i) a) : Stands w (.pin cs) (.pointer (some ⟨c, off, none⟩))
  | bareN (s : Nat) : Stands w (.slice .none s []) (.slice none 0 0)
  | bare (s : Nat) (a : Addr) (cap : Nat) : Stands w (.slice .none s []) (.slice (some a) 0 cap)
  | slice {s : Nat} {es : List AV} {c off cap : Nat} (hl : es.length ≤ cap) (he : ∀ e ∈ es, (cellsOf e).length = s) (h : ∀ i a, (es.flatMap cellsOf)[i]? = some a → Lies w c (off + i) a) :
    Stands w (.slice .none s es) (.slice (some ⟨c, off, none⟩) es.length cap)
end

def Gh.start (w : World) : Gh := { Γ := Lies w, μ := fun _ => none, tip := fun _ => none, bufc := fun _ => none }

theorem Stands.V {w : World} {a : AV} {v : Value} (h : Stands w a v) : AE.V (Gh.start w) a v := by
  cases h with
  | bool b => rfl
  | int k n => rfl
  | str s => rfl
  | nilp => rfl
  | nils => rfl
  | pin h => exact ⟨_, _, rfl, h⟩
  | bareN s => exact .inl ⟨.inl rfl, rfl⟩
  | bare s a cap => exact .inl ⟨.inr ⟨a, cap, rfl, .inl rfl⟩, rfl⟩
  | slice hl he h => exact .inr ⟨_, _, _, rfl, hl, he, h, trivial⟩
theorem Stands.plain {w : World} {a : AV} {v : Value} (h : Stands w a v) : refs a = [] ∧ toks a = [] := by
  cases h <;> exact ⟨rfl, rfl⟩
theorem start_wc (w : World) : WC (Gh.start w) [] w := by
  refine ⟨fun b => rfl, fun c o a h => ?_, fun b ob h => (by cases h), fun b b' ob ob' c h => (by cases h)⟩
  cases h with
  | mk h hc hs => exact ⟨_, h, hs.V, hs.plain.1, hs.plain.2, hc⟩

/-! ### data as the evaluator takes it -/
def litA : Lit → AV
  | .bool b => .bool b
  | .int k n => .int k n
  | .string s => .str s
  | _ => .undef
def sizeD (tb : List TI) (e : TypeId) : Nat := (tsize tb e).getD 0
def nilA (tb : List TI) : Option TD → AV
  | some (.ptr _) => .nilp
  | some (.slice e) => .slice .none (sizeD tb e) []
  | _ => .undef
def pack (tb : List TI) (e : TypeId) (cs : List AV) : AV :=
  match tb[e]? with
  | some ti => if ti.agg then .agg cs else cs.headD .undef
  | none => .undef
mutual
def avs {H : Type} (tb : List TI) (t : TypeId) : DataW H → List AV
  | .lit l => [litA l]
  | .nil => [nilA tb (descOf tb t)]
  | .ptr d => match descOf tb t with
    | some (.ptr e) => [.pin (avs tb e d)]
    | _ => [.undef]
  | .slice es _ => match descOf tb t with
    | some (.slice e) => [.slice .none (sizeD tb e) (packs tb e es)]
    | _ => [.undef]
  | .agg ds => match descOf tb t with
    | some (.struct fs) => fieldsA tb fs ds
    | some (.array _ e) => elemsA tb e ds
    | _ => [.undef]
  | _ => [.undef]
def packs {H : Type} (tb : List TI) (e : TypeId) : List (DataW H) → List AV
  | [] => []
  | d :: ds => pack tb e (avs tb e d) :: packs tb e ds
def elemsA {H : Type} (tb : List TI) (e : TypeId) : List (DataW H) → List AV
  | [] => []
  | d :: ds => avs tb e d ++ elemsA tb e ds
def fieldsA {H : Type} (tb : List TI) : List (Nat × TypeId) → List (DataW H) → List AV
  | (_, t) :: fs, d :: ds => avs tb t d ++ fieldsA tb fs ds
  | _, _ => []
end
/-- The argument itself. -/
def av {H : Type} (tb : List TI) (t : TypeId) (d : DataW H) : AV := pack tb t (avs tb t d)

/-- The fields lie one behind the other, from here on. -/
def consec (tb : List TI) : List (Nat × TypeId) → Nat → Nat → Bool
  | [], off, n => off == n
  | (o, t) :: fs, off, n => o == off && (match tsize tb t with | some s => consec tb fs (off + s) n | none => false)
/-- Types of whose data all is told. -/
def plainT (tb : List TI) (T : List TypeId) : Bool := T.all fun t =>
  match tb[t]? with
  | some ti => match ti.desc with
    | .bool => ti.size == 1 && !ti.agg
    | .int _ => ti.size == 1 && !ti.agg
    | .string => ti.size == 1 && !ti.agg
    | .ptr e => ti.size == 1 && !ti.agg && T.contains e && decide (0 < sizeD tb e)
    | .slice e => ti.size == 1 && !ti.agg && T.contains e && decide (0 < sizeD tb e)
    | .struct fs => ti.agg && fs.all (fun f => T.contains f.2) && consec tb fs 0 ti.size
    | .array n e => ti.agg && T.contains e && n * sizeD tb e == ti.size
    | _ => false
  | none => false

def All2 (w : World) (as : List AV) (cs : List Value) : Prop := as.length = cs.length ∧ ∀ (i : Nat) (a : AV), as[i]? = some a → ∃ v, cs[i]? = some v ∧ cellOk a = true ∧ Stands w a v
theorem All2.append {w : World} {as bs : List AV} {cs ds : List Value} (h : All2 w as cs) (k : All2 w bs ds) : All2 w (as ++ bs) (cs ++ ds) := by
  refine ⟨by simp [h.1, k.1], fun i a ha => ?_⟩
  by_cases hi : i < as.length
  · rw [List.getElem?_append_left hi] at ha
    obtain ⟨v, h1, h2⟩ := h.2 i a ha
    exact ⟨v, by rw [List.getElem?_append_left (by rw [← h.1]; exact hi)]; exact h1, h2⟩
  · rw [List.getElem?_append_right (by omega)] at ha
    obtain ⟨v, h1, h2⟩ := k.2 _ a ha
    exact ⟨v, by rw [List.getElem?_append_right (by rw [← h.1]; omega), ← h.1]; exact h1, h2⟩
theorem All2.one {w : World} {a : AV} {v : Value} (hc : cellOk a = true) (h : Stands w a v) : All2 w [a] [v] :=
  ⟨rfl, fun i x hx => by
    cases i with
    | zero => simp at hx; subst hx; exact ⟨v, rfl, hc, h⟩
    | succ i => simp at hx⟩
theorem All2.VL {w : World} {as : List AV} {cs : List Value} (h : All2 w as cs) : AE.VL (Gh.start w) as cs :=
  VL.of_get h.1.symm fun i a v ha hv => by
    obtain ⟨u, h1, _, h2⟩ := h.2 i a ha
    rw [h1] at hv; cases hv; exact h2.V

theorem cells_lie {w : World} {as : List AV} {cs : List Value} (h : All2 w as cs) {base n : Nat} {a : Addr} (hc : w.cells? base a n = some cs) (hs : a.spot = none) (i : Nat) (x : AV) (hx : as[i]? = some x) : Lies w a.block (a.off + i) x := by
  obtain ⟨_, h1, h2⟩ := World.cells?_some hc
  obtain ⟨v, k1, k2, k3⟩ := h.2 i x hx
  have hi : i < n := by rw [← h1]; exact (List.getElem?_eq_some_iff.1 k1).1
  have := h2 i hi
  rw [k1] at this
  refine .mk (v := v) ?_ k2 k3
  rw [← this]
  congr 1
  obtain ⟨b, o, s⟩ := a
  simp only at hs; subst hs
  exact (add_eq b o i).symm
theorem spot_none {w : World} {base n : Nat} {a : Addr} {cs : List Value} (hc : w.cells? base a n = some cs) (hn : 0 < n) : a.spot = none := by
  obtain ⟨_, h1, h2⟩ := World.cells?_some hc
  have h0 := h2 0 hn
  have : ∃ c, cs[0]? = some c := ⟨cs[0]'(by omega), List.getElem?_eq_getElem _⟩
  obtain ⟨c, hc0⟩ := this
  rw [hc0] at h0
  simp only [Addr.add, if_true] at h0
  unfold World.cell? at h0
  split at h0
  · split at h0
    · cases h0
    · rename_i hs; cases hq : a.spot with
      | none => rfl
      | some x => rw [hq] at hs; simp at hs
  · cases h0

theorem cellsOf_size {P : Program} {tb : List TI} (hP : TbOk P tb) {t : TypeId} {n : Nat} (h : tsize tb t = some n) : P.cellsOf t = n := by
  obtain ⟨ti, h1, rfl⟩ := tsize_some hP h
  obtain ⟨i, d, k1, k2, k3, _⟩ := (hP.facts h1).ex
  simp only [Program.cellsOf, k1, Option.map_some, Option.getD_some, k3]
theorem cellsOf_sizeD {P : Program} {tb : List TI} (hP : TbOk P tb) {t : TypeId} (h : 0 < sizeD tb t) : P.cellsOf t = sizeD tb t := by
  unfold sizeD at h ⊢
  cases hs : tsize tb t with
  | none => rw [hs] at h; simp at h
  | some n => exact cellsOf_size hP hs

section
variable {H : Type} {enc : TypeId × Value → H} {P : Program} {w : World} {base : Nat} {spare : Nat → Bool} {held : Bool} {tb : List TI} {T : List TypeId}

theorem pack_cells {t : TypeId} {ti : TI} (ht : tb[t]? = some ti) {as : List AV} (hl : as.length = ti.size) (h1 : ti.agg = false → ti.size = 1) (hc : ∀ a ∈ as, cellOk a = true) : cellsOf (pack tb t as) = as := by
  unfold pack
  rw [ht]
  simp only
  cases ha : ti.agg with
  | true => rfl
  | false =>
    simp only [Bool.false_eq_true, if_false]
    have := h1 ha
    match as, hl, hc with
    | [], hl, _ => simp at hl; omega
    | [a], _, hc =>
      have := hc a (by simp)
      simp only [List.headD_cons]
      cases a <;> first | rfl | cases this
    | _ :: _ :: _, hl, _ => simp at hl; omega

theorem plainT_get (hT : plainT tb T = true) {t : TypeId} (ht : t ∈ T) : ∃ ti, tb[t]? = some ti ∧ (ti.agg = false → ti.size = 1) := by
  have := List.all_eq_true.1 hT t ht
  split at this
  · rename_i ti h
    refine ⟨ti, h, fun ha => ?_⟩
    split at this <;> simp_all
  · cases this

/-- What is read of plain data is what the evaluator takes. -/
theorem trod_lies (hP : TbOk P tb) (hT : plainT tb T = true) : ∀ (fuel : Nat) (t : TypeId) (cs : List Value) (x : DataW H × List MemPlace), t ∈ T → DataW.trod enc P w base spare held fuel t cs = some x →
    All2 w (avs tb t x.1) cs ∧ (avs tb t x.1).length = sizeD tb t := by
  intro fuel
  induction fuel with
  | zero => intro t cs x _ h; simp [DataW.trod] at h
  | succ fuel ih =>
    intro t cs x ht h
    obtain ⟨ti, hti, hone⟩ := plainT_get hT ht
    have hck := List.all_eq_true.1 hT t ht
    rw [hti] at hck
    simp only at hck
    have hd : descOf tb t = some ti.desc := by simp [descOf, hti]
    have hsz : sizeD tb t = ti.size := by simp [sizeD, tsize, hti]
    obtain ⟨d', hu, hd'⟩ := (hP.facts hti).under
    cases hdesc : ti.desc with
    | bool =>
      rw [hdesc] at hck hd' hd
      simp only [Bool.and_eq_true, beq_iff_eq] at hck
      rw [ofDesc_bool hd'] at hu
      obtain ⟨b, rfl, rfl⟩ := DataW.trod_bool hu h
      exact ⟨.one rfl (.bool b), by rw [hsz, hck.1]; rfl⟩
    | int k =>
      rw [hdesc] at hck hd' hd
      simp only [Bool.and_eq_true, beq_iff_eq] at hck
      rw [ofDesc_int hd'] at hu
      obtain ⟨n, rfl, rfl, _⟩ := DataW.trod_int hu h
      exact ⟨.one rfl (.int k n), by rw [hsz, hck.1]; rfl⟩
    | string =>
      rw [hdesc] at hck hd' hd
      simp only [Bool.and_eq_true, beq_iff_eq] at hck
      rw [ofDesc_string hd'] at hu
      obtain ⟨s, rfl, rfl, _⟩ := DataW.trod_string hu h
      exact ⟨.one rfl (by have := Stands.str (w := w) s.data.toList; simpa [litA] using this), by rw [hsz, hck.1]; rfl⟩
    | ptr e =>
      rw [hdesc] at hck hd' hd
      simp only [Bool.and_eq_true, beq_iff_eq, decide_eq_true_eq] at hck
      obtain ⟨⟨⟨c1, c2⟩, c3⟩, c4⟩ := hck
      have he : e ∈ T := by simpa using c3
      rw [ofDesc_ptr hd'] at hu
      rcases DataW.trod_pointer hu h with ⟨rfl, rfl⟩ | ⟨a, cs', y, n, hn, rfl, rfl, hcs, hy⟩
      · simp only [avs, hd, nilA]
        exact ⟨.one rfl .nilp, by rw [hsz, c1]; rfl⟩
      · cases hn
        obtain ⟨k1, k2⟩ := ih e cs' y he hy
        have hpos : 0 < P.cellsOf e := by rw [cellsOf_sizeD hP c4]; exact c4
        have hs := spot_none hcs hpos
        simp only [avs, hd]
        refine ⟨.one rfl ?_, by rw [hsz, c1]; rfl⟩
        obtain ⟨b, o, s⟩ := a
        simp only at hs; subst hs
        exact .pin fun i a ha => cells_lie k1 hcs rfl i a ha
    | slice e =>
      rw [hdesc] at hck hd' hd
      simp only [Bool.and_eq_true, beq_iff_eq, decide_eq_true_eq] at hck
      obtain ⟨⟨⟨c1, c2⟩, c3⟩, c4⟩ := hck
      have he : e ∈ T := by simpa using c3
      obtain ⟨te, hte, hone'⟩ := plainT_get hT he
      have hste : sizeD tb e = te.size := by simp [sizeD, tsize, hte]
      have hce := cellsOf_sizeD hP c4
      rw [ofDesc_slice hd'] at hu
      rcases DataW.trod_slice hu h with ⟨rfl, rfl⟩ | ⟨a, len, cap, elems, rest, n, hn, rfl, rfl, _, hlc, _, hlen, hel, _, _⟩
      · simp only [avs, hd, nilA]
        exact ⟨.one rfl (.bareN _), by rw [hsz, c1]; rfl⟩
      · cases hn
        simp only [avs, hd]
        refine ⟨.one rfl ?_, by rw [hsz, c1]; rfl⟩
        -- each element
        have each : ∀ i, i < len → ∃ cs' y, w.cells? base (a.add (i * P.cellsOf e)) (P.cellsOf e) = some cs' ∧ elems[i]? = some y ∧ All2 w (avs tb e y.1) cs' ∧ (avs tb e y.1).length = sizeD tb e := by
          intro i hi
          have h1 := hel i hi
          have h2 : elems[i]? = some (elems[i]'(by omega)) := List.getElem?_eq_getElem _
          rw [h2, Option.bind_eq_some_iff] at h1
          obtain ⟨cs', k1, k2⟩ := h1
          obtain ⟨k3, k4⟩ := ih e cs' _ he k2
          exact ⟨cs', _, k1, h2, k3, k4⟩
        have hpk : ∀ (i : Nat) (y : DataW H × List MemPlace), elems[i]? = some y → cellsOf (pack tb e (avs tb e y.1)) = avs tb e y.1 ∧ (avs tb e y.1).length = sizeD tb e := by
          intro i y hy
          have hi : i < len := by rw [← hlen]; exact (List.getElem?_eq_some_iff.1 hy).1
          obtain ⟨cs', y', k1, k2, k3, k4⟩ := each i hi
          rw [hy] at k2; cases k2
          refine ⟨pack_cells hte (by rw [k4, hste]) hone' fun a ha => ?_, k4⟩
          obtain ⟨j, hj⟩ := List.getElem?_of_mem ha
          exact (k3.2 j a hj).choose_spec.2.1
        have hlp : ∀ ds : List (DataW H), (packs tb e ds).length = ds.length := by
          intro ds
          induction ds with
          | nil => rfl
          | cons d ds ih => simp [packs, ih]
        have hpm : ∀ ds : List (DataW H), packs tb e ds = ds.map fun d => pack tb e (avs tb e d) := by
          intro ds
          induction ds with
          | nil => rfl
          | cons d ds ih => simp [packs, ih]
        have hE : ∀ x ∈ packs tb e (elems.map (·.1)), (cellsOf x).length = sizeD tb e := by
          intro x hx
          rw [hpm, List.map_map] at hx
          obtain ⟨y, hy, rfl⟩ := List.mem_map.1 hx
          obtain ⟨i, hi⟩ := List.getElem?_of_mem hy
          obtain ⟨k1, k2⟩ := hpk i y hi
          simp only [Function.comp]
          rw [k1, k2]
        by_cases h0 : len = 0
        · subst h0
          have : elems = [] := List.length_eq_zero_iff.1 hlen
          subst this
          exact .bare _ a cap
        · have hs : a.spot = none := by
            obtain ⟨cs', y, k1, _⟩ := each 0 (by omega)
            have := spot_none k1 (by rw [hce]; exact c4)
            simpa [Addr.add] using this
          obtain ⟨b, o, s⟩ := a
          simp only at hs; subst hs
          have hL : (packs tb e (elems.map (·.1))).length = len := by rw [hlp, List.length_map, hlen]
          rw [← hL]
          refine .slice (by rw [hL]; exact hlc) hE fun i x hx => ?_
          -- the cell i lies in the element i / size
          have hflat : ∀ (es : List AV) (s : Nat), 0 < s → (∀ e ∈ es, (cellsOf e).length = s) → ∀ (i : Nat) (x : AV), (es.flatMap cellsOf)[i]? = some x → ∃ j k e', i = j * s + k ∧ es[j]? = some e' ∧ (cellsOf e')[k]? = some x := by
            intro es s hs0
            induction es with
            | nil => intro _ i x hx; simp at hx
            | cons e' es ihl =>
              intro hall i x hx
              have hl := hall e' (by simp)
              rw [List.flatMap_cons] at hx
              by_cases hi : i < s
              · rw [List.getElem?_append_left (by rw [hl]; exact hi)] at hx
                exact ⟨0, i, e', by simp, rfl, hx⟩
              · rw [List.getElem?_append_right (by rw [hl]; omega), hl] at hx
                obtain ⟨j, k, e2, k1, k2, k3⟩ := ihl (fun e he => hall e (by simp [he])) _ x hx
                exact ⟨j + 1, k, e2, by rw [Nat.add_mul, Nat.one_mul]; omega, by simpa using k2, k3⟩
          obtain ⟨j, k, e', rfl, k2, k3⟩ := hflat _ _ c4 hE i x hx
          rw [hpm, List.map_map, List.getElem?_map, Option.map_eq_some_iff] at k2
          obtain ⟨y, hy, rfl⟩ := k2
          have hjl : j < len := by rw [← hlen]; exact (List.getElem?_eq_some_iff.1 hy).1
          simp only [Function.comp] at k3
          rw [(hpk j y hy).1] at k3
          obtain ⟨cs', y', q1, q2, q3, q4⟩ := each j hjl
          rw [hy] at q2; cases q2
          have hadd : (⟨b, o, none⟩ : Addr).add (j * P.cellsOf e) = ⟨b, o + j * P.cellsOf e, none⟩ := add_eq b o _
          rw [hadd] at q1
          have := cells_lie q3 q1 rfl k x k3
          rw [← Nat.add_assoc, ← hce]
          exact this
    | struct fs =>
      rw [hdesc] at hck hd' hd
      simp only [Bool.and_eq_true, beq_iff_eq, List.all_eq_true] at hck
      obtain ⟨⟨c1, c2⟩, c3⟩ := hck
      obtain ⟨fs', e1, e2⟩ := ofDesc_struct hd'
      rw [e1] at hu
      obtain ⟨xs, n, hn, rfl, hlc, hxl, hf⟩ := DataW.trod_struct hu h
      cases hn
      simp only [avs, hd]
      have hsize : P.cellsOf t = ti.size := cellsOf_size hP (by simp [tsize, hti])
      have key : ∀ (l : List Field) (ys : List (DataW H × List MemPlace)) (off : Nat), ys.length = l.length → consec tb (l.map fun f => (f.offset, f.type)) off ti.size = true → (∀ f ∈ l, f.type ∈ T) →
          (∀ (i : Nat) (f : Field), l[i]? = some f → DataW.trod enc P w base spare held fuel f.type ((cs.drop f.offset).take (P.cellsOf f.type)) = ys[i]?) →
          All2 w (fieldsA tb (l.map fun f => (f.offset, f.type)) (ys.map (·.1))) (cs.drop off) ∧ (fieldsA tb (l.map fun f => (f.offset, f.type)) (ys.map (·.1))).length + off = ti.size := by
        intro l
        induction l with
        | nil =>
          intro ys off hl hco _ _
          simp only [List.map_nil, consec, beq_iff_eq] at hco
          have : ys = [] := List.length_eq_zero_iff.1 (by simpa using hl)
          subst this
          simp only [List.map_nil, fieldsA]
          refine ⟨⟨?_, fun i a ha => by simp at ha⟩, by simp [hco]⟩
          simp; omega
        | cons f l ihl =>
          intro ys off hl hco hm hff
          cases ys with
          | nil => simp at hl
          | cons y ys =>
            simp only [List.map_cons, consec, Bool.and_eq_true, beq_iff_eq] at hco
            obtain ⟨hoff, hco⟩ := hco
            split at hco
            · rename_i s hs
              have h0 := hff 0 f rfl
              simp only [List.getElem?_cons_zero] at h0
              obtain ⟨k1, k2⟩ := ih f.type _ y (hm f (by simp)) h0
              have hcs : P.cellsOf f.type = s := cellsOf_size hP hs
              have hsd : sizeD tb f.type = s := by simp [sizeD, hs]
              obtain ⟨q1, q2⟩ := ihl ys (off + s) (by simpa using hl) hco (fun f hf => hm f (by simp [hf])) fun i f' hi => hff (i + 1) f' (by simpa using hi)
              simp only [List.map_cons, fieldsA]
              refine ⟨?_, by rw [List.length_append, k2, hsd]; omega⟩
              have := k1.append q1
              rw [hcs, hoff] at this
              have e : (cs.drop off).take s ++ cs.drop (off + s) = cs.drop off := by
                rw [← List.drop_drop, List.take_append_drop]
              rw [e] at this
              exact this
            · cases hco
      obtain ⟨q1, q2⟩ := key fs'.toList xs 0 (by simpa using hxl) (by rw [← e2]; exact c3) (fun f hf => by
        have := c2 (f.offset, f.type) (by rw [e2]; exact List.mem_map.2 ⟨f, hf, rfl⟩)
        simpa using this) fun i f hi => hf i f (by simpa using hi)
      rw [← e2] at q1 q2
      exact ⟨by simpa using q1, by rw [hsz]; omega⟩
    | array m e =>
      rw [hdesc] at hck hd' hd
      simp only [Bool.and_eq_true, beq_iff_eq] at hck
      obtain ⟨⟨c1, c2⟩, c3⟩ := hck
      have he : e ∈ T := by simpa using c2
      obtain ⟨te, hte, _⟩ := plainT_get hT he
      have hste : tsize tb e = some te.size := by simp [tsize, hte]
      have hse : sizeD tb e = te.size := by simp [sizeD, hste]
      have hce : P.cellsOf e = te.size := cellsOf_size hP hste
      rw [ofDesc_array hd'] at hu
      obtain ⟨xs, n, hn, rfl, hlc, hxl, hf⟩ := DataW.trod_array hu h
      cases hn
      simp only [avs, hd]
      have hsize : P.cellsOf t = ti.size := cellsOf_size hP (by simp [tsize, hti])
      have key : ∀ (ys : List (DataW H × List MemPlace)) (j : Nat), ys.length + j = m → (∀ i, i < ys.length → DataW.trod enc P w base spare held fuel e ((cs.drop ((j + i) * P.cellsOf e)).take (P.cellsOf e)) = ys[i]?) →
          All2 w (elemsA tb e (ys.map (·.1))) (cs.drop (j * te.size)) ∧ (elemsA tb e (ys.map (·.1))).length + j * te.size = ti.size := by
        intro ys
        induction ys with
        | nil =>
          intro j hj _
          simp only [List.length_nil, Nat.zero_add] at hj
          subst hj
          simp only [List.map_nil, elemsA]
          rw [hse] at c3
          refine ⟨⟨?_, fun i a ha => by simp at ha⟩, by simp [c3]⟩
          simp; omega
        | cons y ys ihl =>
          intro j hj hff
          have h0 := hff 0 (by simp)
          simp only [List.getElem?_cons_zero, Nat.add_zero] at h0
          obtain ⟨k1, k2⟩ := ih e _ y he h0
          obtain ⟨q1, q2⟩ := ihl (j + 1) (by simp only [List.length_cons] at hj; omega) fun i hi => by
            have := hff (i + 1) (by simpa using hi)
            rw [List.getElem?_cons_succ] at this
            rw [← this]; congr 4; omega
          simp only [List.map_cons, elemsA]
          refine ⟨?_, by rw [List.length_append, k2, hse]; rw [Nat.add_mul] at q2; omega⟩
          have := k1.append q1
          rw [hce] at this
          have e : (cs.drop (j * te.size)).take te.size ++ cs.drop ((j + 1) * te.size) = cs.drop (j * te.size) := by
            rw [Nat.add_mul, Nat.one_mul, ← List.drop_drop, List.take_append_drop]
          rw [e] at this
          exact this
      obtain ⟨q1, q2⟩ := key xs 0 (by omega) fun i hi => by rw [Nat.zero_add]; exact hf i (by omega)
      rw [Nat.zero_mul, List.drop_zero] at q1
      exact ⟨q1, by rw [hsz]; omega⟩
    | map k e => rw [hdesc] at hck; cases hck
    | iface n => rw [hdesc] at hck; cases hck
    | fn => rw [hdesc] at hck; cases hck
    | other => rw [hdesc] at hck; cases hck
end

end Go.Proofs.Ytbckfbohbjhffaa.AE
