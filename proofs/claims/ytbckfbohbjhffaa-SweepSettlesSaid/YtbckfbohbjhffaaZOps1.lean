/- Operations that only compute: what they come to in the model is what they come to in the evaluator. No condition. -/
import Derived.Test.YtbckfbohbjhffaaZTy
import Derived.Laws.StructEq
import Derived.Lib.Strings
import Derived.Laws.Strings
import Derived.Lib.SmallJoins
set_option linter.unusedVariables false
set_option linter.unusedSimpArgs false
namespace Go.Proofs.Ytbckfbohbjhffaa.AE
open Go

structure Step (g : Gh) (H : Heap) (w : World) (F : Oid → Prop) (av : AV) (H' : Heap) (v : Value) (g' : Gh) (w' : World) : Prop where
  val : V g' av v
  wc : WC g' H' w'
  keep : Keep F g g'
  ctx : Ctx w g H g' H' w'

def OpGood (P : Program) (g : Gh) (H : Heap) (a : Act) (w : World) (F : Oid → Prop) (o : Oper) (r : OpR) : Prop :=
  ∀ (next : Act → World → Prop) (Q : Exit → Act → World → Prop), (∀ v w' g', Step g H w F r.v (insAll H r.ws) v g' w' → next (a.put o.dst v) w') → o.wp P a w next Q

theorem OpGood.value {P : Program} {g : Gh} {H : Heap} {a : Act} {w w' : World} {F : Oid → Prop} {o : Oper} {r : OpR} {v : Value} {g' : Gh}
    (hr : (execOp a.eval o).run P w = .ok (.value v) w') (hs : Step g H w F r.v (insAll H r.ws) v g' w') : OpGood P g H a w F o r := by
  intro next Q h
  unfold Oper.wp
  rw [hr]
  exact h v w' g' hs
theorem OpGood.skip {P : Program} {g : Gh} {H : Heap} {a : Act} {w w' : World} {F : Oid → Prop} {o : Oper} {r : OpR} {g' : Gh}
    (hr : (execOp a.eval o).run P w = .ok .skip w') (hs : Step g H w F r.v (insAll H r.ws) undef g' w') : OpGood P g H a w F o r := by
  intro next Q h
  unfold Oper.wp
  rw [hr]
  exact h _ w' g' hs
/-- An operation that leaves the world alone. -/
theorem OpGood.pure {P : Program} {g : Gh} {H : Heap} {a : Act} {w : World} {F : Oid → Prop} {o : Oper} {av : AV} {v : Value} {rd : List Oid} (hw : WC g H w)
    (hr : (execOp a.eval o).run P w = .ok (.value v) w) (hv : V g av v) : OpGood P g H a w F o { v := av, rd } :=
  OpGood.value hr ⟨hv, hw, Keep.refl _ _, Ctx.refl _ _ _⟩

def vOf (s : Sem Value) : Sem Next := do Pure.pure (Next.value (← s))
theorem run_v {P : Program} {s : Sem Value} {w w' : World} {v : Value} (h : s.run P w = .ok v w') : (vOf s).run P w = .ok (.value v) w' := by
  unfold vOf
  rw [run_bind2, h]; rfl

/-! ### the values' shapes -/
theorem V.int {g : Gh} {k : IntKind} {n : Int} {v : Value} (h : V g (.int k n) v) : v = .int k n := h
theorem V.bool {g : Gh} {b : Bool} {v : Value} (h : V g (.bool b) v) : v = .bool b := h
theorem V.str {g : Gh} {s : List UInt8} {v : Value} (h : V g (.str s) v) : v = .string ⟨s.toArray⟩ := h
theorem V.agg {g : Gh} {cs : List AV} {v : Value} (h : V g (.agg cs) v) : ∃ x, v = .agg x ∧ VL g cs x.toList := h

/-! ### integers, strings, tests -/
theorem run_intBits {P : Program} {g : Gh} {op : BinOp} {k : IntKind} {x y : Int} {r : AV} (h : intBits op k x y = some r) (w : World) : ∃ v, (Op.intBits op k x y).run P w = .ok v w ∧ V g r v := by
  cases op <;> simp only [intBits] at h <;> first | (cases h; done) | (cases h; exact ⟨_, rfl, rfl⟩)

theorem run_intOp {P : Program} {g : Gh} {op : BinOp} {k k' : IntKind} {a b : Int} {r : AV} (h : intOp op k a b = some r) (hk : op = .shl ∨ op = .shr ∨ k = k') (t : TypeId) (w : World) :
    ∃ v, (binOp op t (.int k a) (.int k' b)).run P w = .ok v w ∧ V g r v := by
  by_cases hs : op = .shl ∨ op = .shr
  · rcases hs with rfl | rfl
    · simp only [intOp] at h
      split at h
      · cases h
      · rename_i hb
        cases h
        refine ⟨_, ?_, rfl⟩
        simp only [binOp, Op.shift, if_neg hb]; rfl
    · simp only [intOp] at h
      split at h
      · cases h
      · rename_i hb
        cases h
        refine ⟨_, ?_, rfl⟩
        simp only [binOp, Op.shift, if_neg hb]; rfl
  · have hk' : k = k' := by
      rcases hk with h1 | h1 | h1
      · exact (hs (.inl h1)).elim
      · exact (hs (.inr h1)).elim
      · exact h1
    subst hk'
    cases op <;> simp only [intOp] at h <;> (try (split at h)) <;> first
      | (cases h; done)
      | (exact (hs (.inl rfl)).elim)
      | (exact (hs (.inr rfl)).elim)
      | (cases h; refine ⟨_, ?_, rfl⟩; simp only [binOp]; rfl)
      | (cases h; refine ⟨_, ?_, rfl⟩; simp only [binOp, Op.intDiv, if_neg ‹_›, ne_eq, not_true_eq_false, if_false]; rfl)
      | (obtain ⟨v, h1, h2⟩ := run_intBits (P := P) (g := g) h w; exact ⟨v, by simp only [binOp, ne_eq, not_true_eq_false, if_false]; exact h1, h2⟩)

theorem toList_mk (s : List UInt8) : (⟨s.toArray⟩ : ByteArray).toList = s := by
  rw [Lib.toList_data]
theorem size_mk (s : List UInt8) : (⟨s.toArray⟩ : ByteArray).size = s.length := by simp [ByteArray.size]
theorem append_mk (x y : List UInt8) : (⟨x.toArray⟩ : ByteArray) ++ ⟨y.toArray⟩ = ⟨(x ++ y).toArray⟩ := by
  apply ByteArray.ext
  apply Array.ext'
  simp [Joins.data_append]
theorem beq_mk (a b : List UInt8) : ((⟨a.toArray⟩ : ByteArray) == ⟨b.toArray⟩) = (a == b) := by
  show (a.toArray == b.toArray) = _
  simp
theorem run_strOp {P : Program} {g : Gh} {op : BinOp} {x y : List UInt8} {r : AV} (h : strOp op x y = some r) (t : TypeId) (w : World) :
    ∃ v, (binOp op t (.string ⟨x.toArray⟩) (.string ⟨y.toArray⟩)).run P w = .ok v w ∧ V g r v := by
  cases op <;> simp only [strOp] at h <;> (try (split at h)) <;> first
    | (cases h; done)
    | (cases h; refine ⟨_, ?_, rfl⟩; simp only [binOp, Op.stringOp, toList_mk, size_mk]; first | rfl | (rw [if_neg (by simp only [IntKind.max, IntKind.signed, IntKind.bits]; omega), append_mk]; rfl))

theorem run_evEq {P : Program} {tb : List TI} (hP : TbOk P tb) {g : Gh} {w : World} : ∀ {d : Nat} {t : TypeId} {x y : AV} {r : Bool} (h : evEq tb d t x y = some r) {vx vy : Value}, V g x vx → V g y vy → ∀ n, d ≤ n + 1 →
    (Op.equalIn (n + 1) t vx vy).run P w = .ok r w
  | 0, _, _, _, _, h, _, _, _, _, _, _ => by simp [evEq] at h
  | d + 1, t, x, y, r, h, vx, vy, hx, hy, n, hn0 => by
    simp only [evEq] at h
    split at h
    case h_1 a b hd =>
      cases h; simp only [V] at hx hy; subst hx hy
      obtain ⟨_, _, _, d', h1, h2⟩ := descOf_some hP hd
      cases ofDesc_bool h2
      simp only [Op.equalIn, run_bind2, run_under h1]; rfl
    case h_2 k a k' b hd =>
      split at h
      · cases h; rename_i hk; subst hk; simp only [V] at hx hy; subst hx hy
        obtain ⟨_, _, _, d', h1, h2⟩ := descOf_some hP hd
        cases ofDesc_int h2
        simp only [Op.equalIn, run_bind2, run_under h1, Result.andThen_ok, if_true]; rfl
      · cases h
    case h_3 a b hd =>
      cases h; simp only [V] at hx hy; subst hx hy
      obtain ⟨_, _, _, d', h1, h2⟩ := descOf_some hP hd
      cases ofDesc_string h2
      simp only [Op.equalIn, run_bind2, run_under h1, Result.andThen_ok, run_pure2]
      rw [beq_mk]
    case h_4 hd =>
      cases h; simp only [V] at hx hy; subst hx hy
      obtain ⟨_, _, _, d', h1, h2⟩ := descOf_some hP hd
      cases ofDesc_ptr h2
      simp only [Op.equalIn, run_bind2, run_under h1]; rfl
    case h_5 hd =>
      cases h; simp only [V] at hx hy; subst hx; obtain ⟨c, _, rfl⟩ := hy
      obtain ⟨_, _, _, d', h1, h2⟩ := descOf_some hP hd
      cases ofDesc_ptr h2
      simp only [Op.equalIn, run_bind2, run_under h1]; rfl
    case h_6 hd =>
      cases h; simp only [V] at hx hy; subst hx; obtain ⟨c, o, rfl, _⟩ := hy
      obtain ⟨_, _, _, d', h1, h2⟩ := descOf_some hP hd
      cases ofDesc_ptr h2
      simp only [Op.equalIn, run_bind2, run_under h1]; rfl
    case h_7 hd =>
      cases h; simp only [V] at hx hy; subst hy; obtain ⟨c, _, rfl⟩ := hx
      obtain ⟨_, _, _, d', h1, h2⟩ := descOf_some hP hd
      cases ofDesc_ptr h2
      simp only [Op.equalIn, run_bind2, run_under h1]; rfl
    case h_8 hd =>
      cases h; simp only [V] at hx hy; subst hy; obtain ⟨c, o, rfl, _⟩ := hx
      obtain ⟨_, _, _, d', h1, h2⟩ := descOf_some hP hd
      cases ofDesc_ptr h2
      simp only [Op.equalIn, run_bind2, run_under h1]; rfl
    case h_9 hd =>
      cases h; simp only [V] at hx hy; subst hx hy
      obtain ⟨_, _, _, d', h1, h2⟩ := descOf_some hP hd
      cases ofDesc_slice h2
      simp only [Op.equalIn, run_bind2, run_under h1]; rfl
    case h_10 hd =>
      cases h; simp only [V] at hx hy; subst hy
      obtain ⟨_, h3⟩ | ⟨c, o, cap, rfl, _⟩ := hx
      · cases h3
      obtain ⟨_, _, _, d', h1, h2⟩ := descOf_some hP hd
      cases ofDesc_slice h2
      simp only [Op.equalIn, run_bind2, run_under h1]; rfl
    case h_11 hd =>
      cases h; simp only [V] at hx hy; subst hx
      obtain ⟨_, h3⟩ | ⟨c, o, cap, rfl, _⟩ := hy
      · cases h3
      obtain ⟨_, _, _, d', h1, h2⟩ := descOf_some hP hd
      cases ofDesc_slice h2
      simp only [Op.equalIn, run_bind2, run_under h1]; rfl
    case h_12 hd =>
      cases h; simp only [V] at hx hy; subst hy; obtain ⟨c, _, rfl, _⟩ := hx
      obtain ⟨_, _, _, d', h1, h2⟩ := descOf_some hP hd
      cases ofDesc_slice h2
      simp only [Op.equalIn, run_bind2, run_under h1]; rfl
    case h_13 hd =>
      cases h; simp only [V] at hx hy; subst hx hy
      obtain ⟨_, _, _, d', h1, h2⟩ := descOf_some hP hd
      cases ofDesc_map h2
      simp only [Op.equalIn, run_bind2, run_under h1]; rfl
    case h_14 hd =>
      cases h; simp only [V] at hx hy; subst hy; obtain ⟨c, _, rfl⟩ := hx
      obtain ⟨_, _, _, d', h1, h2⟩ := descOf_some hP hd
      cases ofDesc_map h2
      simp only [Op.equalIn, run_bind2, run_under h1]; rfl
    case h_15 hd =>
      cases h; simp only [V] at hx hy; subst hx; obtain ⟨c, _, rfl⟩ := hy
      obtain ⟨_, _, _, d', h1, h2⟩ := descOf_some hP hd
      cases ofDesc_map h2
      simp only [Op.equalIn, run_bind2, run_under h1]; rfl
    case h_16 hd =>
      cases h; simp only [V] at hx hy; subst hx hy
      obtain ⟨_, _, _, d', h1, h2⟩ := descOf_some hP hd
      obtain ⟨_, _, _, rfl⟩ := ofDesc_fn h2
      simp only [Op.equalIn, run_bind2, run_under h1]; rfl
    case h_17 hd =>
      cases h; simp only [V] at hx hy; subst hy; obtain ⟨_, _, rfl, _⟩ := hx
      obtain ⟨_, _, _, d', h1, h2⟩ := descOf_some hP hd
      obtain ⟨_, _, _, rfl⟩ := ofDesc_fn h2
      simp only [Op.equalIn, run_bind2, run_under h1]; rfl
    case h_18 hd =>
      cases h; simp only [V] at hx hy; subst hx; obtain ⟨_, _, rfl, _⟩ := hy
      obtain ⟨_, _, _, d', h1, h2⟩ := descOf_some hP hd
      obtain ⟨_, _, _, rfl⟩ := ofDesc_fn h2
      simp only [Op.equalIn, run_bind2, run_under h1]; rfl
    case h_19 fs xs ys hd =>
      split at h
      · rename_i hok
        simp only [V] at hx hy
        obtain ⟨vxs, rfl, hx⟩ := hx
        obtain ⟨vys, rfl, hy⟩ := hy
        obtain ⟨ti, hti, _, d', h1, h2⟩ := descOf_some hP hd
        obtain ⟨fs', rfl, rfl⟩ := ofDesc_struct h2
        have hek : ti.eqOk = true := by simpa [eqOkT, hti] using hok
        rw [(hP.facts hti).eq _ h1] at hek
        simp only [eqOkD, Bool.and_eq_true, Bool.not_eq_true', List.all_eq_true] at hek
        obtain ⟨⟨e1, e2⟩, _⟩ := hek
        have hfo : P.fieldsOf t = fs' := by simp [Program.fieldsOf, h1]
        rw [run_equalIn_struct (P := P) w n t vxs vys (by rw [hfo]; exact h1) e2, hfo]
        have key : ∀ (l : List Field) (r : Bool), (∀ f ∈ l, (f.name == "_") = false) → evEqF tb (evEq tb d) xs ys (l.map fun f => (f.offset, f.type)) = some r → (Op.eqFields n vxs vys l).run P w = .ok r w := by
          intro l
          induction l with
          | nil => intro r _ h; simp only [List.map_nil, evEqF] at h; cases h; rfl
          | cons f l ih =>
            intro r hn h
            simp only [List.map_cons, evEqF] at h
            split at h
            · cases h
            · rename_i tf htf
              split at h
              · cases h
              · rename_i hagg
                split at h
                · rename_i a b ha hb
                  split at h
                  · rename_i e e' he he'
                    cases h
                    obtain ⟨va, k1, k2⟩ := hx.get _ _ ha
                    obtain ⟨vb, k3, k4⟩ := hy.get _ _ hb
                    rw [Array.getElem?_toList] at k1 k3
                    have hpart : ∀ (us : Array Value) (u : Value), us[f.offset]? = some u → (part f.type us f.offset).run P w = .ok u w := by
                      intro us u hu
                      unfold part
                      rw [run_bind2, (hP.facts htf).isAgg]
                      simp only [Result.andThen_ok]
                      rw [if_neg (by simpa using hagg), hu]
                      rfl
                    cases n with
                    | zero =>
                      have : d = 0 := by omega
                      subst this
                      simp [evEq] at he
                    | succ n =>
                      have h0 := hn f (by simp)
                      have hn' : f.name ≠ "_" := by simpa using h0
                      have h3 := run_evEq hP (w := w) he k2 k4 n (by omega)
                      rw [Op.eqFields]
                      simp only [if_pos hn', run_bind2, hpart _ _ k1, hpart _ _ k3, h3, Result.andThen_ok]
                      have h4 := ih e' (fun f hf => hn f (by simp [hf])) he'
                      cases e
                      · rfl
                      · simpa using h4
                  · cases h
                · cases h
        exact key fs'.toList r (fun f hf => e1 f hf) h
      · cases h
    case h_20 => cases h

/-- The values at which the model first asks whether they may be compared. -/
def plainEq : Value → Bool
  | .nilIface => false
  | .agg _ => false
  | _ => true
/-- .. or they are structs, and it does not ask. -/
def EqFine (P : Program) (t : TypeId) (v : Value) : Prop := plainEq v = true ∨ ((∃ xs, v = .agg xs) ∧ P.eqGuardType P.depth t = false)
theorem run_eqGuard {P : Program} {op : BinOp} {t : TypeId} {x y : Operand} {a b : Value} (h : EqFine P t a) (w : World) : (eqGuard op t x y a b).run P w = .ok () w := by
  rcases h with h | ⟨⟨xs, rfl⟩, h⟩
  · unfold eqGuard
    cases op <;> first
      | rfl
      | (cases a <;> first | (simp [plainEq] at h; done) | rfl)
  · unfold eqGuard
    cases op <;> first
      | rfl
      | (cases b <;> first
          | rfl
          | (simp only [run_bind2]
             show (if (!P.eqGuardType P.depth t) = true then (pure () : Sem Unit) else _).run P w = _
             rw [h]; rfl))

theorem evEq_plain {P : Program} {tb : List TI} (hP : TbOk P tb) {g : Gh} {d : Nat} {t : TypeId} {x y : AV} {r : Bool} (h : evEq tb d t x y = some r) {v : Value} (hv : V g x v) : EqFine P t v := by
  cases d with
  | zero => simp [evEq] at h
  | succ d =>
    simp only [evEq] at h
    split at h <;> (try simp only [V] at hv) <;> first
      | (cases h; done)
      | (subst hv; exact .inl rfl)
      | (obtain ⟨c, _, rfl⟩ := hv; exact .inl rfl)
      | (obtain ⟨c, o, rfl, _⟩ := hv; exact .inl rfl)
      | (rcases hv with ⟨_, h3⟩ | ⟨c, o, cap, rfl, _⟩ <;> first | (cases h3; done) | exact .inl rfl)
      | (obtain ⟨c, _, rfl, _⟩ := hv; exact .inl rfl)
      | (cases h; done)
      | (rename_i fs xs ys hd
         split at h
         · rename_i hok
           obtain ⟨vxs, rfl, _⟩ := hv
           obtain ⟨ti, hti, _, d', h1, h2⟩ := descOf_some hP hd
           obtain ⟨fs', rfl, rfl⟩ := ofDesc_struct h2
           have hek : ti.eqOk = true := by simpa [eqOkT, hti] using hok
           rw [(hP.facts hti).eq _ h1] at hek
           simp only [eqOkD, Bool.and_eq_true, Bool.not_eq_true', List.all_eq_true] at hek
           exact .inr ⟨⟨vxs, rfl⟩, hek.2⟩
         · cases h)

theorem binOp_eql {P : Program} {t : TypeId} {a b : Value} (h : ∀ k x k' y, ¬ (a = .int k x ∧ b = .int k' y)) (h2 : ∀ x y, ¬ (a = .string x ∧ b = .string y)) (h3 : ∀ k x, a ≠ .float k x) (h4 : ∀ k x y, a ≠ .complex k x y) :
    binOp .eql t a b = (do Pure.pure (.bool (← Op.equal t a b)) : Sem Value) := by
  cases a <;> cases b <;> first
    | rfl
    | (exact (h _ _ _ _ ⟨rfl, rfl⟩).elim)
    | (exact (h2 _ _ ⟨rfl, rfl⟩).elim)
    | (exact (h3 _ _ rfl).elim)
    | (exact (h4 _ _ _ rfl).elim)
theorem binOp_neq {P : Program} {t : TypeId} {a b : Value} (h : ∀ k x k' y, ¬ (a = .int k x ∧ b = .int k' y)) (h2 : ∀ x y, ¬ (a = .string x ∧ b = .string y)) (h3 : ∀ k x, a ≠ .float k x) (h4 : ∀ k x y, a ≠ .complex k x y) :
    binOp .neq t a b = (do Pure.pure (.bool (!(← Op.equal t a b))) : Sem Value) := by
  cases a <;> cases b <;> first
    | rfl
    | (exact (h _ _ _ _ ⟨rfl, rfl⟩).elim)
    | (exact (h2 _ _ ⟨rfl, rfl⟩).elim)
    | (exact (h3 _ _ rfl).elim)
    | (exact (h4 _ _ _ rfl).elim)

/-- No value of the evaluator but its own stands for these. -/
theorem V_notInt {g : Gh} {x : AV} {k : IntKind} {n : Int} (h : V g x (.int k n)) (hu : noUndef x = true) : x = .int k n := by
  cases x <;> simp only [V, noUndef] at h hu <;> first
    | (cases hu; done) | (cases h; done) | (cases h; rfl)
    | (obtain ⟨c, _, h⟩ := h; cases h; done) | (obtain ⟨c, o, h, _⟩ := h; cases h; done) | (obtain ⟨h | ⟨_, _, h, _⟩, _⟩ | ⟨c, o, cap, h, _⟩ := h <;> cases h; done) | (obtain ⟨c, _, h, _⟩ := h; cases h; done) | (obtain ⟨c, h, _⟩ := h; cases h; done)
theorem V_notStr {g : Gh} {x : AV} {s : ByteArray} (h : V g x (.string s)) (hu : noUndef x = true) : ∃ l, x = .str l := by
  cases x <;> simp only [V, noUndef] at h hu <;> first
    | (cases hu; done) | (cases h; done) | (exact ⟨_, rfl⟩)
    | (obtain ⟨c, _, h⟩ := h; cases h; done) | (obtain ⟨c, o, h, _⟩ := h; cases h; done) | (obtain ⟨h | ⟨_, _, h, _⟩, _⟩ | ⟨c, o, cap, h, _⟩ := h <;> cases h; done) | (obtain ⟨c, _, h, _⟩ := h; cases h; done) | (obtain ⟨c, h, _⟩ := h; cases h; done)
theorem V_notFloat {g : Gh} {x : AV} {k : FloatKind} {n : Nat} (h : V g x (.float k n)) (hu : noUndef x = true) : False := by
  cases x <;> simp only [V, noUndef] at h hu <;> first
    | (cases hu; done) | (cases h; done)
    | (obtain ⟨c, _, h⟩ := h; cases h; done) | (obtain ⟨c, o, h, _⟩ := h; cases h; done) | (obtain ⟨h | ⟨_, _, h, _⟩, _⟩ | ⟨c, o, cap, h, _⟩ := h <;> cases h; done) | (obtain ⟨c, _, h, _⟩ := h; cases h; done) | (obtain ⟨c, h, _⟩ := h; cases h; done)
theorem V_notComplex {g : Gh} {x : AV} {k : FloatKind} {n m : Nat} (h : V g x (.complex k n m)) (hu : noUndef x = true) : False := by
  cases x <;> simp only [V, noUndef] at h hu <;> first
    | (cases hu; done) | (cases h; done)
    | (obtain ⟨c, _, h⟩ := h; cases h; done) | (obtain ⟨c, o, h, _⟩ := h; cases h; done) | (obtain ⟨h | ⟨_, _, h, _⟩, _⟩ | ⟨c, o, cap, h, _⟩ := h <;> cases h; done) | (obtain ⟨c, _, h, _⟩ := h; cases h; done) | (obtain ⟨c, h, _⟩ := h; cases h; done)
theorem evEq_known {tb : List TI} {d : Nat} {t : TypeId} {x y : AV} {r : Bool} (h : evEq tb d t x y = some r) : noUndef x = true ∧ noUndef y = true := by
  cases d with
  | zero => simp [evEq] at h
  | succ d =>
    simp only [evEq] at h
    split at h <;> first | (exact ⟨rfl, rfl⟩) | (cases h; done)

theorem run_evBin {P : Program} {tb : List TI} (hP : TbOk P tb) {g : Gh} {w : World} {op : BinOp} {t : TypeId} {x y r : AV} (h : evBin tb op t x y = some r) {vx vy : Value} (hx : V g x vx) (hy : V g y vy) (ox oy : Operand) :
    ∃ v, (do eqGuard op t ox oy vx vy; binOp op t vx vy : Sem Value).run P w = .ok v w ∧ V g r v := by
  have key : EqFine P t vx → (∃ v, (binOp op t vx vy).run P w = .ok v w ∧ V g r v) → ∃ v, (do eqGuard op t ox oy vx vy; binOp op t vx vy : Sem Value).run P w = .ok v w ∧ V g r v := by
    rintro h1 ⟨v, h2, h3⟩
    exact ⟨v, by rw [run_bind2, run_eqGuard h1]; exact h2, h3⟩
  unfold evBin at h
  split at h
  · simp only [V] at hx hy; subst hx hy
    refine key (.inl rfl) ?_
    split at h
    · rename_i hs; exact run_intOp h (hs.elim .inl fun e => .inr (.inl e)) t w
    · split at h
      · rename_i hk; exact run_intOp h (.inr (.inr hk)) t w
      · cases h
  · simp only [V] at hx hy; subst hx hy
    exact key (.inl rfl) (run_strOp h t w)
  · rename_i hni hns
    split at h
    · cases he : evEq tb 100 t x y with
      | none => rw [he] at h; cases h
      | some b =>
        rw [he] at h; cases h
        obtain ⟨hu1, hu2⟩ := evEq_known he
        refine key (evEq_plain hP he hx) ⟨.bool b, ?_, rfl⟩
        rw [binOp_eql (P := P), run_bind2]
        · unfold Op.equal
          rw [show Op.maxDepth = 9999 + 1 from rfl, run_evEq hP he hx hy _ (by omega)]; rfl
        · rintro k n k' n' ⟨rfl, rfl⟩; exact hni _ _ _ _ (V_notInt hx hu1) (V_notInt hy hu2)
        · rintro a b ⟨rfl, rfl⟩
          obtain ⟨l, rfl⟩ := V_notStr hx hu1
          obtain ⟨l', rfl⟩ := V_notStr hy hu2
          exact hns _ _ rfl rfl
        · rintro k n rfl; exact V_notFloat hx hu1
        · rintro k n m rfl; exact V_notComplex hx hu1
    · cases he : evEq tb 100 t x y with
      | none => rw [he] at h; cases h
      | some b =>
        rw [he] at h; cases h
        obtain ⟨hu1, hu2⟩ := evEq_known he
        refine key (evEq_plain hP he hx) ⟨.bool (!b), ?_, rfl⟩
        rw [binOp_neq (P := P), run_bind2]
        · unfold Op.equal
          rw [show Op.maxDepth = 9999 + 1 from rfl, run_evEq hP he hx hy _ (by omega)]; rfl
        · rintro k n k' n' ⟨rfl, rfl⟩; exact hni _ _ _ _ (V_notInt hx hu1) (V_notInt hy hu2)
        · rintro a b ⟨rfl, rfl⟩
          obtain ⟨l, rfl⟩ := V_notStr hx hu1
          obtain ⟨l', rfl⟩ := V_notStr hy hu2
          exact hns _ _ rfl rfl
        · rintro k n rfl; exact V_notFloat hx hu1
        · rintro k n m rfl; exact V_notComplex hx hu1
    · cases h

theorem run_evUn {P : Program} {g : Gh} {w : World} {op : UnOp} {x r : AV} (h : evUn op x = some r) {v : Value} (hv : V g x v) : ∃ u, (Op.unary op v).run P w = .ok u w ∧ V g r u := by
  unfold evUn at h
  split at h
  · simp only [V] at hv; subst hv; cases h; exact ⟨_, rfl, rfl⟩
  · simp only [V] at hv; subst hv; exact run_intBits h w
  · simp only [V] at hv; subst hv; cases h; exact ⟨_, rfl, rfl⟩
  · cases h

theorem run_evConv {P : Program} {tb : List TI} (hP : TbOk P tb) {g : Gh} {w : World} {s d : TypeId} {x r : AV} (h : evConv tb s d x = some r) {v : Value} (hv : V g x v) :
    ∃ u, (convert s d v).run P w = .ok u w ∧ V g r u := by
  unfold evConv at h
  split at h
  · rename_i k k' n hd1 hd2
    cases h; simp only [V] at hv; subst hv
    obtain ⟨_, _, _, d1, h1, h2⟩ := descOf_some hP hd1
    obtain ⟨_, _, _, d2, h3, h4⟩ := descOf_some hP hd2
    cases ofDesc_int h4
    refine ⟨_, ?_, rfl⟩
    simp only [convert, run_bind2, run_under h1, run_under h3, Result.andThen_ok]
    cases d1 <;> rfl
  · rename_i l hd1 hd2
    cases h; simp only [V] at hv; subst hv
    obtain ⟨_, _, _, d1, h1, h2⟩ := descOf_some hP hd1
    obtain ⟨_, _, _, d2, h3, h4⟩ := descOf_some hP hd2
    cases ofDesc_string h4
    refine ⟨_, ?_, rfl⟩
    simp only [convert, run_bind2, run_under h1, run_under h3, Result.andThen_ok]
    cases d1 <;> rfl
  · rename_i k n hd1 hd2
    cases h; simp only [V] at hv; subst hv
    obtain ⟨_, _, _, d1, h1, h2⟩ := descOf_some hP hd1
    obtain ⟨_, _, _, d2, h3, h4⟩ := descOf_some hP hd2
    cases ofDesc_string h4
    refine ⟨.string (Utf8.encode n), ?_, ?_⟩
    · simp only [convert, run_bind2, run_under h1, run_under h3, Result.andThen_ok]
      cases d1 <;> rfl
    · simp [V]
  · cases h

end Go.Proofs.Ytbckfbohbjhffaa.AE
