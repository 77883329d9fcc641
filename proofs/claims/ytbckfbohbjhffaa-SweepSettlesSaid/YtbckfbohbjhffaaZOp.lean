/- Every operation of the evaluator is what the model does. No condition. -/
import Derived.Test.YtbckfbohbjhffaaZCall
set_option linter.unusedVariables false
set_option linter.unusedSimpArgs false
namespace Go.Proofs.Ytbckfbohbjhffaa.AE
open Go

def Fr (r : OpR) (o : Oper) (b : Oid) : Prop := r.fresh = true ∧ ∃ d, o.dst = some d ∧ rooted d b = true

theorem OpGood.wider {P : Program} {g : Gh} {H : Heap} {a : Act} {w : World} {F F' : Oid → Prop} {o : Oper} {r : OpR} (h : OpGood P g H a w F o r) (hF : ∀ b, F b → F' b) : OpGood P g H a w F' o r :=
  fun next Q hn => h next Q fun v w' g' st => hn v w' g' ⟨st.val, st.wc, st.keep.wider hF, st.ctx⟩

/-- A value that only was reckoned. -/
theorem good_v {P : Program} {g : Gh} {H : Heap} {a : Act} {w : World} {F : Oid → Prop} {o : Oper} {x : Option AV} {r : OpR} {s : Sem Value} (hw : WC g H w) (h : x.map (fun v => ({ v } : OpR)) = some r)
    (hs : ∀ av, x = some av → ∃ u, s.run P w = .ok u w ∧ V g av u) (hex : execOp a.eval o = vOf s) : OpGood P g H a w F o r := by
  cases x with
  | none => cases h
  | some av =>
    cases h
    obtain ⟨u, h1, h2⟩ := hs av rfl
    exact OpGood.pure hw (by rw [hex]; exact run_v h1) h2

theorem VL_map {g : Gh} {ρ : Operand → AV} {e : Operand → Value} (h : ∀ x, V g (ρ x) (e x)) : ∀ l : List Operand, VL g (l.map ρ) (l.map e)
  | [] => rfl
  | x :: r => ⟨_, _, rfl, h x, VL_map h r⟩
theorem PV_map {g : Gh} {ρ : Operand → AV} {e : Operand → Value} (h : ∀ x, V g (ρ x) (e x)) : ∀ l : List (Nat × Operand), PV g (l.map fun p => (p.1, ρ p.2)) (l.map fun p => (p.1, e p.2))
  | [] => .nil
  | (i, x) :: r => .cons (h x) (PV_map h r)
theorem OptV_map {g : Gh} {ρ : Operand → AV} {e : Operand → Value} (h : ∀ x, V g (ρ x) (e x)) : ∀ o : Option Operand, OptV g (o.map ρ) (o.map e)
  | none => .none
  | some x => .some (h x)

theorem run_mm2 {P : Program} {g : Gh} {w : World} {isMax : Bool} {x y r : AV} (h : mm2 isMax x y = some r) {vx vy : Value} (hx : V g x vx) (hy : V g y vy) :
    ∃ u, ((if isMax then Builtin.max2 vx vy else Builtin.min2 vx vy).run P w = .ok u w) ∧ V g r u := by
  unfold mm2 at h
  split at h
  · split at h
    · rename_i hk
      cases h; simp only [V] at hx hy; subst hx hy
      cases isMax <;> exact ⟨_, rfl, rfl⟩
    · cases h
  · cases h
theorem run_mmFrom {P : Program} {g : Gh} {w : World} (isMax : Bool) : ∀ {l : List AV} {x r : AV} (h : minMaxFrom isMax x l = some r) {vx : Value} {vl : List Value}, V g x vx → VL g l vl →
    ∃ u, (vl.foldlM (fun a b => if isMax then Builtin.max2 a b else Builtin.min2 a b) vx).run P w = .ok u w ∧ V g r u
  | [], x, r, h, vx, vl, hx, hl => by
    simp [VL] at hl; subst hl
    simp only [minMaxFrom] at h; cases h
    exact ⟨vx, rfl, hx⟩
  | y :: l, x, r, h, vx, vl, hx, hl => by
    obtain ⟨vy, vl, rfl, hy, hl⟩ := hl
    simp only [minMaxFrom] at h
    split at h
    · rename_i z hz
      obtain ⟨u, h1, h2⟩ := run_mm2 (P := P) (w := w) hz hx hy
      obtain ⟨u', k1, k2⟩ := run_mmFrom isMax h h2 hl
      refine ⟨u', ?_, k2⟩
      rw [List.foldlM_cons, run_bind2, h1]
      exact k1
    · cases h

theorem callFunc_enter {P : Program} {f : FuncId} {fn : Func} (hf : P.funcs[f]? = some fn) (hn : fn.name ≠ "runtime.NumGoroutine") (hb : fn.body.isSome = true) (args : Array Value) (w : World) :
    (callFunc f args).run P w = .ok (.enter f args) w := by
  unfold callFunc
  rw [run_bind2]
  show (match P.funcs[f]? with | none => stuck "call: no such function" | some fn => _).run P w = _
  rw [hf]
  simp only
  rw [if_neg (by simpa using hn), if_neg (by cases hq : fn.body <;> simp_all)]
  rfl

/-- What a callee must be for the call to enter it. -/
def Enters (P : Program) (call : CallF) : Prop := ∀ f args H x, call f args H = some x → ∃ fn, P.funcs[f]? = some fn ∧ fn.name ≠ "runtime.NumGoroutine" ∧ fn.body.isSome = true

theorem evCall_called {ro : FuncId → Bool} {call : CallF} {dst : Option Nat} {H : Heap} {f : FuncId} {args : List AV} {r : OpR} (h : evCall ro call dst H f args = some r) : ∃ args' H' x, call f args' H' = some x := by
  unfold evCall at h
  split at h
  · cases h
  split at h
  · cases h
  split at h
  · split at h
    · split at h
      · rename_i hc
        split at h
        · cases h; exact ⟨_, _, _, hc⟩
        · cases h
      · cases h
    · split at h
      · rename_i hc
        split at h
        · cases h; exact ⟨_, _, _, hc⟩
        · cases h
      · cases h
  · cases h

theorem adoptAt_some {cfg : Cfg} {fid : FuncId} {dst : Option Nat} {d : Nat} (h : adoptAt cfg fid dst = some d) : dst = some d := by
  unfold adoptAt at h
  split at h
  · split at h
    · cases h; rfl
    · cases h
  · cases h
theorem evOp_good {P : Program} {tb : List TI} {cfg : Cfg} {gl : List (Nat × List AV)} {call : CallF} (hP : TbOk P tb) (hcall : CallOk P gl call) (hent : Enters P call) {g : Gh} (hgl : Glob gl g) {G H : Heap} {a : Act} {w : World} (hw : WC g H w) {fid : FuncId} {ρ : Operand → AV}
    (hρ : ∀ x, V g (ρ x) (a.eval x)) {o : Oper} {r : OpR} (h : evOp tb cfg call fid ρ G o = some r) (hag : Agree r G H) (hfr : r.fresh = true → ∃ d, o.dst = some d ∧ ClearH d H) : OpGood P g H a w (Fr r o) o r := by
  unfold evOp at h
  simp only at h
  split at h
  · -- move
    rename_i x hop
    cases h
    refine OpGood.pure hw (v := a.eval x) ?_ (hρ x)
    simp only [execOp, hop]; rfl
  · -- assign
    rename_i x hop
    have hrun : (execOp a.eval o).run P w = .ok (.value (a.eval x)) w := by simp only [execOp, hop]; rfl
    split at h
    · rename_i d hd
      split at h
      · split at h
        · rename_i e hx hde
          split at h
          · rename_i s hs
            cases h
            obtain ⟨d', hd', hcl⟩ := hfr rfl
            rw [hd] at hd'; cases hd'
            have hv := hρ x
            rw [hx] at hv
            obtain ⟨k1, k2⟩ := hw.moved (F := Fr { v := .slice (.buf (.loc d)) s [], ws := [(.loc d, .buf s 0)], fresh := true } o) (.loc d) s 0 none
              (fun ob hob => by rw [hcl.1 _ (rooted_loc d)] at hob; cases hob) (fun c cap hc => by cases hc)
              (fun hk => hk.wider fun b hb => by subst hb; exact ⟨rfl, d, hd, rooted_loc d⟩)
              (fun x ob hx hf y hy hF => by
                obtain ⟨_, d', h1, h2⟩ := hF
                rw [hd] at h1; cases h1
                rw [hcl.2 x ob hf y hy] at h2; cases h2)
            exact OpGood.value hrun ⟨.inl ⟨.inl hv, rfl⟩, k2, k1, (Ctx.refl w g H).moved (.loc d) s 0 none (fun c cap hc => by cases hc)⟩
          · cases h
        · cases h; exact OpGood.pure hw hrun (hρ x)
      · cases h; exact OpGood.pure hw hrun (hρ x)
    · cases h
  · -- pick
    rename_i c x y hop
    split at h
    · rename_i t ht
      cases h
      have hc := hρ c
      rw [ht] at hc
      simp only [V] at hc
      refine OpGood.pure hw (v := if t then a.eval x else a.eval y) ?_ ?_
      · simp only [execOp, hop, hc]; cases t <;> rfl
      · cases t
        · exact hρ y
        · exact hρ x
    · cases h
  · -- alloc
    rename_i e hop
    split at h
    · rename_i ti d hti hd
      split at h
      · cases h
      rename_i hz
      obtain ⟨i, z, h1, h2, h3, h4⟩ := zero_some (hP.facts hti) (by simpa using hz)
      have hfresh : r.fresh = true := by
        unfold evBox at h; simp only at h; split at h
        · cases h
        · cases h; rfl
      obtain ⟨d', hd', hcl⟩ := hfr hfresh
      rw [hd] at hd'; cases hd'
      refine (good_box hw hcl h (vs := z.cells) (by rw [h4]; exact VL_ofCell g _) e ?_).wider fun b hb => ⟨hfresh, d, hd, hb⟩
      simp only [execOp, hop]
      refine run_v ?_
      unfold Instr.alloc
      rw [run_bind2, run_zero h1 h2]; rfl
    · cases h
  · -- box
    rename_i e x hop
    split at h
    · rename_i s d hs hd
      split at h
      · rename_i hcond
        have hfresh : r.fresh = true := by
          unfold evBox at h; simp only at h; split at h
          · cases h
          · cases h; rfl
        obtain ⟨d', hd', hcl⟩ := hfr hfresh
        rw [hd] at hd'; cases hd'
        refine (good_box hw hcl h (vs := (a.eval x).cells) ((hρ x).cells hcond.2) e ?_).wider fun b hb => ⟨hfresh, d, hd, hb⟩
        simp only [execOp, hop]; rfl
      · cases h
    · cases h
  · -- build
    rename_i t parts hop
    refine good_v hw h (s := Instr.build t (parts.map fun (i, x) => (i, a.eval x))) (fun av hav => run_evBuild hP hav ?_) (by simp only [execOp, hop]; rfl)
    have := PV_map hρ parts.toList
    simpa using this
  · -- buildSlice
    rename_i t len parts hop
    cases hb : evBuildSlice tb t len (parts.toList.map fun p => (p.1, ρ p.2)) with
    | none => rw [hb] at h; cases h
    | some av =>
      rw [hb] at h; cases h
      refine good_buildSlice hP hw hb (vparts := parts.map fun (i, x) => (i, a.eval x)) ?_ (by simp only [execOp, hop]; rfl)
      have := PV_map hρ parts.toList
      simpa using this
  · -- load
    rename_i t x hop
    obtain ⟨⟨u, h1, h2⟩, h3, h4⟩ := run_evLoad hP hw h hag (hρ x)
    intro next Q hn
    refine (OpGood.value (P := P) (g := g) (H := H) (a := a) (w := w) (F := Fr r o) (o := o) (r := r) (w' := w) (v := u) (g' := g) (by simp only [execOp, hop]; exact run_v h1) ⟨h2, by rw [h3]; exact hw, Keep.refl _ _, by rw [h3]; exact Ctx.refl _ _ _⟩) next Q hn
  · -- store
    rename_i t x y hop
    exact good_store hP hw h hag (hρ x) (hρ y) (by simp only [execOp, hop])
  · -- nilCheck
    rename_i x hop
    have hx := hρ x
    split at h
    · rename_i b off hb
      cases h
      rw [hb] at hx
      obtain ⟨c, hc, hv⟩ := hx
      refine OpGood.pure hw (v := .pointer (some ⟨c, off, none⟩)) ?_ ⟨c, hc, rfl⟩
      simp only [execOp, hop, hv]; rfl
    · rename_i cs hb
      cases h
      rw [hb] at hx
      obtain ⟨c, off, hv, hp⟩ := hx
      refine OpGood.pure hw (v := .pointer (some ⟨c, off, none⟩)) ?_ ⟨c, off, rfl, hp⟩
      simp only [execOp, hop, hv]; rfl
    · rename_i f p q hb
      cases h
      rw [hb] at hx
      obtain ⟨y, z, hv, h1, h2⟩ := hx
      refine OpGood.pure hw (v := .func (.func f) y z) ?_ ⟨y, z, rfl, h1, h2⟩
      simp only [execOp, hop, hv]; rfl
    · cases h
  · -- binOp
    rename_i op t x y u hop
    exact good_v hw h (fun av hav => run_evBin hP hav (hρ x) (hρ y) x y) (by simp only [execOp, hop]; rfl)
  · -- unOp
    rename_i op t x hop
    exact good_v hw h (fun av hav => run_evUn hav (hρ x)) (by simp only [execOp, hop]; rfl)
  · -- convert
    rename_i s d x hop
    exact good_v hw h (fun av hav => run_evConv hP hav (hρ x)) (by simp only [execOp, hop]; rfl)
  · -- makeFunc
    rename_i f p q hop
    split at h
    · rename_i fi
      cases h
      refine OpGood.pure hw (v := .func (.func fi) (p.map a.eval) (q.map a.eval)) ?_ ⟨_, _, rfl, by simpa using VL_map hρ p.toList, by simpa using VL_map hρ q.toList⟩
      simp only [execOp, hop]; rfl
    · cases h
  · -- slice
    rename_i t x lo hi mx hop
    exact good_v hw h (fun av hav => run_evSlice hP hav (hρ x) (OptV_map hρ lo) (OptV_map hρ hi) (OptV_map hρ mx)) (by simp only [execOp, hop]; rfl)
  · -- fieldAddr
    rename_i s x f hop
    exact good_v hw h (fun av hav => run_evFieldAddr hP hav (hρ x)) (by simp only [execOp, hop]; rfl)
  · -- field
    rename_i s x f hop
    exact good_v hw h (fun av hav => run_evField hP hav (hρ x)) (by simp only [execOp, hop]; rfl)
  · -- indexAddr
    rename_i t x i hop
    exact good_v hw h (fun av hav => run_evIndexAddr hP hav (hρ x) (hρ i)) (by simp only [execOp, hop]; rfl)
  · -- index
    rename_i t x i hop
    exact good_v hw h (fun av hav => run_evIndex hP hav (hρ x) (hρ i)) (by simp only [execOp, hop]; rfl)
  · -- extract
    rename_i x i hop
    split at h
    · rename_i vs hx
      refine good_v hw h (s := Instr.extract (a.eval x) i) (fun av hav => ?_) (by simp only [execOp, hop]; rfl)
      have hv := hρ x
      rw [hx] at hv
      obtain ⟨y, hy, hl⟩ := hv
      obtain ⟨u, h1, h2⟩ := hl.get i av hav
      refine ⟨u, ?_, h2⟩
      rw [hy]
      unfold Instr.extract
      rw [Array.getElem?_toList] at h1
      simp only [h1]; rfl
    · cases h
  · -- call
    rename_i c hop
    have hargs := VL_map hρ c.args.toList
    split at h
    · rename_i gf hcal
      split at h
      · rename_i f first captured hgf
        have hv := hρ gf
        rw [hgf] at hv
        obtain ⟨y, z, hy, hf1, hf2⟩ := hv
        obtain ⟨_, _, _, hcalled⟩ := evCall_called h
        obtain ⟨fn, e1, e2, e3⟩ := hent _ _ _ _ hcalled
        refine (good_call hcall hgl hw h (fun d hd => adoptAt_some hd) hag hfr (vs := (y ++ c.args.map a.eval) ++ z) ?_ ?_).wider fun b hb => hb
        · have := (hf1.append hargs).append hf2
          simpa using this
        · simp only [execOp, hop, resolve, hcal, run_bind2, hy, Deferred.ofValue, run_pure2, Result.andThen_ok, invoke]
          exact callFunc_enter e1 e2 e3 _ w
      · cases h
    · -- len
      rename_i hcal
      have hex : ∀ v, (Builtin.len_ c.argTypes o.type (c.args.map a.eval)).run P w = .ok v w → (execOp a.eval o).run P w = .ok (.value v) w := by
        intro v hv
        simp only [execOp, hop, resolve, hcal, run_bind2, run_pure2, Result.andThen_ok, invoke, builtin, hv]
      split at h
      · rename_i t tr x xr hat hax
        have ht0 : c.argTypes[0]? = some t := by rw [← Array.getElem?_toList, hat]; rfl
        have hx0 : ∃ v vr, c.args.toList.map a.eval = v :: vr ∧ V g x v := by
          have := hargs
          rw [hax] at this
          obtain ⟨v, vr, h1, h2, _⟩ := this
          exact ⟨v, vr, h1, h2⟩
        obtain ⟨v, vr, hv1, hv2⟩ := hx0
        have ha0 : (c.args.map a.eval)[0]? = some v := by rw [← Array.getElem?_toList, Array.toList_map, hv1]; rfl
        split at h
        · rename_i s hd
          cases h
          obtain ⟨_, _, _, d', h1, h2⟩ := descOf_some hP hd
          cases ofDesc_string h2
          simp only [V] at hv2; subst hv2
          refine OpGood.pure hw (hex _ ?_) rfl
          unfold Builtin.len_
          simp only [ht0, ha0, run_bind2, run_under h1, Result.andThen_ok, size_mk]; rfl
        · rename_i n e hd
          cases h
          obtain ⟨_, _, _, d', h1, h2⟩ := descOf_some hP hd
          cases ofDesc_array h2
          refine OpGood.pure hw (hex _ ?_) rfl
          unfold Builtin.len_
          simp only [ht0, ha0, run_bind2, run_under h1, Result.andThen_ok]
          cases v <;> rfl
        · rename_i e tok sz es hd
          cases h
          obtain ⟨_, _, _, d', h1, h2⟩ := descOf_some hP hd
          cases ofDesc_slice h2
          have : ∃ b cap, v = .slice b es.length cap := by
            rcases hv2 with ⟨hb, rfl⟩ | ⟨c, off, cap, rfl, _⟩
            · exact hb.slice
            · exact ⟨_, _, rfl⟩
          obtain ⟨b, cap, rfl⟩ := this
          refine OpGood.pure hw (hex _ ?_) rfl
          unfold Builtin.len_
          simp only [ht0, ha0, run_bind2, run_under h1, Result.andThen_ok]; rfl
        · rename_i e hd
          cases h
          obtain ⟨_, _, _, d', h1, h2⟩ := descOf_some hP hd
          cases ofDesc_slice h2
          simp only [V] at hv2; subst hv2
          refine OpGood.pure hw (hex _ ?_) rfl
          unfold Builtin.len_
          simp only [ht0, ha0, run_bind2, run_under h1, Result.andThen_ok]; rfl
        · rename_i e b sz off len cap hd
          cases h
          obtain ⟨_, _, _, d', h1, h2⟩ := descOf_some hP hd
          cases ofDesc_slice h2
          obtain ⟨c', _, rfl, _⟩ := hv2
          refine OpGood.pure hw (hex _ ?_) rfl
          unfold Builtin.len_
          simp only [ht0, ha0, run_bind2, run_under h1, Result.andThen_ok]; rfl
        · cases h
      · cases h
    · -- append
      rename_i hcal
      split at h
      · rename_i d t u tr s x xr hd hat hax
        have := hargs
        rw [hax] at this
        obtain ⟨v, vr, h1, h2, h3⟩ := this
        obtain ⟨v', vr', h4, h5, h6⟩ := h3
        subst h4
        refine (good_append hP hw h hag (fun hf => ?_) h2 h5 (args := c.args.toList.map a.eval) (ats := c.argTypes.toList) (ty := o.type) (by rw [h1]; rfl) (by rw [hat]; rfl) ?_).wider fun b hb => ⟨hb.1, d, hd, hb.2⟩
        · obtain ⟨d', hd', hcl⟩ := hfr hf
          rw [hd] at hd'; cases hd'; exact hcl
        · intro v w' hv
          have e1 : (c.args.map a.eval) = (c.args.toList.map a.eval).toArray := by apply Array.ext'; simp
          simp only [Array.toArray_toList] at hv
          simp only [execOp, hop, resolve, hcal, run_bind2, run_pure2, Result.andThen_ok, invoke, builtin, e1, hv]
      · cases h
    · -- min
      rename_i hcal
      cases hm : minMax false (c.args.toList.map ρ) with
      | none => rw [hm] at h; cases h
      | some av =>
        rw [hm] at h; cases h
        unfold minMax at hm
        split at hm
        · cases hm
        · rename_i x l hl
          rw [hl] at hargs
          obtain ⟨v, vl, h1, h2, h3⟩ := hargs
          obtain ⟨u, k1, k2⟩ := run_mmFrom (P := P) (w := w) false hm h2 h3
          refine OpGood.pure hw (v := u) ?_ k2
          have e1 : (c.args.map a.eval).toList = v :: vl := by rw [Array.toList_map]; exact h1
          simp only [Bool.false_eq_true, if_false] at k1
          simp only [execOp, hop, resolve, hcal, run_bind2, run_pure2, Result.andThen_ok, invoke, builtin, Builtin.min_, e1]
          rw [show (fun a b => Builtin.min2 a b) = Builtin.min2 from rfl] at k1
          rw [k1]; rfl
    · -- max
      rename_i hcal
      cases hm : minMax true (c.args.toList.map ρ) with
      | none => rw [hm] at h; cases h
      | some av =>
        rw [hm] at h; cases h
        unfold minMax at hm
        split at hm
        · cases hm
        · rename_i x l hl
          rw [hl] at hargs
          obtain ⟨v, vl, h1, h2, h3⟩ := hargs
          obtain ⟨u, k1, k2⟩ := run_mmFrom (P := P) (w := w) true hm h2 h3
          refine OpGood.pure hw (v := u) ?_ k2
          have e1 : (c.args.map a.eval).toList = v :: vl := by rw [Array.toList_map]; exact h1
          simp only [if_true] at k1
          simp only [execOp, hop, resolve, hcal, run_bind2, run_pure2, Result.andThen_ok, invoke, builtin, Builtin.max_, e1]
          rw [show (fun a b => Builtin.max2 a b) = Builtin.max2 from rfl] at k1
          rw [k1]; rfl
    · cases h
  · cases h

end Go.Proofs.Ytbckfbohbjhffaa.AE
