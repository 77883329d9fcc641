/- Code, bodies, functions. No condition. -/
import Derived.Test.YtbckfbohbjhffaaZDraw2
import Derived.LoopN
set_option linter.unusedVariables false
set_option linter.unusedSimpArgs false
namespace Go.Proofs.Ytbckfbohbjhffaa.AE
open Go

section
variable {P : Program} {tb : List TI} {cfg : Cfg} {gl : List (Nat × List AV)} {call : CallF} {n : Nat} {fid : FuncId}

/-! ### a region in the order of the text -/
theorem evOps_good (hP : TbOk P tb) (hcall : CallOk P gl call) (hent : Enters P call) {ops : Array Oper} {Q : Exit → Act → World → Prop} : ∀ (l : List Oper) (k : Nat) {g : Gh} {S S' : St} {a : Act} {w : World}, StOk gl n g S a w →
    evOps tb cfg gl call fid n ops l S = some S' → (∀ i, i < l.length → ops[k + i]? = l[i]?) → (∀ a' w', StepTo gl n g S w S' a' w' → Q .normal a' w') → wpOps P ops Q (List.range' k l.length) a w
  | [], k, g, S, S', a, w, hS, h, _, hQ => by
    simp only [evOps] at h
    cases h
    exact hQ a w (StepTo.refl hS)
  | o :: l, k, g, S, S', a, w, hS, h, hl, hQ => by
    simp only [evOps] at h
    split at h
    · rename_i S1 r hst
      have ho : ops[k]? = some o := by have := hl 0 (by simp); simpa using this
      have main := evStep_good hP hcall hent hS hst (wpOps P ops Q (List.range' (k + 1) l.length)) Q fun a' w' st => by
        obtain ⟨g1, k1, k2, k3, k4⟩ := st
        exact evOps_good hP hcall hent l (k + 1) k1 h (fun i hi => by have := hl (i + 1) (by simpa using hi); simp only [List.getElem?_cons_succ] at this; rw [← this]; congr 1; omega)
          fun a' w' st => hQ a' w' (StepTo.trans k2 k3 k4 st)
      simp only [List.length_cons, List.range'_succ, wpOps, ho]
      cases hw : Region.wanted o (yielded ops a.tmps) with
      | true => simp only [if_true]; exact .inl (main.1 hw)
      | false => simp only [Bool.false_eq_true, if_false]; exact main.2 hw
    · cases h

theorem kill_good {g : Gh} {S S1 : St} {a' : Act} {w w' : World} (h : StepTo gl n g S w S1 a' w') (ts ds : List Nat) : StepTo gl n g S w (killAll ts ds S1) a' w' := by
  obtain ⟨g1, k1, k2, k3, k4⟩ := h
  have hless : Less S1.H (killAll ts ds S1).H := by
    refine ⟨fun b ob' hb => ?_⟩
    simp only [killAll] at hb
    rw [find_filter (fun x : Oid × Ob => !killed ds x.1) (fun b => !killed ds b) (fun _ => rfl)] at hb
    split at hb
    · exact ⟨ob', fun _ => false, hb, (obStrip_never ob').symm⟩
    · cases hb
  obtain ⟨l1, l2, l3⟩ := k1.wc.less hless
  refine ⟨g1.heap (killAll ts ds S1).H, ⟨l1, fun t => ?_, k1.size, k1.defers, fun x hx => (k1.glob x hx).mono l2.gam⟩, k2.trans l3, k3.trans (l2.wider fun _ h => h.elim), k4.trans ?_⟩
  · have hv : V g1 (getA (killAll ts ds S1).A t) (a'.tmps.getD t undef) := by
      simp only [getA, killAll]
      rw [find_filter (fun x : Nat × AV => ts.contains x.1) (fun b => ts.contains b) (fun _ => rfl)]
      split
      · exact k1.vals t
      · simp only [Option.getD_none]; trivial
    exact l2.V (Off.none _) hv
  · rintro e ⟨i, hi⟩ h
    simp only [killAll]
    rw [find_filter (fun x : Oid × Ob => !killed ds x.1) (fun b => !killed ds b) (fun _ => rfl), if_pos (by simp [killed, hi])]
    exact h

/-! ### code -/
def CodePost (gl : List (Nat × List AV)) (n : Nat) (g : Gh) (S : St) (w : World) (x : Ex) (S' : St) : Exit → Act → World → Prop
  | .normal, a', w' => x = .normal ∧ StepTo gl n g S w S' a' w'
  | .exit id, a', w' => x = .exit id ∧ StepTo gl n g S w S' a' w'
  | .ret, a', w' => x = .ret ∧ StepTo gl n g S w S' a' w'
  | _, _, _ => False
theorem CodePost.trans {g g1 : Gh} {S S1 S' : St} {w w1 : World} {x : Ex} (h1 : Ctx w g S.H g1 S1.H w1) (h2 : Keep (fun b => ¬ IsExt b) g g1) (h3 : Pers S.H S1.H) :
    ∀ e a' w', CodePost gl n g1 S1 w1 x S' e a' w' → CodePost gl n g S w x S' e a' w'
  | .normal, _, _, h => ⟨h.1, StepTo.trans h1 h2 h3 h.2⟩
  | .exit _, _, _, h => ⟨h.1, StepTo.trans h1 h2 h3 h.2⟩
  | .ret, _, _, h => ⟨h.1, StepTo.trans h1 h2 h3 h.2⟩
  | .goto _, _, _, h => h
  | .panic _, _, _, h => h
  | .outgrown, _, _, h => h

def CodeGood (P : Program) (gl : List (Nat × List AV)) (n : Nat) (F : St → Option (Ex × St)) (c : Code) : Prop :=
  ∀ g S a w x S', StOk gl n g S a w → F S = some (x, S') → c.wp P (CodePost gl n g S w x S') a w

theorem loop_good {F : St → Option (Ex × St)} {c : Code} (hc : CodeGood P gl n F c) : ∀ k g S a w x S', StOk gl n g S a w → loopN F k S = some (x, S') →
    Code.rounds P c (CodePost gl n g S w x S') k a w ∧ x ≠ .normal
  | 0, _, _, _, _, _, _, _, h => by simp [loopN] at h
  | k + 1, g, S, a, w, x, S', hS, h => by
    simp only [loopN] at h
    cases hF : F S with
    | none => rw [hF] at h; cases h
    | some y =>
      obtain ⟨y, S1⟩ := y
      rw [hF] at h
      have hwp := hc g S a w y S1 hS hF
      cases y with
      | normal =>
        simp only at h
        constructor
        · rw [rounds_succ]
          refine wp_mono hwp fun e a1 w1 hp => ?_
          cases e with
          | normal =>
            obtain ⟨_, g1, k1, k2, k3, k4⟩ := hp
            have ih := (loop_good hc k g1 S1 a1 w1 x S' k1 h).1
            exact rounds_mono k (CodePost.trans k2 k3 k4) ih
          | exit id => exact (by cases hp.1)
          | ret => exact (by cases hp.1)
          | goto _ => exact hp.elim
          | panic _ => exact hp.elim
          | outgrown => exact hp.elim
        · -- some round comes out
          intro e; subst e
          exact loop_not_normal k S1 h
      | exit id =>
        simp only at h
        cases h
        refine ⟨?_, by simp⟩
        rw [rounds_succ]
        refine wp_mono hwp fun e a1 w1 hp => ?_
        cases e with
        | normal => exact (by cases hp.1)
        | exit id => exact hp
        | ret => exact hp
        | goto _ => exact hp.elim
        | panic _ => exact hp.elim
        | outgrown => exact hp.elim
      | ret =>
        simp only at h
        cases h
        refine ⟨?_, by simp⟩
        rw [rounds_succ]
        refine wp_mono hwp fun e a1 w1 hp => ?_
        cases e with
        | normal => exact (by cases hp.1)
        | exit id => exact hp
        | ret => exact hp
        | goto _ => exact hp.elim
        | panic _ => exact hp.elim
        | outgrown => exact hp.elim
where
  rounds_mono {c : Code} {Q Q' : Exit → Act → World → Prop} : ∀ (k : Nat) (_ : ∀ e a w, Q e a w → Q' e a w) {a : Act} {w : World}, Code.rounds P c Q k a w → Code.rounds P c Q' k a w
    | 0, _, _, _, h => h.elim
    | k + 1, hq, a, w, h => by
      rw [rounds_succ] at h ⊢
      refine wp_mono h fun e a w hp => ?_
      cases e with
      | normal => exact rounds_mono k hq hp
      | exit id => exact hq _ _ _ hp
      | ret => exact hq _ _ _ hp
      | goto _ => exact hq _ _ _ hp
      | panic _ => exact hq _ _ _ hp
      | outgrown => exact hq _ _ _ hp
  loop_not_normal {F : St → Option (Ex × St)} {S' : St} : ∀ k S, loopN F k S ≠ some (.normal, S')
    | 0, S => by simp [loopN]
    | k + 1, S => by
      simp only [loopN]
      cases hF : F S with
      | none => simp
      | some y =>
        obtain ⟨y, S1⟩ := y
        cases y with
        | normal => exact loop_not_normal k S1
        | exit id => simp
        | ret => simp

theorem evCode_good (hP : TbOk P tb) (hcall : CallOk P gl call) (hent : Enters P call) (hm : P.follows .mixedOrders = true) (k : Nat) : ∀ c : Code, CodeGood P gl n (evCode tb cfg gl call fid n k c) c := by
  intro c
  induction c with
  | skip =>
    intro g S a w x S' hS h
    simp only [evCode] at h
    cases h
    exact wp_skip ⟨rfl, StepTo.refl hS⟩
  | region id ops draw =>
    intro g S a w x S' hS h
    simp only [evCode] at h
    split at h
    · rename_i S1 hS1
      cases h
      have hkill : ∀ a' w', StepTo gl n g S w S1 a' w' → StepTo gl n g S w (killO (cfg.kill fid id) S1) a' w' := by
        intro a' w' st
        unfold killO
        split
        · exact st
        · exact kill_good st _ _
      cases draw with
      | true =>
        rw [if_pos rfl] at hS1
        exact evDraw_good hP hcall hent hm hS hS1 fun a' w' st => ⟨rfl, hkill _ _ st⟩
      | false =>
        rw [if_neg (by simp)] at hS1
        refine wp_region ?_
        rw [List.range_eq_range']
        have := evOps_good (Q := CodePost gl n g S w .normal (killO (cfg.kill fid id) S1)) hP hcall hent ops.toList 0 hS hS1 (fun i hi => by simp) fun a' w' st => ⟨rfl, hkill _ _ st⟩
        simpa using this
    · cases h
  | seq c d ihc ihd =>
    intro g S a w x S' hS h
    simp only [evCode] at h
    cases hc : evCode tb cfg gl call fid n k c S with
    | none => rw [hc] at h; cases h
    | some y =>
      obtain ⟨y, S1⟩ := y
      rw [hc] at h
      refine wp_seq (wp_mono (ihc g S a w y S1 hS hc) fun e a1 w1 hp => ?_)
      cases y with
      | normal =>
        cases e with
        | normal =>
          obtain ⟨_, g1, k1, k2, k3, k4⟩ := hp
          exact wp_mono (ihd g1 S1 a1 w1 x S' k1 h) (CodePost.trans k2 k3 k4)
        | exit id => exact (by cases hp.1)
        | ret => exact (by cases hp.1)
        | goto _ => exact hp.elim
        | panic _ => exact hp.elim
        | outgrown => exact hp.elim
      | exit id =>
        simp only at h
        cases h
        cases e with
        | normal => exact (by cases hp.1)
        | exit id => exact hp
        | ret => exact hp
        | goto _ => exact hp.elim
        | panic _ => exact hp.elim
        | outgrown => exact hp.elim
      | ret =>
        simp only at h
        cases h
        cases e with
        | normal => exact (by cases hp.1)
        | exit id => exact hp
        | ret => exact hp
        | goto _ => exact hp.elim
        | panic _ => exact hp.elim
        | outgrown => exact hp.elim
  | cond c d e ihd ihe =>
    intro g S a w x S' hS h
    simp only [evCode] at h
    have hv := hS.eval c
    split at h
    · rename_i he; rw [he] at hv; exact wp_cond_true hv (ihd g S a w x S' hS h)
    · rename_i he; rw [he] at hv; exact wp_cond_false hv (ihe g S a w x S' hS h)
    · cases h
  | block id c ihc =>
    intro g S a w x S' hS h
    simp only [evCode] at h
    cases hc : evCode tb cfg gl call fid n k c S with
    | none => rw [hc] at h; cases h
    | some y =>
      obtain ⟨y, S1⟩ := y
      rw [hc] at h
      refine wp_block (wp_mono (ihc g S a w y S1 hS hc) fun e a1 w1 hp => ?_)
      cases y with
      | normal =>
        cases h
        cases e with
        | normal => exact hp
        | exit id => exact (by cases hp.1)
        | ret => exact (by cases hp.1)
        | goto _ => exact hp.elim
        | panic _ => exact hp.elim
        | outgrown => exact hp.elim
      | exit id' =>
        simp only at h
        cases e with
        | normal => exact (by cases hp.1)
        | exit id2 =>
          obtain ⟨e1, st⟩ := hp
          cases e1
          simp only [Exit.inBlock]
          by_cases e2 : id' = id
          · rw [if_pos e2] at h ⊢; cases h; exact ⟨rfl, st⟩
          · rw [if_neg e2] at h ⊢; cases h; exact ⟨rfl, st⟩
        | ret => exact (by cases hp.1)
        | goto _ => exact hp.elim
        | panic _ => exact hp.elim
        | outgrown => exact hp.elim
      | ret =>
        simp only at h
        cases h
        cases e with
        | normal => exact (by cases hp.1)
        | exit id => exact (by cases hp.1)
        | ret => exact hp
        | goto _ => exact hp.elim
        | panic _ => exact hp.elim
        | outgrown => exact hp.elim
  | loop c ihc =>
    intro g S a w x S' hS h
    simp only [evCode] at h
    exact wp_loop_rounds k (loop_good ihc k g S a w x S' hS h).1
  | exit id =>
    intro g S a w x S' hS h
    simp only [evCode] at h
    cases h
    exact wp_exit ⟨rfl, StepTo.refl hS⟩
  | ret =>
    intro g S a w x S' hS h
    simp only [evCode] at h
    cases h
    exact wp_ret ⟨rfl, StepTo.refl hS⟩
  | _ =>
    intro g S a w x S' hS h
    simp [evCode] at h

/-! ### results -/
theorem getA_args {g : Gh} : ∀ (args : List AV) (vs : List Value) (i j : Nat), VL g args vs → V g (getA (argSlots i args) (i + j)) ((vs[j]?).getD undef)
  | [], vs, i, j, h => by simp [argSlots, getA, find, V]
  | a :: as, _, i, j, h => by
    simp only [VL] at h
    obtain ⟨v, vs, rfl, hv, h⟩ := h
    cases j with
    | zero => simp [argSlots, getA, find]; exact hv
    | succ j =>
      have ih := getA_args as vs (i + 1) j h
      simp only [argSlots, getA, find, if_neg (show i ≠ i + (j + 1) by omega), List.getElem?_cons_succ]
      rw [show i + (j + 1) = i + 1 + j by omega]
      exact ih

theorem run_loadVar {g : Gh} {t : TypeId} {av : AV} {v u : Value} {w : World} {H : Heap} {r : OpR} (he : evLoad tb H t av = some r) (hv : V g av v) (h : (Instr.loadAt t v).run P w = .ok u w) :
    (asAddr v >>= fun x => loadVar t x).run P w = .ok u w := by
  unfold evLoad at he
  split at he
  · obtain ⟨c, off, rfl, _⟩ := hv
    exact h
  · obtain ⟨c, _, rfl⟩ := hv
    exact h
  · cases he

def resF (a : Act) : ResultVar → Sem Value
  | .tmp t => pure (a.tmps.getD t undef)
  | .cell b t => do loadVar t (← asAddr (a.tmps.getD b undef))
theorem evResults_good (hP : TbOk P tb) {g : Gh} {S : St} {a : Act} {w : World} (hS : StOk gl n g S a w) : ∀ (rs : List ResultVar) (vs : List AV), evResults tb S rs = some vs →
    ∃ us, (rs.mapM (resF a)).run P w = .ok us w ∧ VL g vs us
  | [], vs, h => by
    simp only [evResults] at h
    cases h
    exact ⟨[], by rw [List.mapM_nil]; rfl, rfl⟩
  | x :: rs, vs, h => by
    simp only [evResults] at h
    split at h
    · rename_i v vs' hv hvs
      cases h
      obtain ⟨us, h1, h2⟩ := evResults_good hP hS rs vs' hvs
      have hx : ∃ u, (resF a x).run P w = .ok u w ∧ V g v u := by
        cases x with
        | tmp t =>
          simp only [evResult] at hv
          cases hv
          exact ⟨_, rfl, hS.vals t⟩
        | cell b t =>
          simp only [evResult] at hv
          cases he : evLoad tb S.H t (getA S.A b) with
          | none => rw [he] at hv; cases hv
          | some r =>
            rw [he] at hv; cases hv
            obtain ⟨⟨u, k1, k2⟩, _⟩ := run_evLoad hP hS.wc he (Agree.refl _ _) (hS.vals b)
            exact ⟨u, run_loadVar he (hS.vals b) k1, k2⟩
      obtain ⟨u, k1, k2⟩ := hx
      refine ⟨u :: us, ?_, u, us, rfl, k2, h2⟩
      rw [List.mapM_cons, run_bind2, k1, Result.andThen_ok, run_bind2, h1]
      rfl
    · cases h

theorem results_good (hP : TbOk P tb) {g : Gh} {S : St} {a : Act} {w : World} (hS : StOk gl n g S a w) {fn : Func} {vs : List AV} (h : evResults tb S fn.results.toList = some vs) :
    ∃ v, (results fn a.tmps).run P w = .ok v w ∧ V g (oneOr vs) v := by
  obtain ⟨us, h1, h2⟩ := evResults_good hP hS _ vs h
  have e : results fn a.tmps = (fn.results.mapM (resF a) >>= fun vs => pure (if h : vs.size = 1 then vs[0] else .tuple vs)) := by
    unfold results
    rfl
  rw [e, run_bind2, Array.mapM_eq_mapM_toList, Sem.run_map, h1]
  simp only [Result.andThen_ok]
  have hl := VL.length h2
  by_cases h1 : us.length = 1
  · obtain ⟨u, rfl⟩ := List.length_eq_one_iff.1 h1
    obtain ⟨v, rfl⟩ := List.length_eq_one_iff.1 (by rw [← hl]; exact h1 : vs.length = 1)
    obtain ⟨v1, vs1, e, k1, _⟩ := h2
    cases e
    exact ⟨u, rfl, k1⟩
  · refine ⟨.tuple us.toArray, ?_, ?_⟩
    · simp only [List.size_toArray, h1, dite_false]; rfl
    · have : oneOr vs = .tuple vs := by
        match vs, hl with
        | [], _ => rfl
        | [_], hl => exact (h1 (by simpa using hl)).elim
        | _ :: _ :: _, _ => rfl
      rw [this]
      exact ⟨us.toArray, rfl, by simpa using h2⟩

/-! ### functions -/
theorem evBody_good (hP : TbOk P tb) (hcall : CallOk P gl call) (hent : Enters P call) (hm : P.follows .mixedOrders = true) {k : Nat} {f : FuncId} {fn : Func} (hf : P.funcs[f]? = some fn) {args : List AV} {H H' : Heap} {r : AV}
    (h : evBody tb cfg gl k call f fn args H = some (r, H')) {g : Gh} {vs : Array Value} {w : World} (hw : WC g H w) (hv : VL g args vs.toList) (hgl : Glob gl g) : Calls P f vs w (RetPost g H w r H') := by
  unfold evBody at h
  split at h
  · cases h
  · rename_i c hb
    split at h
    · rename_i hc
      refine calls_of_wp hf hb ?_
      have hlen : vs.size = args.length := by have := VL.length hv; simpa using this
      have hS : StOk gl fn.ntmps g ⟨argSlots 0 args, H⟩ { tmps := vs ++ Array.replicate (fn.ntmps - vs.size) undef, defers := [] } w := by
        refine ⟨hw, fun t => ?_, by simp; omega, rfl, hgl⟩
        have := getA_args args vs.toList 0 t hv
        rw [Nat.zero_add] at this
        show V g (getA (argSlots 0 args) t) _
        rw [Array.getD_eq_getD_getElem?, Array.getElem?_append]
        split
        · rw [Array.getElem?_toList] at this; exact this
        · rename_i hge
          rw [Array.getElem?_toList, Array.getElem?_eq_none (by omega)] at this
          have e : ((Array.replicate (fn.ntmps - vs.size) undef)[t - vs.size]?).getD undef = undef := by
            rw [Array.getElem?_replicate]; split <;> rfl
          rw [e]; exact this
      have hres : ∀ S vs1, evResults tb S fn.results.toList = some vs1 → ∀ a' w', StepTo gl fn.ntmps g ⟨argSlots 0 args, H⟩ w S a' w' →
          a'.defers = [] ∧ ∃ v, (results fn a'.tmps).run P w' = .ok v w' ∧ RetPost g H w (oneOr vs1) S.H (.returned v) w' := by
        rintro S vs1 hr a' w' ⟨g1, k1, k2, k3, k4⟩
        obtain ⟨v, h1, h2⟩ := results_good hP k1 hr
        exact ⟨k1.defers, v, h1, v, g1, rfl, ⟨h2, k1.wc, k3, k2, k4⟩⟩
      cases hcode : evCode tb cfg gl call f fn.ntmps k c ⟨argSlots 0 args, H⟩ with
      | none => rw [hcode] at h; cases h
      | some y =>
        obtain ⟨x, S⟩ := y
        rw [hcode] at h
        have hgood : ∀ vs1, evResults tb S fn.results.toList = some vs1 → x = .normal ∨ x = .ret → oneOr vs1 = r ∧ S.H = H' → c.wp P (bodyPost P fn (RetPost g H w r H')) { tmps := vs ++ Array.replicate (fn.ntmps - vs.size) undef, defers := [] } w := by
          rintro vs1 hr hx ⟨rfl, rfl⟩
          refine wp_mono (evCode_good hP hcall hent hm k c g _ _ w x S hS hcode) fun e a' w' hp => ?_
          cases e with
          | normal => exact hres S vs1 hr a' w' hp.2
          | exit id =>
            obtain ⟨e, _⟩ := hp
            subst e
            rcases hx with hx | hx <;> cases hx
          | ret => exact hres S vs1 hr a' w' hp.2
          | goto _ => exact hp.elim
          | panic _ => exact hp.elim
          | outgrown => exact hp.elim
        cases x with
        | exit id => cases h
        | normal =>
          simp only at h
          split at h
          · rename_i vs1 hr; cases h; exact hgood vs1 hr (.inl rfl) ⟨rfl, rfl⟩
          · cases h
        | ret =>
          simp only at h
          split at h
          · rename_i vs1 hr; cases h; exact hgood vs1 hr (.inr rfl) ⟨rfl, rfl⟩
          · cases h
    · cases h

/-- What the evaluator says is so. -/
theorem ev_good (hP : TbOk P tb) (hm : P.follows .mixedOrders = true) : ∀ k, CallOk P gl (ev tb P cfg gl k) ∧ Enters P (ev tb P cfg gl k)
  | 0 => ⟨fun f args H r H' h => by simp [ev] at h, fun f args H x h => by simp [ev] at h⟩
  | k + 1 => by
    obtain ⟨ih1, ih2⟩ := ev_good hP hm k
    refine ⟨fun f args H r H' h g vs w hw hv hgl => ?_, fun f args H x h => ?_⟩
    · simp only [ev] at h
      split at h
      · rename_i fn hf
        exact evBody_good hP ih1 ih2 hm hf h hw hv hgl
      · cases h
    · simp only [ev] at h
      split at h
      · rename_i fn hf
        unfold evBody at h
        split at h
        · cases h
        · rename_i c hb
          split at h
          · rename_i hc
            exact ⟨fn, hf, hc.2, by rw [hb]; rfl⟩
          · cases h
      · cases h
end

end Go.Proofs.Ytbckfbohbjhffaa.AE
