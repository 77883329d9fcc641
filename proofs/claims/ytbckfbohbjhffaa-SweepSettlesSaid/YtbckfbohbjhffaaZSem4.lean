/- A callee's grown slice is handed over; a slice is nil or not. No condition. -/
import Derived.Test.YtbckfbohbjhffaaZSem3
import Derived.Test.YtbckfbohbjhffaaZTyp
set_option linter.unusedVariables false
set_option linter.unusedSimpArgs false
namespace Go.Proofs.Ytbckfbohbjhffaa.AE
open Go

/-- A pointer that is nil, or leads to pinned cells. -/
def oPin {α : Type} (c : α → List AV) : Option α → AV
  | none => .nilp
  | some x => .pin (c x)
theorem Wk.oNil {α : Type} {c : α → List AV} : Wk .nilp (oPin c none) := Wk.refl _
theorem Wk.oPin {α : Type} {c : α → List AV} {x : α} {cs t : List AV} (h : cs = c x ++ t) : Wk (.pin cs) (AE.oPin c (some x)) := h ▸ Wk.pin t
section
variable {Z : Seat} {n : Nat}
def cAd : Cfg := { c0 with adopt := fun _ _ => true }
def callPostA (n : Nat) (S : St) (p : Pre) (r : AV) (H2 : Heap) : Option St :=
  match ren (ofExt p.ids) r, renHeap (ofExt p.ids) H2, p.dst with
  | some _, some ws, some d => match adopt (some d) p.ids r H2 ws with
    | some ra => if clear S d then (setDst n (some d) ra.v S.A).map fun A => ⟨A, insAll S.H ra.ws⟩ else none
    | none => none
  | _, _, _ => none
/-- A call that hands over what it has grown. -/
theorem SO.callA {ops : Array Oper} {k e : Nat} {S : St} {K : St → Prop} (p : Pre) {r : AV} {H2 : Heap} (S1 : St) (hk : k < e) (hp : callPre Z.gl ops k S = some p) (hc : SF Z p.f p.args p.H r H2) (hs : (callPostA n S p r H2).bind (narrow S1) = some S1) (hn : SO Z n ops (k + 1) e S1 K) : SO Z n ops k e S K := by
  unfold callPre at hp
  split at hp
  · cases hp
  rename_i o ho
  split at hp <;> try cases hp
  rename_i hw
  split at hp <;> try cases hp
  rename_i c hop
  split at hp <;> try cases hp
  rename_i x hcal
  split at hp <;> try cases hp
  rename_i f first captured hx
  split at hp <;> try cases hp
  rename_i ids hreach
  split at hp <;> try cases hp
  rename_i hcl
  split at hp <;> try cases hp
  rename_i args' H' ha hH
  obtain ⟨S0, h1, h2⟩ := Option.bind_eq_some_iff.1 hs
  unfold callPostA at h1
  split at h1
  case h_2 => cases h1
  rename_i r' ws d hr hws hdst
  simp only at hc hr hws hdst h1
  split at h1
  case h_2 => cases h1
  rename_i ra had
  split at h1
  case isFalse => cases h1
  rename_i hclear
  have hra : ra.fresh = true := by
    obtain ⟨_, _, _, _, _, _, _, _, _, _, _, rfl⟩ := adopt_some had
    rfl
  obtain ⟨i1, i2⟩ := callL_ok (Z := Z) (l := [(f, cleanL args', H', r, H2)]) ⟨hc, trivial⟩
  cases hd : setDst n (some d) ra.v S.A with
  | none => rw [hd] at h1; cases h1
  | some A =>
    rw [hd] at h1
    cases h1
    refine SO.step (cfg := cAd) (f := 0) i1 i2 hk ho (S1 := ⟨A, insAll S.H ra.ws⟩) (r := ra) ?_ h2 hn
    unfold evStep
    rw [hw]
    simp only [evOp, hop, hcal, hx]
    unfold evCall
    rw [hreach]
    simp only
    rw [if_neg hcl]
    simp only [ha, hH, cAd, c0, Bool.false_eq_true, if_false, callL_hd, hr, hws]
    have : adoptAt { ro := fun _ => false, acc := fun _ _ => false, accCells := fun _ _ => [], kill := fun _ _ => none, adopt := fun _ _ => true, plainAp := fun _ _ => false } 0 o.dst = some d := by
      unfold adoptAt; rw [hdst]; simp
    rw [this, had]
    simp only [Option.getD_some, hra, hdst, hclear, if_true, Bool.not_true, Bool.and_false, Bool.false_eq_true, if_false, hd, Option.map_some]
/-- .. a list that it has grown. -/
theorem SO.callC {α : Type} (E : LE α) (l : List α) {ops : Array Oper} {k e : Nat} {S : St} {K : St → Prop} (p : Pre) (b s d : Nat) (S1 : St) (hk : k < e) (hp : callPre Z.gl ops k S = some p) (hd : p.dst = some d) (hcl : clear S d = true)
    (hc : SF Z p.f p.args p.H (.slice (.buf (.loc b)) s (E.F l)) [(.loc b, .buf s l.length)])
    (hs : ((setDst n (some d) (.slice (.buf (.loc d)) s (E.F l)) S.A).map fun A => (⟨A, insAll S.H [(.loc d, .buf s l.length)]⟩ : St)).bind (narrow S1) = some S1) (hn : SO Z n ops (k + 1) e S1 K) : SO Z n ops k e S K := by
  refine SO.callA p S1 hk hp hc ?_ hn
  have h1 : adopt (some d) p.ids (.slice (.buf (.loc b)) s (E.F l)) [(.loc b, .buf s l.length)] [] = some { v := .slice (.buf (.loc d)) s (E.F l), ws := [(.loc d, .buf s l.length)], rd := p.ids, fresh := true } := by
    simp [adopt, ofExt, find, LE.len]
  have h2 : callPostA n S p (.slice (.buf (.loc b)) s (E.F l)) [(.loc b, .buf s l.length)] = (setDst n (some d) (.slice (.buf (.loc d)) s (E.F l)) S.A).map fun A => (⟨A, insAll S.H [(.loc d, .buf s l.length)]⟩ : St) := by
    unfold callPostA
    have e1 : renHeap (ofExt p.ids) [(.loc b, .buf s l.length)] = some [] := by simp [renHeap, ofExt]
    have e2 : ∃ r', ren (ofExt p.ids) (.slice (.buf (.loc b)) s (E.F l)) = some r' := ⟨_, rfl⟩
    obtain ⟨r', e2⟩ := e2
    rw [e1, e2, hd]
    simp only [h1, hcl, if_true]
  rw [h2]; exact hs
/-- A slice of no sure member: is it nil? -/
theorem run_isNil {P : Program} {tb : List TI} (hP : TbOk P tb) {g : Gh} {w : World} {t e : TypeId} {tok : Tok} {s : Nat} {es : List AV} (ht : descOf tb t = some (.slice e)) {v : Value} (hv : V g (.slice tok s es) v) (ox oy : Operand) (neg : Bool) :
    ∃ b : Bool, (do eqGuard (if neg then .neq else .eql) t ox oy v (.slice none 0 0); binOp (if neg then .neq else .eql) t v (.slice none 0 0) : Sem Value).run P w = .ok (.bool b) w := by
  obtain ⟨p, len, cap, rfl⟩ : ∃ p len cap, v = .slice p len cap := by
    simp only [V] at hv
    rcases hv with ⟨hb, _⟩ | ⟨c, off, cap, h, _⟩
    · obtain ⟨p, cap, h⟩ := hb.slice
      exact ⟨p, 0, cap, h⟩
    · exact ⟨_, _, _, h⟩
  obtain ⟨_, _, _, d', h1, h2⟩ := descOf_some hP ht
  cases ofDesc_slice h2
  have heq0 : ∀ n, ∃ b : Bool, (Op.equalIn (n + 1) t (.slice p len cap) (.slice none 0 0) : Sem Bool).run P w = .ok b w := by
    intro n
    cases p with
    | none => refine ⟨true, ?_⟩; simp only [Op.equalIn, run_bind2, run_under h1]; rfl
    | some a => refine ⟨false, ?_⟩; simp only [Op.equalIn, run_bind2, run_under h1]; rfl
  have heq : ∃ b : Bool, (Op.equal t (.slice p len cap) (.slice none 0 0) : Sem Bool).run P w = .ok b w := by
    unfold Op.equal
    exact heq0 9999
  obtain ⟨b, hb⟩ := heq
  cases neg with
  | false =>
    refine ⟨b, ?_⟩
    rw [if_neg (by simp)]
    rw [run_bind2, run_eqGuard (.inl rfl), Result.andThen_ok, binOp_eql (P := P) (by rintro _ _ _ _ ⟨h, _⟩; cases h) (by rintro _ _ ⟨h, _⟩; cases h) (by rintro _ _ h; cases h) (by rintro _ _ _ h; cases h), run_bind2, hb]
    rfl
  | true =>
    refine ⟨!b, ?_⟩
    rw [if_pos rfl]
    rw [run_bind2, run_eqGuard (.inl rfl), Result.andThen_ok, binOp_neq (P := P) (by rintro _ _ _ _ ⟨h, _⟩; cases h) (by rintro _ _ ⟨h, _⟩; cases h) (by rintro _ _ h; cases h) (by rintro _ _ _ h; cases h), run_bind2, hb]
    rfl
def isNilOp (tb : List TI) (gl : List (Nat × List AV)) (S : St) (o : Oper) : Bool :=
  match o.op with
  | .binOp .eql t x (.const (.slice none 0 0)) _ => match descOf tb t, evalA gl S.A x with
    | some (.slice _), .slice _ _ _ => true
    | _, _ => false
  | .binOp .neq t x (.const (.slice none 0 0)) _ => match descOf tb t, evalA gl S.A x with
    | some (.slice _), .slice _ _ _ => true
    | _, _ => false
  | _ => false
def askPre (tb : List TI) (gl : List (Nat × List AV)) (ops : Array Oper) (k : Nat) (S : St) : Option Nat :=
  match ops[k]? with
  | none => none
  | some o => match evWanted ops S.A o, o.dst with
    | some true, some d => if isNilOp tb gl S o then some d else none
    | _, _ => none
theorem SO.ask {ops : Array Oper} {k e : Nat} {S : St} {K : St → Prop} (d : Nat) (hk : k < e) (F : Bool → St) (hp : askPre Z.tb Z.gl ops k S = some d) (hs : ∀ b, ((setDst n (some d) (.bool b) S.A).map fun A => (⟨A, S.H⟩ : St)).bind (narrow (F b)) = some (F b)) (hn : ∀ b, SO Z n ops (k + 1) e (F b) K) : SO Z n ops k e S K := by
  unfold askPre at hp
  split at hp
  · cases hp
  rename_i o ho
  split at hp
  case h_2 => cases hp
  rename_i d' hw hd
  split at hp
  case isFalse => cases hp
  rename_i hnil
  cases hp
  intro g a w hS Q m hq
  have hρ : ∀ x, V g (evalA Z.gl S.A x) (a.eval x) := fun x => hS.eval x
  have hrun : ∃ b : Bool, (execOp a.eval o).run Z.P w = .ok (.value (.bool b)) w := by
    unfold isNilOp at hnil
    split at hnil
    · rename_i t x aux hop
      split at hnil
      · rename_i e' tok s es ht hx
        have hv := hρ x
        rw [hx] at hv
        obtain ⟨b, hb⟩ := run_isNil Z.hP ht hv x (.const (.slice none 0 0)) false (w := w)
        exact ⟨b, by simp only [execOp, hop]; exact run_v hb⟩
      · cases hnil
    · rename_i t x aux hop
      split at hnil
      · rename_i e' tok s es ht hx
        have hv := hρ x
        rw [hx] at hv
        obtain ⟨b, hb⟩ := run_isNil Z.hP ht hv x (.const (.slice none 0 0)) true (w := w)
        exact ⟨b, by simp only [execOp, hop]; exact run_v hb⟩
      · cases hnil
    · cases hnil
  obtain ⟨b, hb⟩ := hrun
  have hwt : Region.wanted o (yielded ops a.tmps) = true := wanted_spec hS.vals _ hw
  obtain ⟨S0, q1, q2⟩ := Option.bind_eq_some_iff.1 (hs b)
  cases hset : setDst n (some d) (.bool b) S.A with
  | none => rw [hset] at q1; cases q1
  | some A =>
    rw [hset] at q1; cases q1
    have st : StepTo Z.gl n g S w ⟨A, S.H⟩ (a.put o.dst (.bool b)) w :=
      ⟨g, ⟨hS.wc, vals_put hS.size (by rw [hd]; exact hset) (show V g (.bool b) (.bool b) from rfl) (fun t _ => hS.vals t), by rw [put_size]; exact hS.size, by rw [put_defers]; exact hS.defers, hS.glob⟩, Ctx.refl _ _ _, Keep.refl _ _, fun _ _ h => h⟩
    obtain ⟨g1, k1, k2, k3, k4⟩ := narrow_good st q2
    rw [show e - k + m = (e - (k + 1) + m) + 1 by omega]
    simp only [List.range'_succ, wpOps, ho]
    rw [if_pos hwt]
    refine .inl ?_
    unfold Oper.wp
    rw [hb]
    exact hn b g1 _ w k1 Q m fun S' a'' w'' hK st2 => hq S' a'' w'' hK (StepTo.trans k2 k3 k4 st2)
/-! ### nil slices, told as slices of no sure member -/
def nilAs (s : Nat) : AV → AV
  | .nils => .slice .none s []
  | a => a
theorem V_nilAs {g : Gh} (s : Nat) : ∀ {a : AV} {v : Value}, V g a v → V g (nilAs s a) v := by
  intro a v h
  unfold nilAs
  split
  · simp only [V] at h ⊢
    exact .inl ⟨.inl h, trivial⟩
  · exact h
def evOpN (tb : List TI) (gl : List (Nat × List AV)) (ops : Array Oper) (k : Nat) (S : St) (s : Nat) : Option OpR :=
  match ops[k]? with
  | none => none
  | some o => match evWanted ops S.A o with
    | some true => evOp tb c0 noCall 0 (fun x => nilAs s (evalA gl S.A x)) S.H o
    | _ => none
def putN (n : Nat) (ops : Array Oper) (k : Nat) (S : St) (r : OpR) : Option St :=
  match ops[k]? with
  | none => none
  | some o => putO n o r S
theorem SO.opN {ops : Array Oper} {k e : Nat} {S : St} {K : St → Prop} (s : Nat) (r : OpR) (S1 : St) (hk : k < e) (h : evOpN Z.tb Z.gl ops k S s = some r) (hf : r.fresh = false) (hs : (putN n ops k S r).bind (narrow S1) = some S1) (hn : SO Z n ops (k + 1) e S1 K) : SO Z n ops k e S K := by
  unfold evOpN at h
  split at h
  · cases h
  rename_i o ho
  split at h
  case h_2 => cases h
  rename_i hw
  obtain ⟨S0, q1, q2⟩ := Option.bind_eq_some_iff.1 hs
  unfold putN putO at q1
  rw [ho] at q1
  simp only at q1
  intro g a w hS Q m hq
  have hwt : Region.wanted o (yielded ops a.tmps) = true := wanted_spec hS.vals _ hw
  cases hset : setDst n o.dst r.v S.A with
  | none => rw [hset] at q1; cases q1
  | some A =>
    rw [hset] at q1; cases q1
    rw [show e - k + m = (e - (k + 1) + m) + 1 by omega]
    simp only [List.range'_succ, wpOps, ho]
    rw [if_pos hwt]
    refine .inl ?_
    refine evOp_good Z.hP (noCall_ok Z) (noCall_ent Z) hS.glob hS.wc (ρ := fun x => nilAs s (evalA Z.gl S.A x)) (fun x => V_nilAs s (hS.eval x)) h (Agree.refl _ _) (fun hfr => by rw [hf] at hfr; cases hfr) _ Q fun v w' g' st => ?_
    have hne : ∀ b, ¬ Fr r o b := fun b hF => by have := hF.1; rw [hf] at this; cases this
    have stp : StepTo Z.gl n g S w ⟨A, insAll S.H r.ws⟩ (a.put o.dst v) w' :=
      ⟨g', ⟨st.wc, vals_put hS.size hset st.val (fun t _ => st.keep.V ⟨fun b _ hF => hne b hF, fun b _ hF => hne b hF⟩ (hS.vals t)), by rw [put_size]; exact hS.size, by rw [put_defers]; exact hS.defers, fun x hx => (hS.glob x hx).mono st.keep.gam⟩,
        st.ctx, st.keep.wider (fun b hF => (hne b hF).elim), pers_insAll _ _⟩
    obtain ⟨g1, k1, k2, k3, k4⟩ := narrow_good stp q2
    exact hn g1 _ w' k1 Q m fun S' a'' w'' hK st2 => hq S' a'' w'' hK (StepTo.trans k2 k3 k4 st2)
end
end Go.Proofs.Ytbckfbohbjhffaa.AE
