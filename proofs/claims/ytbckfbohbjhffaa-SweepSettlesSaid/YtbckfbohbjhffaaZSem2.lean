/- Regions whose order is drawn, in states of the evaluator. No condition. -/
import Derived.Test.YtbckfbohbjhffaaZSem
set_option linter.unusedVariables false
set_option linter.unusedSimpArgs false
namespace Go.Proofs.Ytbckfbohbjhffaa.AE
open Go

/-- An operation that calls nobody asks nobody. -/
theorem evOp_nocall {tb : List TI} {cfg : Cfg} {call : CallF} {f : FuncId} {ρ : Operand → AV} {H : Heap} {o : Oper} (h : isCallV o.op = false) : evOp tb cfg call f ρ H o = evOp tb cfg noCall f ρ H o := by
  unfold evOp
  cases hop : o.op <;> try rfl
  rename_i c
  rw [hop] at h
  simp only [isCallV] at h
  cases hc : c.callee with
  | value x => rw [hc] at h; cases h
  | builtin b => cases b <;> simp only [hc]
  | invoke _ _ => simp only [hc]
theorem evStep0_nocall {tb : List TI} {cfg : Cfg} {gl : List (Nat × List AV)} {call : CallF} {f : FuncId} {ops : Array Oper} {S : St} {o : Oper} (h : isCallV o.op = false) : evStep0 tb cfg gl call f ops S o = evStep0 tb cfg gl noCall f ops S o := by
  unfold evStep0
  rw [evOp_nocall h]
theorem evOp_noCall_some {tb : List TI} {cfg : Cfg} {f : FuncId} {ρ : Operand → AV} {H : Heap} {o : Oper} {r : OpR} (h : evOp tb cfg noCall f ρ H o = some r) : isCallV o.op = false := by
  cases hc : isCallV o.op with
  | false => rfl
  | true =>
    exfalso
    unfold evOp at h
    cases hop : o.op <;> rw [hop] at hc <;> simp only [isCallV, Bool.false_eq_true] at hc
    rename_i c
    cases hcal : c.callee with
    | value x =>
      rw [hop] at h
      simp only [hcal] at h
      split at h
      · unfold evCall at h
        split at h
        · cases h
        · split at h
          · cases h
          · split at h
            · split at h
              · split at h
                · rename_i e; cases e
                · cases h
              · split at h
                · rename_i e; cases e
                · cases h
            · cases h
      · cases h
    | builtin b => rw [hcal] at hc; cases hc
    | invoke _ _ => rw [hcal] at hc; cases hc

section
variable (Z : Seat) (n : Nat) (ops : Array Oper) (S0 : St)
/-- What is left of a region whose order is drawn, in the order of the text; R0: what those ahead came to. -/
def DD (k : Nat) (S : St) (R0 : List OpR) (K : St → Prop) : Prop :=
  ∃ S' R, TraceX Z.P Z.tb Z.gl 0 n ops (ops.toList.drop k) S S' R ∧ orderOk S0 ops (R0 ++ R) = true ∧ K S'
end
section
variable {Z : Seat} {n : Nat} {ops : Array Oper} {S0 : St}

theorem SC.drawX {id : Nat} {S S1 : St} {R : List OpR} {Q : Ex → St → Prop} (h : TraceX Z.P Z.tb Z.gl 0 n ops ops.toList S S1 R) (ho : orderOk S ops R = true) (S2 : St) (hn : narrow S2 S1 = some S2) (hq : Q .normal S2) : SC Z n (.region id ops true) S Q :=
  fun g a w hS => drawX_good Z.hP Z.hm hS h ho fun a' w' st => ⟨_, S2, hq, rfl, narrow_good st hn⟩
/-- It goes on from a state, or from one of which less is told. -/
def WQ (Q : St → Prop) (S : St) : Prop := Q S ∨ ∃ S3, SWk S S3 ∧ Q S3
theorem SC.drawT {id : Nat} {S : St} {Q : Ex → St → Prop} (h : DD Z n ops S 0 S [] fun S1 => ∃ S2, narrow S2 S1 = some S2 ∧ WQ (Q .normal) S2) : SC Z n (.region id ops true) S Q := by
  obtain ⟨S1, R, h1, h2, S2, h3, hq | ⟨S3, hw, hq⟩⟩ := h
  · exact SC.drawX (by simpa using h1) (by simpa using h2) S2 h3 hq
  · exact fun g a w hS => drawX_good Z.hP Z.hm hS (by simpa using h1) (by simpa using h2) fun a' w' st => ⟨_, S3, hq, rfl, (narrow_good st h3).weak hw⟩

theorem stepX_nocall {tb : List TI} {gl : List (Nat × List AV)} {cfg : Cfg} {S : St} {o : Oper} {r : OpR} (Z : Seat) (h : evStep0 Z.tb cfg Z.gl noCall 0 ops S o = some r) : StepX Z.P Z.tb Z.gl 0 ops S o r := ⟨cfg, noCall, noCall_ok Z, noCall_ent Z, h⟩
theorem DD.fin {k : Nat} {S : St} {R0 : List OpR} {Q : St → Prop} (S2 : St) (hk : ops.size = k) (ho : orderOk S0 ops R0 = true) (hn : narrow S2 S = some S2) (hq : Q S2) : DD Z n ops S0 k S R0 fun S1 => ∃ S2, narrow S2 S1 = some S2 ∧ WQ Q S2 := by
  refine ⟨S, [], ?_, by simpa using ho, S2, hn, .inl hq⟩
  rw [List.drop_of_length_le (by simp [hk])]
  exact ⟨rfl, rfl⟩
theorem DD.finW {k : Nat} {S : St} {R0 : List OpR} {Q : St → Prop} (S2 S3 : St) (hk : ops.size = k) (ho : orderOk S0 ops R0 = true) (hn : narrow S2 S = some S2) (hw : SWk S2 S3) (hq : Q S3) : DD Z n ops S0 k S R0 fun S1 => ∃ S2, narrow S2 S1 = some S2 ∧ WQ Q S2 := by
  refine ⟨S, [], ?_, by simpa using ho, S2, hn, .inr ⟨S3, hw, hq⟩⟩
  rw [List.drop_of_length_le (by simp [hk])]
  exact ⟨rfl, rfl⟩
theorem DD.done {k : Nat} {S : St} {R0 : List OpR} {K : St → Prop} (hk : ops.size = k) (ho : orderOk S0 ops R0 = true) (hK : K S) : DD Z n ops S0 k S R0 K := by
  refine ⟨S, [], ?_, by simpa using ho, hK⟩
  rw [List.drop_of_length_le (by simp [hk])]
  exact ⟨rfl, rfl⟩
def trSeg (tb : List TI) (cfg : Cfg) (gl : List (Nat × List AV)) (n : Nat) (ops : Array Oper) (k : Nat) : Nat → St → Option (St × List OpR)
  | 0, S => some (S, [])
  | m + 1, S => match ops[k]? with
    | none => none
    | some o => match evStep0 tb cfg gl noCall 0 ops S o with
      | none => none
      | some x => match putO n o x S with
        | none => none
        | some S' => match trSeg tb cfg gl n ops (k + 1) m S' with
          | some (S'', xs) => some (S'', x :: xs)
          | none => none
def trR (tb : List TI) (cfg : Cfg) (gl : List (Nat × List AV)) (n : Nat) (ops : Array Oper) (k m : Nat) (S : St) : List OpR := ((trSeg tb cfg gl n ops k m S).map (·.2)).getD []
theorem drop_cons {k : Nat} {o : Oper} (h : ops[k]? = some o) : ops.toList.drop k = o :: ops.toList.drop (k + 1) := by
  obtain ⟨h1, h2⟩ := Array.getElem?_eq_some_iff.1 h
  rw [List.drop_eq_getElem_cons (by simpa using h1)]
  simp [h2]
theorem DD.one {k : Nat} {S S1 : St} {R0 : List OpR} {K : St → Prop} {o : Oper} (ho : ops[k]? = some o) {r : OpR} (h : StepX Z.P Z.tb Z.gl 0 ops S o r) (hp : putO n o r S = some S1) (hn : DD Z n ops S0 (k + 1) S1 (R0 ++ [r]) K) : DD Z n ops S0 k S R0 K := by
  obtain ⟨S', R, h1, h2, h3⟩ := hn
  refine ⟨S', r :: R, ?_, by simpa using h2, h3⟩
  rw [drop_cons ho]
  exact ⟨r, S1, R, h, hp, h1, rfl⟩
theorem DD.seg {cfg : Cfg} : ∀ (m k : Nat) {S S1 : St} {R0 R1 : List OpR} {K : St → Prop}, trSeg Z.tb cfg Z.gl n ops k m S = some (S1, R1) → DD Z n ops S0 (k + m) S1 (R0 ++ R1) K → DD Z n ops S0 k S R0 K
  | 0, k, S, S1, R0, R1, K, h, hn => by
    simp only [trSeg] at h
    cases h
    simpa using hn
  | m + 1, k, S, S1, R0, R1, K, h, hn => by
    simp only [trSeg] at h
    split at h
    · cases h
    rename_i o ho
    split at h
    · cases h
    rename_i x hx
    split at h
    · cases h
    rename_i S2 hp
    split at h
    · rename_i S3 xs hr
      cases h
      exact DD.one ho (stepX_nocall (tb := Z.tb) (gl := Z.gl) Z hx) hp (DD.seg m (k + 1) (R0 := R0 ++ [x]) (R1 := xs) hr (by rw [show k + 1 + m = k + (m + 1) by omega]; simpa using hn))
    · cases h
theorem DD.run {k : Nat} {S : St} {R0 : List OpR} {K : St → Prop} (cfg : Cfg) (p : Nat) (S1 : St) (hk : k ≤ p) (h : (trSeg Z.tb cfg Z.gl n ops k (p - k) S).map (·.1) = some S1) (hn : DD Z n ops S0 p S1 (R0 ++ trR Z.tb cfg Z.gl n ops k (p - k) S) K) : DD Z n ops S0 k S R0 K := by
  cases hs : trSeg Z.tb cfg Z.gl n ops k (p - k) S with
  | none => rw [hs] at h; cases h
  | some x =>
    obtain ⟨S2, R1⟩ := x
    rw [hs] at h
    cases h
    have e : trR Z.tb cfg Z.gl n ops k (p - k) S = R1 := by unfold trR; rw [hs]; rfl
    rw [e] at hn
    refine DD.seg (p - k) k hs ?_
    rw [show k + (p - k) = p by omega]; exact hn
def putR (n : Nat) (ops : Array Oper) (k : Nat) (r : OpR) (S : St) : Option St :=
  match ops[k]? with
  | none => none
  | some o => putO n o r S
theorem DD.op {k : Nat} {S : St} {R0 : List OpR} {K : St → Prop} (cfg : Cfg) (r : OpR) (S1 : St) (h : opR Z.tb cfg Z.gl ops k S = some r) (hp : putR n ops k r S = some S1) (hn : DD Z n ops S0 (k + 1) S1 (R0 ++ [r]) K) : DD Z n ops S0 k S R0 K := by
  unfold opR at h
  unfold putR at hp
  split at h
  · cases h
  rename_i o ho
  rw [ho] at hp
  exact DD.one ho (stepX_nocall (tb := Z.tb) (gl := Z.gl) Z h) hp hn
def callR (p : Pre) (r : AV) (H2 : Heap) : OpR :=
  match ren (ofExt p.ids) r, renHeap (ofExt p.ids) H2 with
  | some r', some ws => { v := clean r', ws, rd := p.ids }
  | _, _ => { v := .undef }
theorem call_step {k : Nat} {S : St} (p : Pre) {r : AV} {H2 : Heap} {S1 : St} (hp : callPre Z.gl ops k S = some p) (hc : SF Z p.f p.args p.H r H2) (hs : callPost n S p r H2 = some S1) :
    ∃ o, ops[k]? = some o ∧ StepX Z.P Z.tb Z.gl 0 ops S o (callR p r H2) ∧ putO n o (callR p r H2) S = some S1 := by
  unfold callPre at hp
  split at hp
  · cases hp
  rename_i o ho
  split at hp <;> try cases hp
  rename_i hw
  split at hp <;> try cases hp
  rename_i c hop
  split at hp <;> try cases hp
  rename_i x hcal
  split at hp <;> try cases hp
  rename_i f first captured hx
  split at hp <;> try cases hp
  rename_i ids hreach
  split at hp <;> try cases hp
  rename_i hcl
  split at hp <;> try cases hp
  rename_i args' H' ha hH
  unfold callPost at hs
  split at hs <;> try cases hs
  rename_i r' ws hr hws
  simp only at hc hr hws hs
  obtain ⟨i1, i2⟩ := callL_ok (Z := Z) (l := [(f, cleanL args', H', r, H2)]) ⟨hc, trivial⟩
  cases hd : setDst n o.dst (clean r') S.A with
  | none => rw [hd] at hs; cases hs
  | some A =>
    rw [hd] at hs
    cases hs
    have e : callR { f := f, args := cleanL args', H := H', ids := ids, dst := o.dst } r H2 = { v := clean r', ws := ws, rd := ids } := by
      simp only [callR, hr, hws]
    rw [e]
    refine ⟨o, ho, ⟨c0, _, i1, i2, ?_⟩, ?_⟩
    · unfold evStep0
      rw [hw]
      simp only [evOp, hop, hcal, hx]
      unfold evCall
      rw [hreach]
      simp only
      rw [if_neg hcl]
      simp only [ha, hH, c0, Bool.false_eq_true, if_false, callL_hd, hr, hws]
      have : adoptAt { ro := fun _ => false, acc := fun _ _ => false, accCells := fun _ _ => [], kill := fun _ _ => none, adopt := fun _ _ => false, plainAp := fun _ _ => false } 0 o.dst = none := by
        unfold adoptAt; split <;> simp
      rw [this, adopt_none]
      rfl
    · unfold putO; simp only [hd]
theorem DD.callT {k : Nat} {S : St} {R0 : List OpR} {K : St → Prop} (p : Pre) {r : AV} {H2 : Heap} (S1 : St) (hp : callPre Z.gl ops k S = some p) (hc : SF Z p.f p.args p.H r H2) (hs : callPost n S p r H2 = some S1) (hn : DD Z n ops S0 (k + 1) S1 (R0 ++ [callR p r H2]) K) : DD Z n ops S0 k S R0 K := by
  obtain ⟨o, ho, h1, h2⟩ := call_step p hp hc hs
  exact DD.one ho h1 h2 hn
theorem DD.bool {k : Nat} {R0 : List OpR} {K : St → Prop} (t : Bool) (F : Bool → St) (h1 : t = true → DD Z n ops S0 k (F true) R0 K) (h0 : t = false → DD Z n ops S0 k (F false) R0 K) : DD Z n ops S0 k (F t) R0 K := by
  cases t with
  | true => exact h1 rfl
  | false => exact h0 rfl
theorem DD.eqS {k : Nat} {S S1 : St} {R0 : List OpR} {K : St → Prop} (hs : S = S1) (h : DD Z n ops S0 k S1 R0 K) : DD Z n ops S0 k S R0 K := hs ▸ h
end

/-! ### regions that write nothing -/
def quiet (R : List OpR) : Bool := R.all fun r => r.ws.isEmpty && !r.fresh
section
variable (Z : Seat) (n : Nat) (ops : Array Oper)
def QD (k e : Nat) (S : St) (K : St → Prop) : Prop :=
  ∃ S' R, TraceX Z.P Z.tb Z.gl 0 n ops ((ops.toList.drop k).take (e - k)) S S' R ∧ quiet R = true ∧ K S'
end
def orderStatic (ops : Array Oper) : Bool :=
  let bs := befores ops.toList []
  (List.range ops.size).all fun j => edgesOk ops j && (List.range j).all fun i => match ops[i]?, ops[j]? with
    | some x, some y => (bs.getD j []).contains i || apartB ops x y
    | _, _ => false
section
variable {Z : Seat} {n : Nat} {ops : Array Oper}
theorem traceX_length {P : Program} {tb : List TI} {gl : List (Nat × List AV)} : ∀ (l : List Oper) {S S' : St} {R : List OpR}, TraceX P tb gl 0 n ops l S S' R → R.length = l.length
  | [], S, S', R, h => by obtain ⟨_, rfl⟩ := h; rfl
  | o :: l, S, S', R, h => by
    obtain ⟨r, S1, R1, _, _, h3, rfl⟩ := h
    simp [traceX_length l h3]
theorem orderOk_quiet {S : St} {R : List OpR} (hl : R.length = ops.size) (hq : quiet R = true) (hs : orderStatic ops = true) : orderOk S ops R = true := by
  unfold orderStatic at hs
  unfold orderOk
  simp only [List.all_eq_true, List.mem_range, Bool.and_eq_true] at hs ⊢
  have hR : ∀ j, j < ops.size → ∃ r, R[j]? = some r ∧ r.ws = [] ∧ r.fresh = false := by
    intro j hj
    have hlt : j < R.length := by omega
    refine ⟨R[j], List.getElem?_eq_getElem hlt, ?_⟩
    have := List.all_eq_true.1 hq R[j] (List.getElem_mem hlt)
    simpa using this
  intro j hj
  obtain ⟨h1, h2⟩ := hs j hj
  obtain ⟨q, hq1, hq2, hq3⟩ := hR j hj
  have hoj : ∃ y, ops[j]? = some y := ⟨_, Array.getElem?_eq_getElem hj⟩
  obtain ⟨y, hy⟩ := hoj
  refine ⟨⟨h1, ?_⟩, fun i hi => ?_⟩
  · unfold freshOk
    rw [hy, hq1]
    simp [hq3]
  · obtain ⟨p, hp1, hp2, hp3⟩ := hR i (by omega)
    have hoi : ∃ x, ops[i]? = some x := ⟨_, Array.getElem?_eq_getElem (show i < ops.size by omega)⟩
    obtain ⟨x, hx⟩ := hoi
    have := h2 i hi
    rw [hx, hy] at this
    simp only [Bool.or_eq_true] at this
    unfold pairOk
    rw [hx, hy, hp1, hq1]
    simp only [Bool.and_eq_true, Bool.or_eq_true]
    refine ⟨by simp [offFresh, hq3], this.imp id fun h => ⟨⟨h, ?_⟩, by simp [offFresh, hp3]⟩⟩
    simp [apartR, offRoots, hp2, hq2]
/-- A region that writes nothing, whose order is drawn, and that ends as K says. -/
theorem SC.drawQ {id : Nat} {S : St} {Q : Ex → St → Prop} (e : Nat) (he : ops.size = e) (hs : orderStatic ops = true) (h : QD Z n ops 0 e S fun S1 => ∃ S2, narrow S2 S1 = some S2 ∧ Q .normal S2) : SC Z n (.region id ops true) S Q := by
  obtain ⟨S1, R, h1, h2, S2, h3, h4⟩ := h
  have e1 : (ops.toList.drop 0).take (e - 0) = ops.toList := by
    rw [List.drop_zero, Nat.sub_zero]; exact List.take_of_length_le (by simp [he])
  rw [e1] at h1
  have hlen := traceX_length _ h1
  exact SC.drawX h1 (orderOk_quiet (by simpa using hlen) h2 hs) S2 h3 h4
theorem QD.done {e : Nat} {S : St} {K : St → Prop} (hK : K S) : QD Z n ops e e S K := ⟨S, [], by rw [Nat.sub_self]; exact ⟨rfl, rfl⟩, rfl, hK⟩
theorem traceX_append {P : Program} {tb : List TI} {gl : List (Nat × List AV)} : ∀ (l l2 : List Oper) {S S1 S2 : St} {R R2 : List OpR}, TraceX P tb gl 0 n ops l S S1 R → TraceX P tb gl 0 n ops l2 S1 S2 R2 → TraceX P tb gl 0 n ops (l ++ l2) S S2 (R ++ R2)
  | [], l2, S, S1, S2, R, R2, h, h2 => by obtain ⟨rfl, rfl⟩ := h; exact h2
  | o :: l, l2, S, S1, S2, R, R2, h, h2 => by
    obtain ⟨r, S3, R1, h3, h4, h5, rfl⟩ := h
    exact ⟨r, S3, R1 ++ R2, h3, h4, traceX_append l l2 h5 h2, rfl⟩
theorem QD.cut {k e : Nat} {S : St} {K : St → Prop} (p : Nat) (h1 : k ≤ p) (h2 : p ≤ e) (h : QD Z n ops k p S fun S1 => QD Z n ops p e S1 K) : QD Z n ops k e S K := by
  obtain ⟨S1, R1, a1, a2, S2, R2, b1, b2, b3⟩ := h
  refine ⟨S2, R1 ++ R2, ?_, by simp only [quiet, List.all_append, Bool.and_eq_true] at *; exact ⟨a2, b2⟩, b3⟩
  have : (ops.toList.drop k).take (e - k) = (ops.toList.drop k).take (p - k) ++ (ops.toList.drop p).take (e - p) := by
    rw [show e - k = (p - k) + (e - p) by omega, List.take_add, List.drop_drop, show k + (p - k) = p by omega]
  rw [this]
  exact traceX_append _ _ a1 b1
theorem QD.one {k e : Nat} {S S1 : St} {K : St → Prop} (hk : k < e) {o : Oper} (ho : ops[k]? = some o) {r : OpR} (h : StepX Z.P Z.tb Z.gl 0 ops S o r) (hq : r.ws = [] ∧ r.fresh = false) (hp : putO n o r S = some S1) (hn : QD Z n ops (k + 1) e S1 K) : QD Z n ops k e S K := by
  refine QD.cut (k + 1) (by omega) (by omega) ⟨S1, [r], ?_, by simp [quiet, hq.1, hq.2], hn⟩
  rw [drop_cons ho, show k + 1 - k = 1 by omega]
  simp only [List.take_succ_cons, List.take_zero]
  exact ⟨r, S1, [], h, hp, ⟨rfl, rfl⟩, rfl⟩
def qSeg (tb : List TI) (gl : List (Nat × List AV)) (n : Nat) (ops : Array Oper) (k : Nat) : Nat → St → Option St
  | 0, S => some S
  | m + 1, S => match ops[k]? with
    | none => none
    | some o => match evStep0 tb c0 gl noCall 0 ops S o with
      | none => none
      | some x => if x.ws.isEmpty && !x.fresh then match putO n o x S with
        | none => none
        | some S' => qSeg tb gl n ops (k + 1) m S'
        else none
theorem QD.seg : ∀ (m k e : Nat) {S S1 : St} {K : St → Prop}, k + m ≤ e → qSeg Z.tb Z.gl n ops k m S = some S1 → QD Z n ops (k + m) e S1 K → QD Z n ops k e S K
  | 0, k, e, S, S1, K, _, h, hn => by simp only [qSeg] at h; cases h; exact hn
  | m + 1, k, e, S, S1, K, he, h, hn => by
    simp only [qSeg] at h
    split at h
    · cases h
    rename_i o ho
    split at h
    · cases h
    rename_i x hx
    split at h
    · rename_i hq
      split at h
      · cases h
      rename_i S2 hp
      simp only [Bool.and_eq_true, List.isEmpty_iff, Bool.not_eq_true'] at hq
      refine QD.one (by omega) ho (stepX_nocall (tb := Z.tb) (gl := Z.gl) Z hx) hq hp (QD.seg m (k + 1) e (by omega) h ?_)
      rw [show k + 1 + m = k + (m + 1) by omega]; exact hn
    · cases h
theorem QD.run {k e : Nat} {S : St} {K : St → Prop} (p : Nat) (S1 : St) (hk : (k ≤ p ∧ p ≤ e)) (h : qSeg Z.tb Z.gl n ops k (p - k) S = some S1) (hn : QD Z n ops p e S1 K) : QD Z n ops k e S K :=
  QD.seg (p - k) k e (by omega) h (by rw [show k + (p - k) = p by omega]; exact hn)
theorem QD.bool {k e : Nat} {K : St → Prop} (t : Bool) (F : Bool → St) (h1 : t = true → QD Z n ops k e (F true) K) (h0 : t = false → QD Z n ops k e (F false) K) : QD Z n ops k e (F t) K := by
  cases t with
  | true => exact h1 rfl
  | false => exact h0 rfl
theorem QD.eqS {k e : Nat} {S S1 : St} {K : St → Prop} (hs : S = S1) (h : QD Z n ops k e S1 K) : QD Z n ops k e S K := hs ▸ h
theorem QD.op {k e : Nat} {S : St} {K : St → Prop} (v : AV) (S1 : St) (hk : k < e) (h : opR Z.tb c0 Z.gl ops k S = some { v := v }) (hp : putR n ops k { v := v } S = some S1) (hn : QD Z n ops (k + 1) e S1 K) : QD Z n ops k e S K := by
  unfold opR at h
  unfold putR at hp
  split at h
  · cases h
  rename_i o ho
  rw [ho] at hp
  exact QD.one hk ho (stepX_nocall (tb := Z.tb) (gl := Z.gl) Z h) ⟨rfl, rfl⟩ hp hn
theorem QD.callT {k e : Nat} {S : St} {K : St → Prop} (p : Pre) {r : AV} {H2 : Heap} (S1 : St) (hk : k < e) (hp : callPre Z.gl ops k S = some p) (hc : SF Z p.f p.args p.H r H2) (hw : (callR p r H2).ws = []) (hf : (callR p r H2).fresh = false) (hs : callPost n S p r H2 = some S1) (hn : QD Z n ops (k + 1) e S1 K) : QD Z n ops k e S K := by
  obtain ⟨o, ho, h1, h2⟩ := call_step p hp hc hs
  exact QD.one hk ho h1 ⟨hw, hf⟩ h2 hn

/-! ### slots that are forgotten in a quiet region -/
def SubA (A1 A : Slots) : Prop := ∀ t, hasKey A1 t = true → hasKey A t = true ∧ getA A t = getA A1 t
theorem SubA.refl (A : Slots) : SubA A A := fun t h => ⟨h, rfl⟩
theorem SubA.trans {A B C : Slots} (h : SubA A B) (k : SubA B C) : SubA A C := fun t ht => ⟨(k t (h t ht).1).1, ((k t (h t ht).1).2).trans (h t ht).2⟩
theorem SubA.narrow {S1 S S2 : St} (h : narrow S1 S = some S2) : SubA S2.A S.A := by
  unfold AE.narrow at h
  split at h
  · cases h
    intro t ht
    simp only [hasKey, getA] at ht ⊢
    rw [find_filter (fun x : Nat × AV => (find S1.A x.1).isSome) (fun b => (find S1.A b).isSome) (fun _ => rfl)] at ht ⊢
    split at ht
    · rename_i h1; rw [if_pos h1]; exact ⟨ht, rfl⟩
    · cases ht
  · cases h
/-- The slots that the operations name are there. -/
def namesIn (ops : Array Oper) : List Nat → List Oper → Bool
  | _, [] => true
  | ks, o :: l => (namesOf ops o).all (fun t => ks.contains t) && namesIn ops (o.dst.toList ++ ks) l
theorem hasKey_put (k : Nat) (v : AV) (A : Slots) (t : Nat) : hasKey (put k v A) t = (decide (k = t) || hasKey A t) := by
  unfold hasKey
  rw [find_put]
  by_cases e : k = t
  · simp [e]
  · simp [e]
theorem traceX_sub {P : Program} {tb : List TI} {gl : List (Nat × List AV)} : ∀ (l : List Oper) (ks : List Nat) {S1 S S1' : St} {R : List OpR}, (∀ t, ks.contains t = true → hasKey S1.A t = true) → namesIn ops ks l = true → SubA S1.A S.A → S.H = S1.H →
    TraceX P tb gl 0 n ops l S1 S1' R → ∃ S', TraceX P tb gl 0 n ops l S S' R ∧ SubA S1'.A S'.A ∧ S'.H = S1'.H
  | [], ks, S1, S, S1', R, hk, hn, hs, hH, h => by
    obtain ⟨rfl, rfl⟩ := h
    exact ⟨S, ⟨rfl, rfl⟩, hs, hH⟩
  | o :: l, ks, S1, S, S1', R, hk, hn, hs, hH, h => by
    obtain ⟨r, S2, R1, ⟨cfg, call, c1, c2, hst⟩, hp, ht, rfl⟩ := h
    simp only [namesIn, Bool.and_eq_true, List.all_eq_true] at hn
    have hA : ∀ t ∈ namesOf ops o, getA S.A t = getA S1.A t := fun t ht => (hs t (hk t (hn.1 t ht))).2
    have hst' : evStep0 tb cfg gl call 0 ops S o = some r := by
      unfold evStep0 at hst ⊢
      rw [evWanted_congr hA, hH]
      split at hst
      · cases hst
      · exact hst
      · rw [evOp_congr (evalA_congr hA)]; exact hst
    have : ∃ S3, putO n o r S = some S3 ∧ SubA S2.A S3.A ∧ S3.H = S2.H ∧ (∀ t, (o.dst.toList ++ ks).contains t = true → hasKey S2.A t = true) := by
      unfold putO at hp ⊢
      unfold setDst at hp ⊢
      cases hd : o.dst with
      | none =>
        rw [hd] at hp
        simp only at hp
        cases hp
        exact ⟨_, rfl, hs, by rw [hH], fun t ht => hk t (by simpa using ht)⟩
      | some d =>
        rw [hd] at hp
        simp only at hp
        by_cases hdn : d < n
        · rw [if_pos hdn] at hp
          cases hp
          simp only [if_pos hdn]
          refine ⟨_, rfl, fun t ht => ?_, by rw [hH], fun t ht => ?_⟩
          · simp only [hasKey_put, getA_put] at ht ⊢
            by_cases e : d = t
            · simp [e]
            · simp only [e, decide_false, Bool.false_or, if_false] at ht ⊢
              exact hs t ht
          · simp only [hasKey_put]
            simp only [Option.toList_some, List.cons_append, List.nil_append, List.contains_cons, Bool.or_eq_true, beq_iff_eq] at ht
            rcases ht with rfl | ht
            · simp
            · rw [hk t ht, Bool.or_true]
        · rw [if_neg hdn] at hp; cases hp
    obtain ⟨S3, q1, q2, q3, q4⟩ := this
    obtain ⟨S', a1, a2, a3⟩ := traceX_sub l (o.dst.toList ++ ks) q4 hn.2 q2 q3 ht
    exact ⟨S', ⟨r, S3, R1, ⟨cfg, call, c1, c2, hst'⟩, q1, a1, rfl⟩, a2, a3⟩
/-- It holds of a state if it holds of a part of it. -/
def Robust (K : St → Prop) : Prop := ∀ S1 S, SubA S1.A S.A → S.H = S1.H → K S1 → K S
theorem QD.sub {k e : Nat} {S S1 : St} {K : St → Prop} (hK : Robust K) (hs : SubA S1.A S.A) (hH : S.H = S1.H) (hn : namesIn ops (S1.A.map (·.1)) ((ops.toList.drop k).take (e - k)) = true) (h : QD Z n ops k e S1 K) : QD Z n ops k e S K := by
  obtain ⟨S1', R, h1, h2, h3⟩ := h
  obtain ⟨S', a1, a2, a3⟩ := traceX_sub _ (S1.A.map (·.1)) (fun t ht => by
    simp only [List.contains_iff_mem, List.mem_map] at ht
    obtain ⟨x, hx, rfl⟩ := ht
    unfold hasKey
    cases hf : find S1.A x.1 with
    | some _ => rfl
    | none =>
      exfalso
      have : ∀ l : Slots, x ∈ l → find l x.1 ≠ none := by
        intro l
        induction l with
        | nil => intro h; cases h
        | cons y r ih =>
          intro h
          obtain ⟨y1, y2⟩ := y
          simp only [find]
          split
          · simp
          · rename_i hne
            rcases List.mem_cons.1 h with rfl | h
            · exact (hne rfl).elim
            · exact ih h
      exact this _ hx hf) hn hs hH h1
  exact ⟨S', R, a1, h2, hK _ _ a2 a3 h3⟩
/-- What a quiet region ends in: some of its slots. -/
def QP (S2 : St) (S1 : St) : Prop := ∃ A1, SubA A1 S1.A ∧ narrow S2 ⟨A1, S1.H⟩ = some S2
theorem QP.robust (S2 : St) : Robust (QP S2) := by
  rintro S1 S hs hH ⟨A1, h1, h2⟩
  exact ⟨A1, h1.trans hs, by rw [hH]; exact h2⟩
theorem QP.of {S1 S2 : St} (h : narrow S2 S1 = some S2) : QP S2 S1 := ⟨S1.A, SubA.refl _, h⟩
theorem QP.step {gl : List (Nat × List AV)} {g : Gh} {S0 S1 S2 : St} {a : Act} {w0 w : World} (hq : QP S2 S1) (h : StepTo gl n g S0 w0 S1 a w) : StepTo gl n g S0 w0 S2 a w := by
  obtain ⟨A1, h1, h2⟩ := hq
  refine narrow_good (S := ⟨A1, S1.H⟩) ?_ h2
  obtain ⟨g1, k1, k2, k3, k4⟩ := h
  refine ⟨g1, ⟨k1.wc, fun t => ?_, k1.size, k1.defers, k1.glob⟩, k2, k3, k4⟩
  cases hk : hasKey A1 t with
  | true => rw [← (h1 t hk).2]; exact k1.vals t
  | false =>
    have : getA A1 t = .undef := by
      unfold hasKey at hk
      unfold getA
      cases hf : find A1 t with
      | none => rfl
      | some _ => rw [hf] at hk; cases hk
    show V g1 (getA A1 t) _
    rw [this]; trivial
/-- .. and what goes on behind. -/
def QE (Q : St → Prop) (S1 : St) : Prop := ∃ S2, QP S2 S1 ∧ Q S2
theorem QE.robust (Q : St → Prop) : Robust (QE Q) := fun S1 S hs hH ⟨S2, h1, h2⟩ => ⟨S2, QP.robust S2 S1 S hs hH h1, h2⟩
theorem SC.drawS {id : Nat} {S : St} {Q : Ex → St → Prop} (e : Nat) (he : ops.size = e) (hs : orderStatic ops = true) (h : QD Z n ops 0 e S (QE (WQ (Q .normal)))) : SC Z n (.region id ops true) S Q := by
  obtain ⟨S1, R, h1, h2, S2, h3, hq⟩ := h
  have e1 : (ops.toList.drop 0).take (e - 0) = ops.toList := by
    rw [List.drop_zero, Nat.sub_zero]; exact List.take_of_length_le (by simp [he])
  rw [e1] at h1
  have hlen := traceX_length _ h1
  rcases hq with hq | ⟨S3, hw, hq⟩
  · exact fun g a w hS => drawX_good Z.hP Z.hm hS h1 (orderOk_quiet (by simpa using hlen) h2 hs) fun a' w' st => ⟨_, S2, hq, rfl, h3.step st⟩
  · exact fun g a w hS => drawX_good Z.hP Z.hm hS h1 (orderOk_quiet (by simpa using hlen) h2 hs) fun a' w' st => ⟨_, S3, hq, rfl, (h3.step st).weak hw⟩
theorem QD.fin {e : Nat} {S : St} {Q : St → Prop} (S2 : St) (hn : narrow S2 S = some S2) (hq : Q S2) : QD Z n ops e e S (QE (WQ Q)) := QD.done ⟨S2, QP.of hn, .inl hq⟩
theorem QD.finW {e : Nat} {S : St} {Q : St → Prop} (S2 S3 : St) (hn : narrow S2 S = some S2) (hw : SWk S2 S3) (hq : Q S3) : QD Z n ops e e S (QE (WQ Q)) := QD.done ⟨S2, QP.of hn, .inr ⟨S3, hw, hq⟩⟩
/-- A quiet region where ways meet again: p: ahead of the p-th operation; I: the slots that are wanted yet. -/
theorem QD.meet {k e : Nat} {S : St} {Q : St → Prop} (p : Nat) (I : St) (hk : k ≤ p ∧ p ≤ e) (hn : namesIn ops (I.A.map (·.1)) ((ops.toList.drop p).take (e - p)) = true) (ha : QD Z n ops k p S fun S1 => narrow I S1 = some I ∧ S1.H = I.H) (hb : QD Z n ops p e I (QE Q)) : QD Z n ops k e S (QE Q) := by
  refine QD.cut p hk.1 hk.2 ?_
  obtain ⟨S1, R, h1, h2, h3, h4⟩ := ha
  exact ⟨S1, R, h1, h2, QD.sub (QE.robust Q) (SubA.narrow h3) h4 hn hb⟩
theorem QD.joinK {ρ α : Type} {k e : Nat} {S : St} {Q : St → Prop} {r : ρ} {J : α → Option ρ} {B : (α → Option ρ) → Option ρ} (h : B J = some r) (I : α → St) (p : Nat) (hk : k ≤ p ∧ p ≤ e) (hn : ∀ v, namesIn ops ((I v).A.map (·.1)) ((ops.toList.drop p).take (e - p)) = true)
    (hb : ∀ v, J v = some r → QD Z n ops p e (I v) (QE Q)) (ha : ∀ j : α → Option ρ, B j = some r → QD Z n ops k p S fun S1 => ∃ v, (narrow (I v) S1 = some (I v) ∧ S1.H = (I v).H) ∧ j v = some r) : QD Z n ops k e S (QE Q) := by
  refine QD.cut p hk.1 hk.2 ?_
  obtain ⟨S1, R, h1, h2, v, ⟨h3, h4⟩, h5⟩ := ha J h
  exact ⟨S1, R, h1, h2, QD.sub (QE.robust Q) (SubA.narrow h3) h4 (hn v) (hb v h5)⟩
end
end Go.Proofs.Ytbckfbohbjhffaa.AE
