/- Operations on what is told in plain words: lists, indices, bounds. No condition. -/
import Derived.Test.YtbckfbohbjhffaaZSem3
import Derived.Test.YtbckfbohbjhffaaZWords
set_option linter.unusedVariables false
set_option linter.unusedSimpArgs false
namespace Go.Proofs.Ytbckfbohbjhffaa.AE
open Go F

/-- How the members of a list are told. -/
structure LE (α : Type) where
  f : α → AV
  F : List α → List AV
  hF : ∀ l, F l = l.map f
theorem LE.len {α : Type} (E : LE α) (l : List α) : (E.F l).length = l.length := by rw [E.hF, List.length_map]
def LE.of {α : Type} (f : α → AV) : LE α := ⟨f, List.map f, fun _ => rfl⟩
def eI_i64 : LE Int := LE.of (AV.int .i64)
def eI_i32 : LE Int := LE.of (AV.int .i32)
def eI_i16 : LE Int := LE.of (AV.int .i16)
def eI_i8 : LE Int := LE.of (AV.int .i8)
def eI_u64 : LE Int := LE.of (AV.int .u64)
def eI_u32 : LE Int := LE.of (AV.int .u32)
def eI_u16 : LE Int := LE.of (AV.int .u16)
def eI_u8 : LE Int := LE.of (AV.int .u8)
def eBool : LE Bool := LE.of AV.bool
def eStr : LE (List UInt8) := LE.of AV.str

section
variable {tb : List TI} {cfg : Cfg} {gl : List (Nat × List AV)} {ops : Array Oper} {k : Nat} {S : St} {α : Type}

def ixOk (tb : List TI) (t sz : Nat) : Bool := match descOf tb t with
  | some (.slice e) => tsize tb e == some sz
  | _ => false
theorem ixR (E : LE α) (t : TypeId) (tok : Tok) (sz : Nat) (l : List α) (kd : IntKind) (i : Int) (x : α) (cs : List AV) (h0 : opR tb cfg gl ops k S = (evIndexAddr tb t (.slice tok sz (E.F l)) (.int kd i)).map fun v => ({ v } : OpR))
    (hk : ixOk tb t sz = true) (h : ix l i = some x) (hc : cellsOf (E.f x) = cs) : opR tb cfg gl ops k S = some { v := .pin cs } := by
  rw [h0]
  unfold ixOk at hk
  split at hk
  · rename_i e he
    simp only [beq_iff_eq] at hk
    unfold ix at h
    split at h
    · rename_i hi
      unfold evIndexAddr
      simp only [he, hk, ne_eq, not_true, if_false, if_pos hi, E.hF, List.getElem?_map, h, Option.map_some, hc]
    · cases h
  · cases hk
theorem ixS (t : TypeId) (s : List UInt8) (kd : IntKind) (i : Int) (x : UInt8) (h0 : opR tb cfg gl ops k S = (evIndex tb t (.str s) (.int kd i)).map fun v => ({ v } : OpR)) (hk : (descOf tb t == some .string) = true) (h : ix s i = some x) :
    opR tb cfg gl ops k S = some { v := .int .u8 x.toNat } := by
  rw [h0]
  simp only [beq_iff_eq] at hk
  unfold ix at h
  split at h
  · rename_i hi
    unfold evIndex
    simp only [hk, if_pos hi, h, Option.map_some]
  · cases h
def ixAOk (tb : List TI) (t n : Nat) : Bool := match descOf tb t with
  | some (.array n' e) => n' == n && (match tb[e]? with | some ti => ti.size == 1 && !ti.agg | none => false)
  | _ => false
theorem ixA (f : α → AV) (t n : Nat) (l : List α) (kd : IntKind) (i : Int) (x : α) (h0 : opR tb cfg gl ops k S = (evIndex tb t (.agg (l.map f)) (.int kd i)).map fun v => ({ v } : OpR)) (hk : ixAOk tb t n = true) (hn : l.length = n) (h : ix l i = some x) :
    opR tb cfg gl ops k S = some { v := f x } := by
  rw [h0]
  unfold ixAOk at hk
  split at hk
  · rename_i n' e he
    simp only [Bool.and_eq_true, beq_iff_eq] at hk
    obtain ⟨rfl, hk⟩ := hk
    split at hk
    · rename_i ti hti
      simp only [Bool.and_eq_true, beq_iff_eq, Bool.not_eq_true'] at hk
      unfold ix at h
      split at h
      · rename_i hi
        have hlt := (List.getElem?_eq_some_iff.1 h).1
        unfold evIndex
        simp only [he, hti]
        rw [if_pos ⟨hi, by omega⟩]
        simp only [takeCells, hk.2, hk.1, Bool.false_eq_true, if_false, Nat.mul_one, List.getElem?_map, h, Option.map_some]
      · cases h
    · cases hk
  · cases hk

theorem ixPA (f : α → AV) (t n : Nat) (l : List α) (kd : IntKind) (i : Int) (x : α) (h0 : opR tb cfg gl ops k S = (evIndexAddr tb t (.pin (l.map f)) (.int kd i)).map fun v => ({ v } : OpR)) (hk : ixAOk tb t n = true) (hn : l.length = n) (h : ix l i = some x) :
    opR tb cfg gl ops k S = some { v := .pin (f x :: (l.map f).drop (i.toNat + 1)) } := by
  rw [h0]
  unfold ixAOk at hk
  split at hk
  · rename_i n' e he
    simp only [Bool.and_eq_true, beq_iff_eq] at hk
    obtain ⟨rfl, hk⟩ := hk
    split at hk
    · rename_i ti hti
      simp only [Bool.and_eq_true, beq_iff_eq, Bool.not_eq_true'] at hk
      unfold ix at h
      split at h
      · rename_i hi
        obtain ⟨hlt, hx⟩ := List.getElem?_eq_some_iff.1 h
        unfold evIndexAddr
        have hts : tsize tb e = some 1 := by simp only [tsize, hti, hk.1]
        simp only [he, hts]
        rw [if_pos ⟨hi, by omega⟩, Nat.mul_one, List.drop_eq_getElem_cons (by simpa using hlt)]
        simp only [Option.map_some, List.getElem_map, hx]
      · cases h
    · cases hk
  · cases hk

theorem bnd_of {top : Nat} {kd : IntKind} {i : Int} (h1 : 0 ≤ i) (h2 : i ≤ top) : bnd (.int kd i) top = some i.toNat := by unfold bnd; simp only; rw [if_pos ⟨h1, h2⟩]
/-- A bound that may be missing. -/
def bI (x : Option Int) (d : Int) : Int := x.getD d
def bA (kd : IntKind) (x : Option Int) : Option AV := x.map (AV.int kd)
theorem bndO_hi {top : Nat} {kd : IntKind} {hi : Option Int} (h1 : 0 ≤ bI hi top) (h2 : bI hi top ≤ top) : bndO (bA kd hi) top top = some (bI hi top).toNat := by
  cases hi with
  | none => simp [bndO, bA, bI]
  | some x => simp only [bndO, bA, bI, Option.map_some, Option.getD_some] at *; exact bnd_of h1 h2
theorem bndO_lo {h : Nat} {kd : IntKind} {lo : Option Int} (h1 : 0 ≤ bI lo 0) (h2 : bI lo 0 ≤ h) : bndO (bA kd lo) 0 h = some (bI lo 0).toNat := by
  cases lo with
  | none => simp [bndO, bA, bI]
  | some x => simp only [bndO, bA, bI, Option.map_some, Option.getD_some] at *; exact bnd_of h1 h2
theorem slR (E : LE α) (t : TypeId) (tok : Tok) (sz : Nat) (l : List α) (kd kd' : IntKind) (lo hi : Option Int) (m : List α) (h0 : opR tb cfg gl ops k S = (evSlice tb t (.slice tok sz (E.F l)) (bA kd lo) (bA kd' hi) none).map fun v => ({ v } : OpR))
    (hk : ixOk tb t sz = true) (h : sub l (bI lo 0) (bI hi l.length) = some m) : opR tb cfg gl ops k S = some { v := .slice (if (bI hi l.length).toNat = l.length ∧ ((bI lo 0).toNat = 0 ∨ tok = .full) then tok else .none) sz (E.F m) } := by
  rw [h0]
  unfold ixOk at hk
  split at hk
  · rename_i e he
    simp only [beq_iff_eq] at hk
    unfold sub at h
    split at h
    · rename_i hb
      cases h
      unfold evSlice
      have hl : (E.F l).length = l.length := by rw [E.hF, List.length_map]
      simp only [he, hk, ne_eq, not_true, if_false, hl]
      rw [bndO_hi (by omega) hb.2.2]
      simp only
      rw [bndO_lo (by omega) (by omega)]
      simp only [Option.map_some, E.hF, List.map_drop, List.map_take]
    · cases h
  · cases hk
theorem slN {x : Option OpR} (E : LE α) (sz : Nat) (m : List α) {tok : Tok} (h : x = some { v := .slice tok sz (E.F m) }) (ht : tok = .none) : x = some { v := .slice .none sz (E.F m) } := by subst ht; exact h
theorem slS (t : TypeId) (s : List UInt8) (kd kd' : IntKind) (lo hi : Option Int) (m : List UInt8) (h0 : opR tb cfg gl ops k S = (evSlice tb t (.str s) (bA kd lo) (bA kd' hi) none).map fun v => ({ v } : OpR)) (hk : (descOf tb t == some .string) = true)
    (h : sub s (bI lo 0) (bI hi s.length) = some m) : opR tb cfg gl ops k S = some { v := .str m } := by
  rw [h0]
  simp only [beq_iff_eq] at hk
  unfold sub at h
  split at h
  · rename_i hb
    cases h
    unfold evSlice
    simp only [hk]
    rw [bndO_hi (by omega) hb.2.2]
    simp only
    rw [bndO_lo (by omega) (by omega)]
    rfl
  · cases h

/-! ### appends -/
def apOk (tb : List TI) (t u sz bytes : Nat) : Bool := match descOf tb t, descOf tb u with
  | some (.slice e), some (.slice _) => match tb[e]? with
    | some te => !te.zero.isEmpty && te.zero.length == te.size && te.size == sz && te.bytes == bytes
    | none => false
  | _, _ => false
theorem room_roomy (b n : Nat) : room b n = roomy b n := rfl
theorem apB (E : LE α) (pl : Bool) (d : Nat) (H : Heap) (t u : TypeId) (b : Oid) (sz bytes : Nat) (l m : List α) (tok2 : Tok) (h0 : opR tb cfg gl ops k S = evAppend tb pl d H t u (.slice (.buf b) sz (E.F l)) (.slice tok2 sz (E.F m))) (hk : apOk tb t u sz bytes = true)
    (hb : find H b = some (.buf sz l.length)) (hr : room bytes (l.length + m.length) = true) :
    opR tb cfg gl ops k S = some { v := .slice (.buf b) sz (E.F (l ++ m)), ws := [(b, .buf sz (l ++ m).length)], rd := [b] } := by
  rw [h0]
  unfold apOk at hk
  split at hk
  · rename_i e du he hu
    split at hk
    · rename_i te hte
      simp only [Bool.and_eq_true, beq_iff_eq, Bool.not_eq_true'] at hk
      obtain ⟨⟨⟨h1, h2⟩, h3⟩, h4⟩ := hk
      subst h3 h4
      rw [room_roomy] at hr
      have hl : (E.F l).length = l.length := by rw [E.hF, List.length_map]
      have hm : (E.F m).length = m.length := by rw [E.hF, List.length_map]
      unfold evAppend
      simp only [he, hu, srcOf, hte, srcTy, srcOk, h1, h2, bne_self_eq_false, beq_self_eq_true, Bool.not_true, Bool.or_self, Bool.false_eq_true, if_false, ne_eq, not_true, hb, hl, hm, hr, and_self, if_true]
      rw [E.hF, E.hF, E.hF, List.map_append, List.length_append]
    · cases hk
  · cases hk
/-- onto what is full, or nil, or has no members and no spare. -/
theorem apF (E : LE α) (d : Nat) (H : Heap) (t u : TypeId) (sz bytes : Nat) (l m : List α) (tok2 : Tok) (h0 : opR tb cfg gl ops k S = evAppend tb false d H t u (.slice .full sz (E.F l)) (.slice tok2 sz (E.F m))) (hk : apOk tb t u sz bytes = true)
    (hm : m.isEmpty = false) (hr : room bytes (l.length + m.length) = true) :
    opR tb cfg gl ops k S = some { v := .slice (.buf (.loc d)) sz (E.F (l ++ m)), ws := [(.loc d, .buf sz (l ++ m).length)], fresh := true } := by
  rw [h0]
  unfold apOk at hk
  split at hk
  · rename_i e du he hu
    split at hk
    · rename_i te hte
      simp only [Bool.and_eq_true, beq_iff_eq, Bool.not_eq_true'] at hk
      obtain ⟨⟨⟨h1, h2⟩, h3⟩, h4⟩ := hk
      subst h3 h4
      rw [room_roomy] at hr
      have hl : (E.F l).length = l.length := by rw [E.hF, List.length_map]
      have hml : (E.F m).length = m.length := by rw [E.hF, List.length_map]
      have hme : (E.F m).isEmpty = false := by rw [E.hF]; cases m <;> simp_all
      unfold evAppend
      simp only [he, hu, srcOf, hte, srcTy, srcOk, h1, h2, bne_self_eq_false, beq_self_eq_true, Bool.not_true, Bool.or_self, Bool.false_eq_true, if_false, ne_eq, not_true, hme, hl, hml, hr, if_true]
      rw [E.hF, E.hF, E.hF, List.map_append, List.length_append]
    · cases hk
  · cases hk
theorem apN (E : LE α) (d : Nat) (H : Heap) (t u : TypeId) (sz bytes : Nat) (m : List α) (tok2 : Tok) (h0 : opR tb cfg gl ops k S = evAppend tb false d H t u .nils (.slice tok2 sz (E.F m))) (hk : apOk tb t u sz bytes = true)
    (hm : m.isEmpty = false) (hr : room bytes (0 + m.length) = true) :
    opR tb cfg gl ops k S = some { v := .slice (.buf (.loc d)) sz (E.F m), ws := [(.loc d, .buf sz m.length)], fresh := true } := by
  rw [h0]
  unfold apOk at hk
  split at hk
  · rename_i e du he hu
    split at hk
    · rename_i te hte
      simp only [Bool.and_eq_true, beq_iff_eq, Bool.not_eq_true'] at hk
      obtain ⟨⟨⟨h1, h2⟩, h3⟩, h4⟩ := hk
      subst h3 h4
      rw [room_roomy, Nat.zero_add] at hr
      have hml : (E.F m).length = m.length := by rw [E.hF, List.length_map]
      have hme : (E.F m).isEmpty = false := by rw [E.hF]; cases m <;> simp_all
      unfold evAppend
      simp only [he, hu, srcOf, hte, srcTy, srcOk, h1, h2, bne_self_eq_false, beq_self_eq_true, Bool.not_true, Bool.or_self, Bool.false_eq_true, if_false, ne_eq, not_true, hme, hml, hr, if_true]
    · cases hk
  · cases hk
/-- .. of which the spare is not wanted. -/
theorem apP (E : LE α) (d : Nat) (H : Heap) (t u : TypeId) (sz bytes : Nat) (l m : List α) (tok2 : Tok) (h0 : opR tb cfg gl ops k S = evAppend tb true d H t u (.slice .full sz (E.F l)) (.slice tok2 sz (E.F m))) (hk : apOk tb t u sz bytes = true) (hr : room bytes (l.length + m.length) = true) :
    opR tb cfg gl ops k S = some { v := .slice .none sz (E.F (l ++ m)) } := by
  rw [h0]
  unfold apOk at hk
  split at hk
  · rename_i e du he hu
    split at hk
    · rename_i te hte
      simp only [Bool.and_eq_true, beq_iff_eq, Bool.not_eq_true'] at hk
      obtain ⟨⟨⟨h1, h2⟩, h3⟩, h4⟩ := hk
      subst h3 h4
      rw [room_roomy] at hr
      have hl : (E.F l).length = l.length := by rw [E.hF, List.length_map]
      have hml : (E.F m).length = m.length := by rw [E.hF, List.length_map]
      unfold evAppend
      simp only [he, hu, srcOf, hte, srcTy, srcOk, h1, h2, bne_self_eq_false, beq_self_eq_true, Bool.not_true, Bool.or_self, Bool.false_eq_true, if_false, ne_eq, not_true, hl, hml, hr, if_true]
      rw [E.hF, E.hF, E.hF, List.map_append]
    · cases hk
  · cases hk
theorem apPN (E : LE α) (d : Nat) (H : Heap) (t u : TypeId) (sz bytes : Nat) (m : List α) (tok2 : Tok) (h0 : opR tb cfg gl ops k S = evAppend tb true d H t u .nils (.slice tok2 sz (E.F m))) (hk : apOk tb t u sz bytes = true) (hr : room bytes (0 + m.length) = true) :
    opR tb cfg gl ops k S = some { v := .slice .none sz (E.F m) } := by
  rw [h0]
  unfold apOk at hk
  split at hk
  · rename_i e du he hu
    split at hk
    · rename_i te hte
      simp only [Bool.and_eq_true, beq_iff_eq, Bool.not_eq_true'] at hk
      obtain ⟨⟨⟨h1, h2⟩, h3⟩, h4⟩ := hk
      subst h3 h4
      rw [room_roomy, Nat.zero_add] at hr
      have hml : (E.F m).length = m.length := by rw [E.hF, List.length_map]
      unfold evAppend
      simp only [he, hu, srcOf, hte, srcTy, srcOk, h1, h2, bne_self_eq_false, beq_self_eq_true, Bool.not_true, Bool.or_self, Bool.false_eq_true, if_false, ne_eq, not_true, hml, hr, if_true]
    · cases hk
  · cases hk

/-! ### numbers and strings -/
theorem ccS (a b : List UInt8) (t : TypeId) (h0 : opR tb cfg gl ops k S = (evBin tb .add t (.str a) (.str b)).map fun v => ({ v } : OpR)) (h : decide (a.length + b.length ≤ 9223372036854775807) = true) : opR tb cfg gl ops k S = some { v := .str (a ++ b) } := by
  rw [h0]
  unfold evBin strOp
  simp only
  rw [if_pos (of_decide_eq_true h)]
  rfl
theorem quR (kd : IntKind) (a b : Int) (t : TypeId) (h0 : opR tb cfg gl ops k S = (evBin tb .quo t (.int kd a) (.int kd b)).map fun v => ({ v } : OpR)) (h : (b == 0) = false) : opR tb cfg gl ops k S = some { v := .int kd (kd.wrap (a.tdiv b)) } := by
  rw [h0]
  have : b ≠ 0 := by simpa using h
  simp [evBin, intOp, this]
theorem reR (kd : IntKind) (a b : Int) (t : TypeId) (h0 : opR tb cfg gl ops k S = (evBin tb .rem t (.int kd a) (.int kd b)).map fun v => ({ v } : OpR)) (h : (b == 0) = false) : opR tb cfg gl ops k S = some { v := .int kd (a.tmod b) } := by
  rw [h0]
  have : b ≠ 0 := by simpa using h
  simp [evBin, intOp, this]
theorem slhR (kd kd' : IntKind) (a b : Int) (t : TypeId) (h0 : opR tb cfg gl ops k S = (evBin tb .shl t (.int kd a) (.int kd' b)).map fun v => ({ v } : OpR)) (h : decide (0 ≤ b) = true) : opR tb cfg gl ops k S = some { v := .int kd (kd.wrap (a * 2 ^ (min b.toNat kd.bits))) } := by
  rw [h0]
  have h := of_decide_eq_true h
  have : ¬ b < 0 := by omega
  simp [evBin, intOp, this]
theorem shrR (kd kd' : IntKind) (a b : Int) (t : TypeId) (h0 : opR tb cfg gl ops k S = (evBin tb .shr t (.int kd a) (.int kd' b)).map fun v => ({ v } : OpR)) (h : decide (0 ≤ b) = true) : opR tb cfg gl ops k S = some { v := .int kd (a.fdiv (2 ^ (min b.toNat kd.bits))) } := by
  rw [h0]
  have h := of_decide_eq_true h
  have : ¬ b < 0 := by omega
  simp [evBin, intOp, this]
end

/-! ### code, as it is printed -/
section
variable {Z : Seat} {n : Nat}
theorem SC.seqJ {ρ α : Type} {a b : Code} {S : St} {r : ρ} {J : α → Option ρ} {B : (α → Option ρ) → Option ρ} (h : joinK J B = some r) (I : α → St) {Q : ρ → Ex → St → Prop} (hb : ∀ v r, J v = some r → SC Z n b (I v) (Q r))
    (ha : ∀ j : α → Option ρ, B j = some r → SC Z n a S (thenK (fun S1 => ∃ v, S1 = I v ∧ j v = some r) (Q r))) : SC Z n (.seq a b) S (Q r) := by
  refine SC.seq ((ha J h).mono fun x S1 hx => ?_)
  cases x with
  | normal => obtain ⟨v, rfl, hv⟩ := hx; exact hb v r hv
  | exit i => exact hx
  | ret => exact hx
/-- .. where a part comes to its end inside rounds. -/
def loopQ {σ ρ : Type} (I : σ → St) (Q : ρ → Ex → St → Prop) (x : σ ⊕ ρ) : Ex → St → Prop
  | .normal, S => ∃ s', x = .inl s' ∧ S = I s'
  | e, S => ∃ r, x = .inr r ∧ Q r e S
theorem SC.loopJ {ρ σ : Type} {c : Code} {body : σ → Option (σ ⊕ ρ)} {k : Nat} {s0 : σ} {r : ρ} (h : loopM k body s0 = some r) (I : σ → St) {Q : ρ → Ex → St → Prop} (hb : ∀ s x, body s = some x → SC Z n c (I s) (loopQ I Q x)) : SC Z n (.loop c) (I s0) (Q r) := by
  refine SC.loopI k (fun j S => ∃ s, S = I s ∧ loopM j body s = some r) ?_ ⟨s0, rfl, h⟩
  rintro j S ⟨s, rfl, hs⟩
  cases j with
  | zero => cases hs
  | succ j =>
    rw [loopM_step] at hs
    cases hbs : body s with
    | none => rw [hbs] at hs; cases hs
    | some x =>
      rw [hbs] at hs
      refine (hb s x hbs).mono fun e S1 hx => ?_
      cases e with
      | normal =>
        obtain ⟨s', rfl, rfl⟩ := hx
        exact ⟨j, rfl, s', rfl, hs⟩
      | exit i =>
        obtain ⟨r', rfl, hq⟩ := hx
        simp only [Option.some.injEq] at hs; subst hs
        exact hq
      | ret =>
        obtain ⟨r', rfl, hq⟩ := hx
        simp only [Option.some.injEq] at hs; subst hs
        exact hq
theorem SO.meet {ops : Array Oper} {k e : Nat} {S : St} {K : St → Prop} (p : Nat) (I : St) (hk : k ≤ p ∧ p ≤ e) (ha : SO Z n ops k p S fun S1 => S1 = I) (hb : SO Z n ops p e I K) : SO Z n ops k e S K := by
  refine SO.cut p hk.1 hk.2 ?_
  intro g a w hS Q m hq
  exact ha g a w hS Q m fun S' a' w' e st => hq S' a' w' (e ▸ hb) st
theorem SO.joinK {ρ α : Type} {ops : Array Oper} {k e : Nat} {S : St} {K : St → Prop} {r : ρ} {J : α → Option ρ} {B : (α → Option ρ) → Option ρ} (h : F.joinK J B = some r) (I : α → St) (p : Nat) (hk : k ≤ p ∧ p ≤ e) (hb : ∀ v, J v = some r → SO Z n ops p e (I v) K)
    (ha : ∀ j : α → Option ρ, B j = some r → SO Z n ops k p S fun S1 => ∃ v, S1 = I v ∧ j v = some r) : SO Z n ops k e S K := by
  refine SO.cut p hk.1 hk.2 ?_
  intro g a w hS Q m hq
  exact ha J h g a w hS Q m fun S' a' w' ⟨v, e, hv⟩ st => hq S' a' w' (e ▸ hb v hv) st
theorem QD.joinJ {ρ α : Type} {ops : Array Oper} {k e : Nat} {S : St} {Q : St → Prop} {r : ρ} {J : α → Option ρ} {B : (α → Option ρ) → Option ρ} (h : F.joinK J B = some r) (I : α → St) (p : Nat) (hk : k ≤ p ∧ p ≤ e) (hn : ∀ v, namesIn ops ((I v).A.map (·.1)) ((ops.toList.drop p).take (e - p)) = true)
    (hb : ∀ v, J v = some r → QD Z n ops p e (I v) (QE Q)) (ha : ∀ j : α → Option ρ, B j = some r → QD Z n ops k p S fun S1 => ∃ v, (narrow (I v) S1 = some (I v) ∧ S1.H = (I v).H) ∧ j v = some r) : QD Z n ops k e S (QE Q) := QD.joinK (J := J) (B := B) h I p hk hn hb ha
end
end Go.Proofs.Ytbckfbohbjhffaa.AE
