/- What an abstract value, heap and state stand for in the model's memory, and how that is kept. No condition. -/
import Derived.Test.YtbckfbohbjhffaaZDefs
import Derived.Laws.Cells
import Derived.Laws.CopyRow
set_option linter.unusedVariables false
set_option linter.unusedSimpArgs false
namespace Go.Proofs.Ytbckfbohbjhffaa.AE
open Go

/-- Nothing is told. -/
def nob : AV → Prop := fun _ => False
/-- Γ: cells that nobody writes any more, with what they hold; μ: the blocks of the objects; of a spare: its elements' size and how many there are, its block and capacity. -/
structure Gh where
  Γ : Nat → Nat → AV → Prop
  μ : Oid → Option Nat
  tip : Oid → Option (Nat × Nat)
  bufc : Oid → Option (Nat × Nat)

def Pinned (g : Gh) (c off : Nat) (cs : List AV) : Prop := ∀ i a, cs[i]? = some a → g.Γ c (off + i) a

/-- A slice of no elements: nil, or at a place of which nothing is told. -/
def Bare (tok : Tok) (v : Value) : Prop := v = .slice none 0 0 ∨ ∃ a cap, v = .slice (some a) 0 cap ∧ (tok = .none ∨ cap = 0)

theorem Bare.none {tok : Tok} {v : Value} (h : Bare tok v) : Bare .none v := by
  rcases h with rfl | ⟨a, cap, rfl, _⟩
  · exact .inl rfl
  · exact .inr ⟨a, cap, rfl, .inl rfl⟩
theorem Bare.slice {tok : Tok} {v : Value} (h : Bare tok v) : ∃ p cap, v = .slice p 0 cap := by
  rcases h with rfl | ⟨a, cap, rfl, _⟩
  · exact ⟨_, _, rfl⟩
  · exact ⟨_, _, rfl⟩

def TokOk (g : Gh) (len c off cap : Nat) : Tok → Prop
  | .none => True
  | .full => cap = len
  | .buf b => ∀ s n, g.tip b = some (s, n) → len ≤ n ∧ (len = n → (off = 0 ∧ g.bufc b = some (c, cap)) ∨ cap = len)

mutual
def V (g : Gh) : AV → Value → Prop
  | .undef, _ => True
  | .bool b, v => v = .bool b
  | .int k n, v => v = .int k n
  | .str s, v => v = .string ⟨s.toArray⟩
  | .nilp, v => v = .pointer none
  | .ptr b off, v => ∃ c, g.μ b = some c ∧ v = .pointer (some ⟨c, off, none⟩)
  | .pin cs, v => ∃ c off, v = .pointer (some ⟨c, off, none⟩) ∧ Pinned g c off cs
  | .nils, v => v = .slice none 0 0
  | .slice tok s es, v => (Bare tok v ∧ es = []) ∨
      ∃ c off cap, v = .slice (some ⟨c, off, none⟩) es.length cap ∧ es.length ≤ cap ∧ (∀ e ∈ es, (cellsOf e).length = s) ∧
        Pinned g c off (es.flatMap cellsOf) ∧ TokOk g es.length c off cap tok
  | .mref b s off len cap, v => ∃ c, g.μ b = some c ∧ v = .slice (some ⟨c, off, none⟩) len cap ∧ len ≤ cap
  | .nilm, v => v = .map none
  | .mapr b, v => ∃ c, g.μ b = some c ∧ v = .map (some c)
  | .nilf, v => v = .nilFunc
  | .fn f a b, v => ∃ x y, v = .func f x y ∧ VL g a x.toList ∧ VL g b y.toList
  | .nili, v => v = .nilIface
  | .iface t x, v => ∃ y, v = .iface t y ∧ V g x y
  | .agg cs, v => ∃ x, v = .agg x ∧ VL g cs x.toList
  | .tuple cs, v => ∃ x, v = .tuple x ∧ VL g cs x.toList
def VL (g : Gh) : List AV → List Value → Prop
  | [], l => l = []
  | a :: as, l => ∃ v vs, l = v :: vs ∧ V g a v ∧ VL g as vs
end

theorem VL.length {g : Gh} : ∀ {as : List AV} {vs : List Value}, VL g as vs → vs.length = as.length
  | [], _, h => by simp [VL] at h; simp [h]
  | a :: as, _, h => by
    simp only [VL] at h
    obtain ⟨v, vs, rfl, _, h⟩ := h
    simp [VL.length h]

theorem VL.get {g : Gh} : ∀ {as : List AV} {vs : List Value}, VL g as vs → ∀ (i : Nat) (a : AV), as[i]? = some a → ∃ v, vs[i]? = some v ∧ V g a v
  | [], _, _, i, a, h => by simp at h
  | x :: as, _, h, i, a, hi => by
    simp only [VL] at h
    obtain ⟨v, vs, rfl, hv, h⟩ := h
    cases i with
    | zero => simp at hi; subst hi; exact ⟨v, by simp, hv⟩
    | succ i => simp at hi; obtain ⟨u, h1, h2⟩ := VL.get h i a hi; exact ⟨u, by simpa using h1, h2⟩

theorem VL.of_get {g : Gh} : ∀ {as : List AV} {vs : List Value}, vs.length = as.length → (∀ (i : Nat) (a : AV) (v : Value), as[i]? = some a → vs[i]? = some v → V g a v) → VL g as vs
  | [], vs, h, _ => by cases vs <;> simp_all [VL]
  | a :: as, vs, h, hh => by
    cases vs with
    | nil => simp at h
    | cons v vs =>
      simp only [VL]
      exact ⟨v, vs, rfl, hh 0 a v (by simp) (by simp), VL.of_get (by simpa using h) fun i x y hx hy => hh (i + 1) x y (by simpa using hx) (by simpa using hy)⟩

theorem VL.append {g : Gh} : ∀ {as bs : List AV} {vs us : List Value}, VL g as vs → VL g bs us → VL g (as ++ bs) (vs ++ us)
  | [], bs, vs, us, h, h' => by simp [VL] at h; subst h; simpa using h'
  | a :: as, bs, vs, us, h, h' => by
    simp only [VL] at h
    obtain ⟨v, vs, rfl, hv, h⟩ := h
    exact ⟨v, vs ++ us, rfl, hv, VL.append h h'⟩

theorem VL.take {g : Gh} {as : List AV} {vs : List Value} (h : VL g as vs) (n : Nat) : VL g (as.take n) (vs.take n) := by
  refine VL.of_get (by simp [h.length]) fun i a v ha hv => ?_
  rw [List.getElem?_take] at ha hv
  split at ha
  · rw [if_pos ‹_›] at hv
    obtain ⟨u, h1, h2⟩ := h.get i a ha
    rw [h1] at hv; cases hv; exact h2
  · simp at ha
theorem VL.drop {g : Gh} {as : List AV} {vs : List Value} (h : VL g as vs) (n : Nat) : VL g (as.drop n) (vs.drop n) := by
  refine VL.of_get (by simp [h.length]) fun i a v ha hv => ?_
  rw [List.getElem?_drop] at ha hv
  obtain ⟨u, h1, h2⟩ := h.get _ a ha
  rw [h1] at hv; cases hv; exact h2

/-- A value's cells. -/
theorem V.cells {g : Gh} {a : AV} {v : Value} (h : V g a v) (hu : noUndef a = true) : VL g (cellsOf a) v.cells.toList := by
  cases a <;> simp only [V, noUndef, cellsOf, VL] at *
  case undef => cases hu
  case bool => subst h; exact ⟨_, [], rfl, rfl, rfl⟩
  case int => subst h; exact ⟨_, [], rfl, rfl, rfl⟩
  case str => subst h; exact ⟨_, [], rfl, rfl, rfl⟩
  case nilp => subst h; exact ⟨_, [], rfl, rfl, rfl⟩
  case nils => subst h; exact ⟨_, [], rfl, rfl, rfl⟩
  case nilm => subst h; exact ⟨_, [], rfl, rfl, rfl⟩
  case nilf => subst h; exact ⟨_, [], rfl, rfl, rfl⟩
  case nili => subst h; exact ⟨_, [], rfl, rfl, rfl⟩
  case ptr => obtain ⟨c, h1, rfl⟩ := h; exact ⟨_, [], rfl, ⟨c, h1, rfl⟩, rfl⟩
  case pin => obtain ⟨c, o, rfl, h1⟩ := h; exact ⟨_, [], rfl, ⟨c, o, rfl, h1⟩, rfl⟩
  case slice =>
    rcases h with ⟨h0, h1⟩ | ⟨c, o, cap, rfl, h1⟩
    · obtain ⟨p, cap, rfl⟩ := h0.slice
      exact ⟨_, [], rfl, .inl ⟨h0, h1⟩, rfl⟩
    · exact ⟨_, [], rfl, .inr ⟨c, o, cap, rfl, h1⟩, rfl⟩
  case mref => obtain ⟨c, h1, rfl, h2⟩ := h; exact ⟨_, [], rfl, ⟨c, h1, rfl, h2⟩, rfl⟩
  case mapr => obtain ⟨c, h1, rfl⟩ := h; exact ⟨_, [], rfl, ⟨c, h1, rfl⟩, rfl⟩
  case fn => obtain ⟨x, y, rfl, h1⟩ := h; exact ⟨_, [], rfl, ⟨x, y, rfl, h1⟩, rfl⟩
  case iface => obtain ⟨y, rfl, h1⟩ := h; exact ⟨_, [], rfl, ⟨y, rfl, h1⟩, rfl⟩
  case agg => obtain ⟨x, rfl, h1⟩ := h; exact h1
  case tuple => obtain ⟨x, rfl, h1⟩ := h; exact ⟨_, [], rfl, ⟨x, rfl, h1⟩, rfl⟩

theorem V.one {g : Gh} {a : AV} {v : Value} (h : V g a v) (hc : cellOk a = true) : v.oneCell' = true := by
  cases a <;> simp only [V, cellOk] at * <;> first
    | (cases hc; done)
    | (subst h; rfl)
    | (obtain ⟨c, h1, rfl⟩ := h; rfl)
    | (obtain ⟨c, o, rfl, h1⟩ := h; rfl)
    | (rcases h with ⟨rfl | ⟨a, cap, rfl, _⟩, h1⟩ | ⟨c, o, cap, rfl, h1⟩ <;> rfl)
    | (obtain ⟨c, h1, rfl, h2⟩ := h; rfl)
    | (obtain ⟨c, rfl, h2⟩ := h; rfl)

/-! ### going on -/
structure TokLe (g g' : Gh) (b : Oid) : Prop where
  le : ∀ s n', g'.tip b = some (s, n') → ∃ s' n, g.tip b = some (s', n) ∧ n ≤ n' ∧ (n = n' → g'.bufc b = g.bufc b)

theorem TokOk.mono {g g' : Gh} {len c off cap : Nat} {tok : Tok} (h : TokOk g len c off cap tok) (ht : ∀ b, tok = .buf b → TokLe g g' b) : TokOk g' len c off cap tok := by
  cases tok with
  | none => trivial
  | full => exact h
  | buf b =>
    intro s n' hn
    obtain ⟨s', n, h1, h2, h3⟩ := (ht b rfl).le s n' hn
    obtain ⟨h4, h5⟩ := h s' n h1
    refine ⟨Nat.le_trans h4 h2, fun e => ?_⟩
    subst e
    have : n = len := Nat.le_antisymm h2 h4
    subst this
    rw [h3 rfl]; exact h5 rfl

theorem Pinned.mono {g g' : Gh} {c off : Nat} {cs : List AV} (h : Pinned g c off cs) (hg : ∀ c o x, g.Γ c o x → g'.Γ c o x) : Pinned g' c off cs :=
  fun i a ha => hg _ _ _ (h i a ha)

mutual
theorem V.mono {g g' : Gh} (hg : ∀ c o x, g.Γ c o x → g'.Γ c o x) : ∀ (a : AV) (v : Value), (∀ b ∈ refs a, ∀ c, g.μ b = some c → g'.μ b = some c) →
    (∀ b ∈ toks a, TokLe g g' b) → V g a v → V g' a v
  | .undef, _, _, _, h => trivial
  | .bool b, v, _, _, h => h
  | .int k n, v, _, _, h => h
  | .str s, v, _, _, h => h
  | .nilp, v, _, _, h => h
  | .ptr b off, v, hm, _, h => by
    obtain ⟨c, h1, h2⟩ := h
    exact ⟨c, hm b (by simp [refs]) c h1, h2⟩
  | .pin cs, v, _, _, h => by
    obtain ⟨c, o, h1, h2⟩ := h
    exact ⟨c, o, h1, h2.mono hg⟩
  | .nils, v, _, _, h => h
  | .slice tok s es, v, _, ht, h => by
    rcases h with h | ⟨c, o, cap, h1, h2, h3, h4, h5⟩
    · exact .inl h
    · refine .inr ⟨c, o, cap, h1, h2, h3, h4.mono hg, h5.mono fun b hb => ht b ?_⟩
      subst hb; simp [toks]
  | .mref b s off len cap, v, hm, _, h => by
    obtain ⟨c, h1, h2⟩ := h
    exact ⟨c, hm b (by simp [refs]) c h1, h2⟩
  | .nilm, v, _, _, h => h
  | .mapr b, v, hm, _, h => by
    obtain ⟨c, h1, h2⟩ := h
    exact ⟨c, hm b (by simp [refs]) c h1, h2⟩
  | .nilf, v, _, _, h => h
  | .fn f a b, v, hm, ht, h => by
    obtain ⟨x, y, h1, h2, h3⟩ := h
    simp only [refs, toks, List.mem_append] at hm ht
    exact ⟨x, y, h1, VL.mono hg a _ (fun b hb => hm b (.inl hb)) (fun b hb => ht b (.inl hb)) h2, VL.mono hg b _ (fun b hb => hm b (.inr hb)) (fun b hb => ht b (.inr hb)) h3⟩
  | .nili, v, _, _, h => h
  | .iface t x, v, hm, ht, h => by
    obtain ⟨y, h1, h2⟩ := h
    exact ⟨y, h1, V.mono hg x y (by simpa only [refs] using hm) (by simpa only [toks] using ht) h2⟩
  | .agg cs, v, hm, ht, h => by
    obtain ⟨y, h1, h2⟩ := h
    exact ⟨y, h1, VL.mono hg cs _ (by simpa only [refs] using hm) (by simpa only [toks] using ht) h2⟩
  | .tuple cs, v, hm, ht, h => by
    obtain ⟨y, h1, h2⟩ := h
    exact ⟨y, h1, VL.mono hg cs _ (by simpa only [refs] using hm) (by simpa only [toks] using ht) h2⟩
theorem VL.mono {g g' : Gh} (hg : ∀ c o x, g.Γ c o x → g'.Γ c o x) : ∀ (as : List AV) (vs : List Value), (∀ b ∈ refsL as, ∀ c, g.μ b = some c → g'.μ b = some c) →
    (∀ b ∈ toksL as, TokLe g g' b) → VL g as vs → VL g' as vs
  | [], _, _, _, h => h
  | a :: as, _, hm, ht, h => by
    obtain ⟨v, vs, h1, h2, h3⟩ := h
    simp only [refsL, toksL, List.mem_append] at hm ht
    exact ⟨v, vs, h1, V.mono hg a v (fun b hb => hm b (.inl hb)) (fun b hb => ht b (.inl hb)) h2, VL.mono hg as vs (fun b hb => hm b (.inr hb)) (fun b hb => ht b (.inr hb)) h3⟩
end

mutual
theorem V.clean {g : Gh} : ∀ (a : AV) (v : Value), V g a v → V g (clean a) v
  | .slice tok s es, v, h => by
    cases tok with
    | buf b =>
      rcases h with h | ⟨c, o, cap, h1, h2, h3, h4, h5⟩
      · exact .inl ⟨h.1.none, h.2⟩
      · exact .inr ⟨c, o, cap, h1, h2, h3, h4, trivial⟩
    | none => exact h
    | full => exact h
  | .fn f a b, v, h => by
    obtain ⟨x, y, h1, h2, h3⟩ := h
    exact ⟨x, y, h1, VL.clean a _ h2, VL.clean b _ h3⟩
  | .iface t x, v, h => by
    obtain ⟨y, h1, h2⟩ := h
    exact ⟨y, h1, V.clean x y h2⟩
  | .agg cs, v, h => by
    obtain ⟨y, h1, h2⟩ := h
    exact ⟨y, h1, VL.clean cs _ h2⟩
  | .tuple cs, v, h => by
    obtain ⟨y, h1, h2⟩ := h
    exact ⟨y, h1, VL.clean cs _ h2⟩
  | .undef, v, h => h
  | .bool b, v, h => h
  | .int k n, v, h => h
  | .str s, v, h => h
  | .nilp, v, h => h
  | .ptr b off, v, h => h
  | .pin cs, v, h => h
  | .nils, v, h => h
  | .mref b s off len cap, v, h => h
  | .nilm, v, h => h
  | .mapr b, v, h => h
  | .nilf, v, h => h
  | .nili, v, h => h
theorem VL.clean {g : Gh} : ∀ (as : List AV) (vs : List Value), VL g as vs → VL g (cleanL as) vs
  | [], _, h => h
  | a :: as, _, h => by
    obtain ⟨v, vs, h1, h2, h3⟩ := h
    exact ⟨v, vs, h1, V.clean a v h2, VL.clean as vs h3⟩
end

mutual
theorem V.strip {g : Gh} (p : Oid → Bool) : ∀ (a : AV) (v : Value), V g a v → V g (strip p a) v
  | .slice tok s es, v, h => by
    cases tok with
    | buf b =>
      simp only [AE.strip]
      split
      · rcases h with h | ⟨c, o, cap, h1, h2, h3, h4, h5⟩
        · exact .inl ⟨h.1.none, h.2⟩
        · exact .inr ⟨c, o, cap, h1, h2, h3, h4, trivial⟩
      · exact h
    | none => exact h
    | full => exact h
  | .fn f a b, v, h => by
    obtain ⟨x, y, h1, h2, h3⟩ := h
    exact ⟨x, y, h1, VL.strip p a _ h2, VL.strip p b _ h3⟩
  | .iface t x, v, h => by
    obtain ⟨y, h1, h2⟩ := h
    exact ⟨y, h1, V.strip p x y h2⟩
  | .agg cs, v, h => by
    obtain ⟨y, h1, h2⟩ := h
    exact ⟨y, h1, VL.strip p cs _ h2⟩
  | .tuple cs, v, h => by
    obtain ⟨y, h1, h2⟩ := h
    exact ⟨y, h1, VL.strip p cs _ h2⟩
  | .undef, v, h => h
  | .bool b, v, h => h
  | .int k n, v, h => h
  | .str s, v, h => h
  | .nilp, v, h => h
  | .ptr b off, v, h => by
    simp only [AE.strip]
    split
    · trivial
    · exact h
  | .pin cs, v, h => h
  | .nils, v, h => h
  | .mref b s off len cap, v, h => by
    simp only [AE.strip]
    split
    · trivial
    · exact h
  | .nilm, v, h => h
  | .mapr b, v, h => by
    simp only [AE.strip]
    split
    · trivial
    · exact h
  | .nilf, v, h => h
  | .nili, v, h => h
theorem VL.strip {g : Gh} (p : Oid → Bool) : ∀ (as : List AV) (vs : List Value), VL g as vs → VL g (stripL p as) vs
  | [], _, h => h
  | a :: as, _, h => by
    obtain ⟨v, vs, h1, h2, h3⟩ := h
    exact ⟨v, vs, h1, V.strip p a v h2, VL.strip p as vs h3⟩
end

end Go.Proofs.Ytbckfbohbjhffaa.AE
