/- Counts, read as plain values. No condition. -/
import Derived.Test.YtbckfbohbjhffaaZSE
import Derived.Test.YtbckfbohbjhffaaZDat
import Derived.Test.YtbckfbohbjhffaaZTop
import Derived.Test.YtbckfbohbjhffaaZPSettle3
set_option linter.unusedVariables false
set_option linter.unusedSimpArgs false
set_option maxRecDepth 100000
namespace Go.Proofs.Ytbckfbohbjhffaa.AE
open Go F

section
variable {H : Type}
theorem Dwf.inv_int {tb : List TI} {t : TypeId} {d : DataW H} {k : IntKind} (h : Dwf tb t d) (hd : descOf tb t = some (.int k)) : ∃ n, d = .lit (.int k n) ∧ (Lit.int k n).wf = true := by
  cases h with
  | int h hw => rw [hd] at h; cases h; exact ⟨_, rfl, hw⟩
  | bool h => rw [hd] at h; cases h
  | str h _ => rw [hd] at h; cases h
  | nilp h => rw [hd] at h; cases h
  | nils h => rw [hd] at h; cases h
  | ptr h _ => rw [hd] at h; cases h
  | slice h _ _ => rw [hd] at h; cases h
  | struct h _ _ => rw [hd] at h; cases h
  | array h _ _ => rw [hd] at h; cases h
theorem Dwf.inv_slice {tb : List TI} {t e : TypeId} {d : DataW H} (h : Dwf tb t d) (hd : descOf tb t = some (.slice e)) : d = .nil ∨ ∃ es rest, d = .slice es rest ∧ es.length ≤ maxLen ∧ ∀ d ∈ es, Dwf tb e d := by
  cases h with
  | int h hw => rw [hd] at h; cases h
  | bool h => rw [hd] at h; cases h
  | str h _ => rw [hd] at h; cases h
  | nilp h => rw [hd] at h; cases h
  | nils h => exact .inl rfl
  | ptr h _ => rw [hd] at h; cases h
  | slice h hl he => rw [hd] at h; cases h; exact .inr ⟨_, _, rfl, hl, he⟩
  | struct h _ _ => rw [hd] at h; cases h
  | array h _ _ => rw [hd] at h; cases h
theorem Dwf.inv_struct {tb : List TI} {t : TypeId} {d : DataW H} {fs : List (Nat × TypeId)} (h : Dwf tb t d) (hd : descOf tb t = some (.struct fs)) : ∃ ds, d = .agg ds ∧ ds.length = fs.length ∧ ∀ (i : Nat) (f : Nat × TypeId) (d : DataW H), fs[i]? = some f → ds[i]? = some d → Dwf tb f.2 d := by
  cases h with
  | int h hw => rw [hd] at h; cases h
  | bool h => rw [hd] at h; cases h
  | str h _ => rw [hd] at h; cases h
  | nilp h => rw [hd] at h; cases h
  | nils h => rw [hd] at h; cases h
  | ptr h _ => rw [hd] at h; cases h
  | slice h _ _ => rw [hd] at h; cases h
  | struct h hl he => rw [hd] at h; cases h; exact ⟨_, rfl, hl, he⟩
  | array h _ _ => rw [hd] at h; cases h

def dI : DataW H → Int
  | .lit (.int _ n) => n
  | _ => 0
mutual
def dV : DataW H → TValue
  | .agg ds => dV3 ds
  | _ => ⟨0, 0, []⟩
def dV3 : List (DataW H) → TValue
  | [a, b, c] => ⟨dI a, dI b, dVs c⟩
  | _ => ⟨0, 0, []⟩
def dVs : DataW H → List TValue
  | .slice es _ => dVl es
  | _ => []
def dVl : List (DataW H) → List TValue
  | [] => []
  | d :: r => dV d :: dVl r
end
theorem t41 : descOf tab 41 = some (.struct [(0, 3), (1, 3), (2, 34)]) := by kernel_rfl
theorem t34 : descOf tab 34 = some (.slice 41) := by kernel_rfl
theorem t3 : descOf tab 3 = some (.int .i64) := by kernel_rfl
theorem s41 : sizeD tab 41 = 3 := by kernel_rfl
theorem p41 (cs : List AV) : pack tab 41 cs = .agg cs := by kernel_rfl
theorem max_le : maxLen ≤ 9223372036854775807 := by decide
theorem av_int {d : DataW H} (h : Dwf tab 3 d) : avs tab 3 d = [.int .i64 (dI d)] := by
  obtain ⟨n, rfl, _⟩ := h.inv_int t3
  rfl
theorem three {α : Type} {l : List α} (h : l.length = 3) : ∃ a b c, l = [a, b, c] := by
  match l, h with
  | [a, b, c], _ => exact ⟨a, b, c, rfl⟩
theorem dV_ok {t : TypeId} {d : DataW H} (h : Dwf tab t d) : (t = 41 → avs tab 41 d = cTValue (dV d) ∧ VOk (dV d)) ∧ (t = 34 → avs tab 34 d = [.slice .none 3 (eTValue.F (dVs d))] ∧ LOk (dVs d)) := by
  induction h with
  | bool h => exact ⟨(fun e => by subst e; rw [t41] at h; cases h), (fun e => by subst e; rw [t34] at h; cases h)⟩
  | int h hw => exact ⟨(fun e => by subst e; rw [t41] at h; cases h), (fun e => by subst e; rw [t34] at h; cases h)⟩
  | str h hw => exact ⟨(fun e => by subst e; rw [t41] at h; cases h), (fun e => by subst e; rw [t34] at h; cases h)⟩
  | nilp h => exact ⟨(fun e => by subst e; rw [t41] at h; cases h), (fun e => by subst e; rw [t34] at h; cases h)⟩
  | ptr h _ _ => exact ⟨(fun e => by subst e; rw [t41] at h; cases h), (fun e => by subst e; rw [t34] at h; cases h)⟩
  | array h _ _ _ => exact ⟨(fun e => by subst e; rw [t41] at h; cases h), (fun e => by subst e; rw [t34] at h; cases h)⟩
  | nils h =>
    refine ⟨(fun e => by subst e; rw [t41] at h; cases h), fun e => ?_⟩
    subst e
    refine ⟨?_, ⟨by simp [dVs], by simp [dVs]⟩⟩
    simp only [avs, t34, nilA, s41, dVs]
    rfl
  | @slice t e es rest h hl he ih =>
    refine ⟨(fun e => by subst e; rw [t41] at h; cases h), fun e => ?_⟩
    subst e
    rw [t34] at h; cases h
    have key : ∀ l : List (DataW H), (∀ d ∈ l, d ∈ es) → packs tab 41 l = eTValue.F (dVl l) ∧ (∀ x ∈ dVl l, VOk x) ∧ (dVl l).length = l.length := by
      intro l
      induction l with
      | nil => intro _; exact ⟨rfl, by simp [dVl], rfl⟩
      | cons d r ihl =>
        intro hm
        obtain ⟨k1, k2, k3⟩ := ihl (fun d hd => hm d (by simp [hd]))
        obtain ⟨q1, q2⟩ := (ih d (hm d (by simp))).1 rfl
        refine ⟨?_, ?_, by simp [dVl, k3]⟩
        · simp only [packs, dVl, k1, q1, p41]
          show _ = FTValue _
          simp only [FTValue, fTValue_eq]
          rfl
        · intro x hx
          simp only [dVl, List.mem_cons] at hx
          rcases hx with rfl | hx
          · exact q2
          · exact k2 x hx
    obtain ⟨k1, k2, k3⟩ := key es (fun d h => h)
    refine ⟨?_, ⟨by simpa [dVs] using k2, by simp only [dVs]; have := max_le; omega⟩⟩
    simp only [avs, t34, s41, dVs, k1]
  | @struct t fs ds h hl he ih =>
    refine ⟨fun e => ?_, (fun e => by subst e; rw [t34] at h; cases h)⟩
    subst e
    rw [t41] at h; cases h
    obtain ⟨a, b, c, rfl⟩ := three hl
    have ha := he 0 (0, 3) a rfl rfl
    have hb := he 1 (1, 3) b rfl rfl
    obtain ⟨q1, q2⟩ := (ih 2 (2, 34) c rfl rfl).2 rfl
    refine ⟨?_, ⟨?_, ?_⟩⟩
    · simp only [avs, t41, fieldsA, av_int ha, av_int hb, q1, dV, dV3]
      rfl
    · simpa [dV, dV3] using q2.1
    · simpa [dV, dV3] using q2.2
def dO : DataW H → TOutcome
  | .agg [a, b, c, l, s] => ⟨dI a, dI b, dI c, dVs l, dVs s⟩
  | _ => ⟨0, 0, 0, [], []⟩
def dC : DataW H → Tsweep_Count
  | .agg [o, n] => ⟨dO o, dI n⟩
  | _ => ⟨⟨0, 0, 0, [], []⟩, 0⟩
def dCs : DataW H → List Tsweep_Count
  | .slice es _ => es.map dC
  | _ => []
theorem t36 : descOf tab 36 = some (.struct [(0, 3), (1, 3), (2, 3), (3, 34), (4, 34)]) := by kernel_rfl
theorem t38 : descOf tab 38 = some (.struct [(0, 36), (5, 3)]) := by kernel_rfl
theorem t33 : descOf tab 33 = some (.slice 38) := by kernel_rfl
theorem s38 : sizeD tab 38 = 6 := by kernel_rfl
theorem p38 (cs : List AV) : pack tab 38 cs = .agg cs := by kernel_rfl
theorem p33 (a : AV) : pack tab 33 [a] = a := by kernel_rfl
theorem five {α : Type} {l : List α} (h : l.length = 5) : ∃ a b c d e, l = [a, b, c, d, e] := by
  match l, h with
  | [a, b, c, d, e], _ => exact ⟨a, b, c, d, e, rfl⟩
theorem two {α : Type} {l : List α} (h : l.length = 2) : ∃ a b, l = [a, b] := by
  match l, h with
  | [a, b], _ => exact ⟨a, b, rfl⟩
theorem dO_ok {d : DataW H} (h : Dwf tab 36 d) : avs tab 36 d = cTOutcome (dO d) ∧ OOk (dO d) := by
  obtain ⟨ds, rfl, hl, he⟩ := h.inv_struct t36
  obtain ⟨a, b, c, l, s, rfl⟩ := five hl
  have ha := he 0 (0, 3) a rfl rfl
  have hb := he 1 (1, 3) b rfl rfl
  have hc := he 2 (2, 3) c rfl rfl
  obtain ⟨q1, q2⟩ := (dV_ok (he 3 (3, 34) l rfl rfl)).2 rfl
  obtain ⟨r1, r2⟩ := (dV_ok (he 4 (4, 34) s rfl rfl)).2 rfl
  refine ⟨?_, ⟨q2, r2⟩⟩
  simp only [avs, t36, fieldsA, av_int ha, av_int hb, av_int hc, q1, r1, dO]
  rfl
theorem dC_ok {d : DataW H} (h : Dwf tab 38 d) : avs tab 38 d = cTsweep_Count (dC d) ∧ OOk (dC d).Out := by
  obtain ⟨ds, rfl, hl, he⟩ := h.inv_struct t38
  obtain ⟨o, n, rfl⟩ := two hl
  obtain ⟨q1, q2⟩ := dO_ok (he 0 (0, 36) o rfl rfl)
  have hn := he 1 (5, 3) n rfl rfl
  refine ⟨?_, q2⟩
  simp only [avs, t38, fieldsA, av_int hn, q1, dC]
  rfl
theorem dCs_ok {d : DataW H} (h : Dwf tab 33 d) : av tab 33 d = .slice .none 6 (eTsweep_Count.F (dCs d)) ∧ ∀ c ∈ dCs d, OOk c.Out := by
  rcases h.inv_slice t33 with rfl | ⟨es, rest, rfl, hl, he⟩
  · refine ⟨?_, by simp [dCs]⟩
    simp only [av, avs, t33, nilA, s38, dCs, p33]
    rfl
  · have key : ∀ l : List (DataW H), (∀ d ∈ l, Dwf tab 38 d) → packs tab 38 l = eTsweep_Count.F (l.map dC) := by
      intro l
      induction l with
      | nil => intro _; rfl
      | cons d r ih =>
        intro hm
        simp only [packs, (dC_ok (hm d (by simp))).1, p38, ih (fun d hd => hm d (by simp [hd]))]
        rfl
    refine ⟨?_, fun c hc => ?_⟩
    · simp only [av, avs, t33, s38, p33, key es he, dCs]
    · simp only [dCs] at hc
      obtain ⟨d, hd, rfl⟩ := List.mem_map.1 hc
      exact (dC_ok (he d hd)).2
end
end Go.Proofs.Ytbckfbohbjhffaa.AE
