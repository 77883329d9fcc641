/- The law SweepSettles holds of the printed functions, where no list is longer than memory. No condition. -/
import Derived.Test.YtbckfbohbjhffaaZPSettle
set_option linter.unusedVariables false
set_option linter.unusedSimpArgs false
set_option maxRecDepth 100000
set_option maxHeartbeats 4000000
namespace Go.Proofs.Ytbckfbohbjhffaa.F
open Go

theorem loop_go {σ ρ : Type} {body : Nat → σ → Option (σ ⊕ ρ)} {r : ρ} (Inv : σ → Prop) (m : σ → Nat)
    (h : ∀ s, Inv s → Ev (fun k => body k s) (.inr r) ∨ (∃ s', Ev (fun k => body k s) (.inl s') ∧ Inv s' ∧ m s' < m s)) (s : σ) (hs : Inv s) : EvL body s r := by
  obtain ⟨r', h1, h2⟩ := loop_ex Inv m (fun x => x = r) (fun s hs => (h s hs).imp (fun h => ⟨r, h, rfl⟩) id) s hs
  subst h2; exact h1
abbrev D (o : TOutcome) : Prop := o.Kind = 0 ∨ o.Kind = 1
def PS (l : List Tsweep_Count) (n : Nat) : Prop := (∀ j (h : j < l.length), j < n → l[j].Out.Kind ≠ 4) ∧ ∀ j (h : j < l.length) m (h2 : m < l.length), j < n → m < j → D l[j].Out → D l[m].Out → l[j].Out = l[m].Out
theorem settled_ev {l : List Tsweep_Count} (hl : l.length ≤ 1000) (ho : ∀ c ∈ l, OOk c.Out) : ∃ b, Ev (fun k => sweep_Settled k l) b ∧ (b = true ↔ PS l l.length) := by
  unfold sweep_Settled
  obtain ⟨r, h1, h2⟩ := loop_ex (σ := Option TOutcome × Int) (ρ := Bool) (body := fun k (s : Option TOutcome × Int) => match s with
    | (l1_3, l1_8) =>
    if (decide (l1_8 < (l.length : Int))) then
    joinK (fun (j2_3 : Option TOutcome) =>
    some (.inl (j2_3, (IntKind.i64.wrap (l1_8 + 1))))) fun j_j2 =>
    (ix l l1_8).bind fun x5_2 =>
    if (x5_2.Out.Kind == 4) then
    some (.inr false)
    else
    if ((decide (x5_2.Out.Kind > 1)) || (decide (x5_2.Out.Kind < 0))) then
    j_j2 l1_3
    else
    (match l1_3 with
        | none => (j_j2 (some x5_2.Out))
        | some p9_l1_3 => ((sweep_same k p9_l1_3 x5_2.Out).bind fun x11_6 =>
    if (!x11_6) then
    some (.inr false)
    else
    j_j2 (some p9_l1_3)))
    else
    (some true).map .inr)
    (fun s => ∃ i : Nat, s.2 = i ∧ i ≤ l.length ∧ (∀ j (h : j < l.length), j < i → l[j].Out.Kind ≠ 4) ∧
      (s.1 = none → ∀ j (h : j < l.length), j < i → ¬ D l[j].Out) ∧ (∀ o, s.1 = some o → (∃ j, ∃ h : j < l.length, j < i ∧ l[j].Out = o ∧ D o) ∧ ∀ j (h : j < l.length), j < i → D l[j].Out → l[j].Out = o))
    (fun s => (l.length - s.2).toNat) (fun b => b = true ↔ PS l l.length) (by
    rintro ⟨f, i⟩ ⟨n, hi, hn, k4, kn, ks⟩
    simp only at hi kn ks
    subst hi
    by_cases hd : n < l.length
    · have hdb : decide ((n : Int) < (l.length : Int)) = true := decide_eq_true (by omega)
      have hw : IntKind.i64.wrap ((n : Int) + 1) = ((n + 1 : Nat) : Int) := by rw [wrap64_id (by omega) (by omega)]; simp
      by_cases hk4 : l[n].Out.Kind = 4
      · left
        have hb : (l[n].Out.Kind == 4) = true := by simpa using hk4
        refine ⟨false, Ev.ite_t hdb (Ev.joinK (Ev.bindS (fun _ => ix_nat hd) (Ev.ite_t hb Ev.pure))), by simp; exact fun h => h.1 n hd hd hk4⟩
      have hb : (l[n].Out.Kind == 4) = false := by simpa using hk4
      have k4' : ∀ j (h : j < l.length), j < n + 1 → l[j].Out.Kind ≠ 4 := by
        intro j h hj
        by_cases hjn : j = n
        · subst hjn; exact hk4
        · exact k4 j h (by omega)
      by_cases hD : D l[n].Out
      · have hc : ((decide (l[n].Out.Kind > 1)) || (decide (l[n].Out.Kind < 0))) = false := by
          simp only [Bool.or_eq_false_iff, decide_eq_false_iff_not]
          rcases hD with h | h <;> omega
        cases f with
        | none =>
          right
          refine ⟨(some l[n].Out, ((n + 1 : Nat) : Int)), Ev.ite_t hdb (Ev.joinK (Ev.bindS (fun _ => ix_nat hd) (Ev.ite_f hb (Ev.ite_f hc (Ev.of fun _ => by simp only [hw]))))), ⟨n + 1, rfl, by omega, k4', (fun h => by cases h), ?_⟩, by simp only; omega⟩
          intro o hoo
          cases hoo
          refine ⟨⟨n, hd, by omega, rfl, hD⟩, fun j h hj hDj => ?_⟩
          by_cases hjn : j = n
          · subst hjn; rfl
          · exact (kn rfl j h (by omega) hDj).elim
        | some o =>
          obtain ⟨⟨j0, hj0, hj0n, hoo, hDo⟩, heq⟩ := ks o rfl
          obtain ⟨b, e1, e2, e3⟩ := out_same (o := o) (u := l[n].Out) (hoo ▸ ho _ (List.getElem_mem hj0)) (ho _ (List.getElem_mem hd))
          cases b with
          | false =>
            left
            refine ⟨false, Ev.ite_t hdb (Ev.joinK (Ev.bindS (fun _ => ix_nat hd) (Ev.ite_f hb (Ev.ite_f hc (Ev.bind e1 (Ev.ite_t rfl Ev.pure)))))), by
              simp
              intro h
              have := h.2 n hd j0 hj0 hd hj0n hD (hoo ▸ hDo)
              exact absurd (e3.2 (by rw [this, hoo])) (by simp)⟩
          | true =>
            right
            have he := e3.1 rfl
            refine ⟨(some o, ((n + 1 : Nat) : Int)), Ev.ite_t hdb (Ev.joinK (Ev.bindS (fun _ => ix_nat hd) (Ev.ite_f hb (Ev.ite_f hc (Ev.bind e1 (Ev.ite_f rfl (Ev.of fun _ => by simp only [hw]))))))), ⟨n + 1, rfl, by omega, k4', (fun h => by cases h), ?_⟩, by simp only; omega⟩
            intro o' ho'
            cases ho'
            refine ⟨⟨j0, hj0, by omega, hoo, hDo⟩, fun j h hj hDj => ?_⟩
            by_cases hjn : j = n
            · subst hjn; exact he.symm
            · exact heq j h (by omega) hDj
      · right
        have hc : ((decide (l[n].Out.Kind > 1)) || (decide (l[n].Out.Kind < 0))) = true := by
          simp only [Bool.or_eq_true, decide_eq_true_eq]
          by_cases h : l[n].Out.Kind > 1
          · exact .inl h
          · right
            have : ¬ (l[n].Out.Kind = 0 ∨ l[n].Out.Kind = 1) := hD
            omega
        refine ⟨(f, ((n + 1 : Nat) : Int)), Ev.ite_t hdb (Ev.joinK (Ev.bindS (fun _ => ix_nat hd) (Ev.ite_f hb (Ev.ite_t hc (Ev.of fun _ => by simp only [hw]))))), ⟨n + 1, rfl, by omega, k4', fun h j hj hjn => ?_, fun o hoo => ?_⟩, by simp only; omega⟩
        · by_cases hjn' : j = n
          · subst hjn'; exact hD
          · exact kn h j hj (by omega)
        · obtain ⟨⟨j0, hj0, hj0n, h1, h2⟩, heq⟩ := ks o hoo
          refine ⟨⟨j0, hj0, by omega, h1, h2⟩, fun j h hj hDj => ?_⟩
          by_cases hjn : j = n
          · subst hjn; exact (hD hDj).elim
          · exact heq j h (by omega) hDj
    · left
      have hnl : n = l.length := by omega
      have hdb : decide ((n : Int) < (l.length : Int)) = false := decide_eq_false (by omega)
      refine ⟨true, Ev.ite_f hdb (Ev.of fun _ => rfl), by
        simp
        refine ⟨fun j h _ => k4 j h (by omega), fun j h m h2 _ _ hDj hDm => ?_⟩
        cases f with
        | none => exact (kn rfl j h (by omega) hDj).elim
        | some o =>
          have := (ks o rfl).2
          rw [this j h (by omega) hDj, this m h2 (by omega) hDm]⟩) (none, 0) ⟨0, rfl, by omega, fun j _ h => by omega, fun _ j _ h => by omega, fun o h => by cases h⟩
  exact ⟨r, Ev.joinK (Ev.loop h1), h2⟩
theorem size_ex {v : TValue} (hv : VOk v) : ∃ n, Ev (fun k => ref06_Size k v) n := by
  induction hv with
  | @mk v hk hl ih =>
    obtain ⟨r, h1, _⟩ := loop_ex (σ := Int × Int) (ρ := Int) (body := fun k (s : Int × Int) => match s with
      | (l1_3, l1_4) =>
      if (decide (l1_4 < ((v.Kids.length : Int)))) then
      (ix v.Kids l1_4).bind fun x5_4 =>
      (ref06_Size k x5_4).bind fun x5_6 =>
      some (.inl ((IntKind.i64.wrap (l1_3 + x5_6)), (IntKind.i64.wrap (l1_4 + 1))))
      else
      (some l1_3).map .inr) (fun s => ∃ i : Nat, s.2 = i ∧ i ≤ v.Kids.length) (fun s => (v.Kids.length - s.2).toNat) (fun _ => True) (by
      rintro ⟨a, i⟩ ⟨n, hi, hn⟩
      simp only at hi
      subst hi
      by_cases hd : n < v.Kids.length
      · right
        obtain ⟨z, hz⟩ := ih _ (List.getElem_mem hd)
        exact ⟨(_, ((n + 1 : Nat) : Int)), Ev.ite_t (decide_eq_true (by omega)) (Ev.bindS (fun _ => ix_nat hd) (Ev.bind hz (Ev.of fun _ => by rw [show IntKind.i64.wrap ((n : Int) + 1) = ((n + 1 : Nat) : Int) by rw [wrap64_id (by omega) (by omega)]; simp]))), ⟨n + 1, rfl, by omega⟩, by simp only; omega⟩
      · left
        exact ⟨a, Ev.ite_f (decide_eq_false (by omega)) (Ev.of fun _ => rfl), trivial⟩) (1, 0) ⟨0, rfl, by omega⟩
    refine ⟨r, Ev.succ1 ?_⟩
    simp only [ref06_Size]
    exact Ev.joinK (Ev.loop h1)
theorem small_ex {v : TValue} (hv : VOk v) : ∃ n, Ev (fun k => law06_Small k v) n := by
  obtain ⟨n, h⟩ := size_ex hv
  by_cases h3 : n > 300
  · exact ⟨0, Ev.bind h (Ev.ite_t (decide_eq_true h3) Ev.pure)⟩
  · exact ⟨1, Ev.bind h (Ev.ite_f (decide_eq_false h3) Ev.pure)⟩
/-- A look at the sizes: out, or on. -/
theorem guard_loop {X : Type} {vs : List TValue} (hv : LOk vs) {rest : Nat → Option X} {x : X} (y : X) (hr : Ev rest x) : ∃ z, Ev (fun k => loopM k (fun (l4_6 : Int) =>
    if (decide (l4_6 < ((vs.length : Int)))) then
    (ix vs l4_6).bind fun x13_3 =>
    (law06_Small k x13_3).bind fun x13_5 =>
    if (x13_5 == 0) then
    some (.inr y)
    else
    some (.inl (IntKind.i64.wrap (l4_6 + 1)))
    else
    (rest k).map .inr) 0) z ∧ (z = y ∨ z = x) := by
  have hl := hv.2
  obtain ⟨r, h1, h2⟩ := loop_ex (σ := Int) (ρ := X) (body := fun k (l4_6 : Int) =>
    if (decide (l4_6 < ((vs.length : Int)))) then
    (ix vs l4_6).bind fun x13_3 =>
    (law06_Small k x13_3).bind fun x13_5 =>
    if (x13_5 == 0) then
    some (.inr y)
    else
    some (.inl (IntKind.i64.wrap (l4_6 + 1)))
    else
    (rest k).map .inr) (fun s => ∃ i : Nat, s = i ∧ i ≤ vs.length) (fun s => (vs.length - s).toNat) (fun z => z = y ∨ z = x) (by
    rintro s ⟨n, rfl, hn⟩
    by_cases hd : n < vs.length
    · obtain ⟨z, hz⟩ := small_ex (hv.at hd)
      cases h0 : z == 0 with
      | true => exact .inl ⟨y, Ev.ite_t (decide_eq_true (by omega)) (Ev.bindS (fun _ => ix_nat hd) (Ev.bind hz (Ev.ite_t h0 Ev.pure))), .inl rfl⟩
      | false =>
        right
        exact ⟨((n + 1 : Nat) : Int), Ev.ite_t (decide_eq_true (by omega)) (Ev.bindS (fun _ => ix_nat hd) (Ev.bind hz (Ev.ite_f h0 (Ev.of fun _ => by rw [show IntKind.i64.wrap ((n : Int) + 1) = ((n + 1 : Nat) : Int) by rw [wrap64_id (by omega) (by omega)]; simp])))), ⟨n + 1, rfl, by omega⟩, by omega⟩
    · left
      exact ⟨x, Ev.ite_f (decide_eq_false (by omega)) (Ev.map hr), .inr rfl⟩) 0 ⟨0, rfl, by omega⟩
  exact ⟨r, Ev.loop h1, h2⟩
end Go.Proofs.Ytbckfbohbjhffaa.F
