/- The law SweepSettles holds of the printed functions, where no list is longer than memory. No condition. -/
import Derived.Test.YtbckfbohbjhffaaZPSettle2
set_option linter.unusedVariables false
set_option linter.unusedSimpArgs false
set_option maxRecDepth 100000
set_option maxHeartbeats 4000000
namespace Go.Proofs.Ytbckfbohbjhffaa.F
open Go

theorem PS_succ {l : List Tsweep_Count} {n : Nat} (hn : n < l.length) : PS l (n + 1) ↔ PS l n ∧ l[n].Out.Kind ≠ 4 ∧ ∀ m (h : m < l.length), m < n → D l[n].Out → D l[m].Out → l[n].Out = l[m].Out := by
  constructor
  · rintro ⟨h1, h2⟩
    exact ⟨⟨fun j h hj => h1 j h (by omega), fun j h m hm hj hmj => h2 j h m hm (by omega) hmj⟩, h1 n hn (by omega), fun m h hm => h2 n hn m h (by omega) hm⟩
  · rintro ⟨⟨h1, h2⟩, h3, h4⟩
    refine ⟨fun j h hj => ?_, fun j h m hm hj hmj => ?_⟩
    · by_cases e : j = n
      · subst e; exact h3
      · exact h1 j h (by omega)
    · by_cases e : j = n
      · subst e; exact h4 m hm hmj
      · exact h2 j h m hm (by omega) hmj
theorem settles_holds (l : List Tsweep_Count) (ho : ∀ c ∈ l, OOk c.Out) : Ev (fun k => law47_SweepSettles k l) true := by
  unfold law47_SweepSettles
  refine Ev.bind works47_ev ?_
  by_cases h30 : l.length ≤ 30
  · obtain ⟨b, hb, hbP⟩ := settled_ev (l := l) (by omega) ho
    refine Ev.ite_f (c := (!true || decide ((l.length : Int) > 30))) (by simp; omega) (Ev.joinK (Ev.loop ?_))
    refine loop_go (fun (s : Bool × Int) => ∃ i : Nat, s.2 = (i : Int) ∧ i ≤ l.length ∧ (s.1 = true ↔ PS l i)) (fun s => ((l.length : Int) - s.2).toNat) ?_ (true, 0) ⟨0, rfl, by omega, by simp [PS]⟩
    rintro ⟨w, i⟩ ⟨n, hi, hn, hw⟩
    simp only at hi hw
    subst hi
    by_cases hd : n < l.length
    · have hdb : decide ((n : Int) < (l.length : Int)) = true := decide_eq_true (by omega)
      have hw1 : IntKind.i64.wrap ((n : Int) + 1) = ((n + 1 : Nat) : Int) := by rw [wrap64_id (by omega) (by omega)]; simp
      have hO := ho _ (List.getElem_mem hd)
      have hll := hO.log.2
      have hsl := hO.state.2
      cases hg : decide ((IntKind.i64.wrap (((l[n].Out.Log.length : Int)) + ((l[n].Out.State.length : Int)))) > 50) with
      | true => exact .inl (Ev.ite_t hdb (Ev.joinK (Ev.bindS (fun _ => ix_nat hd) (Ev.ite_t hg Ev.pure))))
      | false =>
        -- the inner comparisons
        have third : ∃ w', (w' = true ↔ PS l (n + 1)) ∧ Ev (fun k => loopM k (fun ((l7_3, l7_8) : Bool × Int) =>
            if (decide (l7_8 < (n : Int))) then
            joinK (fun (j8_3 : Bool) =>
            some (.inl (j8_3, (IntKind.i64.wrap (l7_8 + 1))))) fun j_j8 =>
            (ix l l7_8).bind fun x24_2 =>
            if (((l[n].Out.Kind == 0) || (l[n].Out.Kind == 1)) && ((x24_2.Out.Kind == 0) || (x24_2.Out.Kind == 1))) then
            joinK (fun (g26_5_104 : Bool) =>
            j_j8 g26_5_104) fun j_g26_5 =>
            if l7_3 then
            (ref25_Same k l[n].Out x24_2.Out).bind fun x26_4 =>
            j_g26_5 x26_4
            else
            j_g26_5 false
            else
            j_j8 l7_3
            else
            (some (Sum.inl (l7_3, (IntKind.i64.wrap ((n : Int) + 1)))) : Option ((Bool × Int) ⊕ Bool)).map .inr) ((w && (l[n].Out.Kind != 4)), 0)) (.inl (w', ((n + 1 : Nat) : Int))) := by
          obtain ⟨r, h1, w', h2, rfl⟩ := loop_ex (σ := Bool × Int) (ρ := (Bool × Int) ⊕ Bool) (body := fun k (s : Bool × Int) => match s with
            | (l7_3, l7_8) =>
            if (decide (l7_8 < (n : Int))) then
            joinK (fun (j8_3 : Bool) =>
            some (.inl (j8_3, (IntKind.i64.wrap (l7_8 + 1))))) fun j_j8 =>
            (ix l l7_8).bind fun x24_2 =>
            if (((l[n].Out.Kind == 0) || (l[n].Out.Kind == 1)) && ((x24_2.Out.Kind == 0) || (x24_2.Out.Kind == 1))) then
            joinK (fun (g26_5_104 : Bool) =>
            j_j8 g26_5_104) fun j_g26_5 =>
            if l7_3 then
            (ref25_Same k l[n].Out x24_2.Out).bind fun x26_4 =>
            j_g26_5 x26_4
            else
            j_g26_5 false
            else
            j_j8 l7_3
            else
            (some (Sum.inl (l7_3, (IntKind.i64.wrap ((n : Int) + 1)))) : Option ((Bool × Int) ⊕ Bool)).map .inr)
            (fun s => ∃ m : Nat, s.2 = m ∧ m ≤ n ∧ (s.1 = true ↔ (PS l n ∧ l[n].Out.Kind ≠ 4 ∧ ∀ j (h : j < l.length), j < m → D l[n].Out → D l[j].Out → l[n].Out = l[j].Out)))
            (fun s => (n - s.2).toNat) (fun r => ∃ w', (w' = true ↔ PS l (n + 1)) ∧ r = .inl (w', ((n + 1 : Nat) : Int))) (by
            rintro ⟨w1, i⟩ ⟨m, hi, hm, hw1'⟩
            simp only at hi hw1'
            subst hi
            by_cases hmn : m < n
            · right
              have hml : m < l.length := by omega
              have hdm : decide ((m : Int) < (n : Int)) = true := decide_eq_true (by omega)
              have hwm : IntKind.i64.wrap ((m : Int) + 1) = ((m + 1 : Nat) : Int) := by rw [wrap64_id (by omega) (by omega)]; simp
              have hdec : ((((l[n].Out.Kind == 0) || (l[n].Out.Kind == 1)) && ((l[m].Out.Kind == 0) || (l[m].Out.Kind == 1))) = true) ↔ (D l[n].Out ∧ D l[m].Out) := by simp [D]
              cases hc : (((l[n].Out.Kind == 0) || (l[n].Out.Kind == 1)) && ((l[m].Out.Kind == 0) || (l[m].Out.Kind == 1))) with
              | true =>
                obtain ⟨dn, dm⟩ := hdec.1 hc
                cases w1 with
                | false =>
                  refine ⟨(false, ((m + 1 : Nat) : Int)), Ev.ite_t hdm (Ev.joinK (Ev.bindS (fun _ => ix_nat hml) (Ev.ite_t hc (Ev.joinK (Ev.ite_f rfl (Ev.of fun _ => by simp only [hwm])))))), ⟨m + 1, rfl, by omega, ?_⟩, by simp only; omega⟩
                  simp only [Bool.false_eq_true, false_iff] at hw1' ⊢
                  rintro ⟨a, b', c⟩
                  exact hw1' ⟨a, b', fun j h hj => c j h (by omega)⟩
                | true =>
                  obtain ⟨b2, _, e2, e3⟩ := out_same (o := l[n].Out) (u := l[m].Out) hO (ho _ (List.getElem_mem hml))
                  refine ⟨(b2, ((m + 1 : Nat) : Int)), Ev.ite_t hdm (Ev.joinK (Ev.bindS (fun _ => ix_nat hml) (Ev.ite_t hc (Ev.joinK (Ev.ite_t rfl (Ev.bind e2 (Ev.of fun _ => by simp only [hwm]))))))), ⟨m + 1, rfl, by omega, ?_⟩, by simp only; omega⟩
                  simp only at hw1' ⊢
                  obtain ⟨a, b', c⟩ := hw1'.1 trivial
                  rw [e3]
                  constructor
                  · intro he
                    refine ⟨a, b', fun j h hj d1 d2 => ?_⟩
                    by_cases e : j = m
                    · subst e; exact he
                    · exact c j h (by omega) d1 d2
                  · rintro ⟨_, _, c'⟩
                    exact c' m hml (by omega) dn dm
              | false =>
                have hnd : ¬ (D l[n].Out ∧ D l[m].Out) := fun h => by rw [hdec.2 h] at hc; cases hc
                refine ⟨(w1, ((m + 1 : Nat) : Int)), Ev.ite_t hdm (Ev.joinK (Ev.bindS (fun _ => ix_nat hml) (Ev.ite_f hc (Ev.of fun _ => by simp only [hwm])))), ⟨m + 1, rfl, by omega, ?_⟩, by simp only; omega⟩
                simp only
                rw [hw1']
                constructor
                · rintro ⟨a, b', c⟩
                  refine ⟨a, b', fun j h hj d1 d2 => ?_⟩
                  by_cases e : j = m
                  · subst e; exact (hnd ⟨d1, d2⟩).elim
                  · exact c j h (by omega) d1 d2
                · rintro ⟨a, b', c⟩
                  exact ⟨a, b', fun j h hj => c j h (by omega)⟩
            · left
              have : m = n := by omega
              subst this
              refine ⟨.inl (w1, ((m + 1 : Nat) : Int)), Ev.ite_f (decide_eq_false (by omega)) (Ev.of fun _ => by rw [hw1]; rfl), w1, ?_, rfl⟩
              rw [hw1', PS_succ hd]) ((w && (l[n].Out.Kind != 4)), 0) ⟨0, rfl, by omega, by
                simp only [Bool.and_eq_true, bne_iff_ne, ne_eq, hw]
                constructor
                · rintro ⟨a, b'⟩
                  exact ⟨a, b', fun j _ h => by omega⟩
                · rintro ⟨a, b', _⟩
                  exact ⟨a, b'⟩⟩
          exact ⟨w', h2, Ev.loop h1⟩
        obtain ⟨w', hw', h3⟩ := third
        obtain ⟨z2, g1, g2⟩ := guard_loop (X := (Bool × Int) ⊕ Bool) hO.state (.inr true) h3
        obtain ⟨z1, f1, f2⟩ := guard_loop (X := (Bool × Int) ⊕ Bool) hO.log (.inr true) g1
        have hz : z1 = .inr true ∨ z1 = .inl (w', ((n + 1 : Nat) : Int)) := by
          rcases f2 with h | h
          · exact .inl h
          · rcases g2 with h' | h'
            · exact .inl (h.trans h')
            · exact .inr (h.trans h')
        rcases hz with hz | hz
        · refine .inl (Ev.ite_t hdb (Ev.joinK (Ev.bindS (fun _ => ix_nat hd) (Ev.ite_f hg (Ev.joinK ?_)))))
          rw [hz] at f1
          exact f1
        · refine .inr ⟨(w', ((n + 1 : Nat) : Int)), Ev.ite_t hdb (Ev.joinK (Ev.bindS (fun _ => ix_nat hd) (Ev.ite_f hg (Ev.joinK ?_)))), ⟨n + 1, rfl, by omega, hw'⟩, by simp only; omega⟩
          rw [hz] at f1
          exact f1
    · left
      have hnl : n = l.length := by omega
      subst hnl
      refine Ev.ite_f (decide_eq_false (by omega)) (Ev.map (Ev.bind hb (Ev.of fun _ => ?_)))
      have : b = w := by
        cases b <;> cases w <;> simp_all
      rw [this]; simp
  · refine Ev.ite_t (c := (!true || decide ((l.length : Int) > 30))) (by simp; omega) (Ev.bind works47_ev ?_)
    exact Ev.pure
end Go.Proofs.Ytbckfbohbjhffaa.F
