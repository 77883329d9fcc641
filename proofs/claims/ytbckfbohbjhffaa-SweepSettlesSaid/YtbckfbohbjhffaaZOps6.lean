/- append. No condition. -/
import Derived.Test.YtbckfbohbjhffaaZOps5
set_option linter.unusedVariables false
set_option linter.unusedSimpArgs false
namespace Go.Proofs.Ytbckfbohbjhffaa.AE
open Go

theorem WC.congr {g : Gh} {H H' : Heap} {w : World} (h : WC g H w) (e : ∀ x, find H' x = find H x) : WC g H' w := by
  refine ⟨fun b => ?_, h.pin, fun b ob hb => h.objs b ob (by rw [← e]; exact hb), fun b b' ob ob' c h1 h2 => h.inj b b' ob ob' c (by rw [← e]; exact h1) (by rw [← e]; exact h2)⟩
  rw [h.tip]; simp only [tipOf, e]
theorem Live.congr {g : Gh} {H H' : Heap} (e : ∀ x, find H' x = find H x) {c : Nat} (h : Live g H' c) : Live g H c := by
  obtain ⟨b, ob, h1, h2⟩ := h
  exact ⟨b, ob, by rw [← e]; exact h1, h2⟩
theorem Used.congr {g : Gh} {H H' : Heap} (e : ∀ x, find H' x = find H x) {c : Nat} (h : Used g H' c) : Used g H c := by
  obtain ⟨b, ob, h1, h2⟩ := h
  exact ⟨b, ob, by rw [← e]; exact h1, h2⟩
theorem Ctx.congr {w0 w : World} {g0 g : Gh} {H0 H H' : Heap} (h : Ctx w0 g0 H0 g H w) (e : ∀ x, find H' x = find H x) : Ctx w0 g0 H0 g H' w :=
  ⟨h.size, h.keep, h.gam, fun c hl => h.own c (hl.congr e), fun c hl => h.usd c (hl.congr e), h.os, h.out, h.tape⟩
theorem find_ins_same {H : Heap} {b : Oid} {ob : Ob} (h : find H b = some ob) (x : Oid) : find (ins b ob H) x = find H x := by
  rw [find_ins]; split
  · rename_i e; subst e; exact h.symm
  · rfl

theorem Ctx.moved {w0 w : World} {g0 g : Gh} {H0 H : Heap} (h : Ctx w0 g0 H0 g H w) (b : Oid) (s n : Nat) (p : Option (Nat × Nat)) (hp : ∀ c cap, p = some (c, cap) → Live g0 H0 c ∨ w0.heap.size ≤ c) :
    Ctx w0 g0 H0 (g.moved b p (ins b (.buf s n) H)) (ins b (.buf s n) H) w := by
  refine ⟨h.size, h.keep, h.gam, fun c hl => ?_, fun c hl => ?_, h.os, h.out, h.tape⟩
  obtain ⟨x, ob, h1, h2⟩ := hl
  rw [find_ins] at h1
  split at h1
  · rename_i e; subst e; cases h1
    simp only [ownOf, Gh.moved, if_true] at h2
    cases p with
    | none => cases h2
    | some q => obtain ⟨c2, cap⟩ := q; simp at h2; subst h2; exact hp c2 cap rfl
  · rename_i hne
    refine h.own c ⟨x, ob, h1, ?_⟩
    cases ob with
    | cells wr cs2 => cases wr <;> exact h2
    | buf s2 n2 => simp only [ownOf, Gh.moved] at h2 ⊢; rw [if_neg (Ne.symm hne)] at h2; exact h2
    | map es => exact h2
  · obtain ⟨x, ob, h1, h2⟩ := hl
    rw [find_ins] at h1
    split at h1
    · rename_i e; subst e; cases h1
      simp only [blockOf, Gh.moved, if_true] at h2
      cases p with
      | none => cases h2
      | some q => obtain ⟨c2, cap⟩ := q; simp at h2; subst h2; exact (hp c2 cap rfl).imp Live.used id
    · rename_i hne
      refine h.usd c ⟨x, ob, h1, ?_⟩
      cases ob with
      | cells wr cs2 => exact h2
      | buf s2 n2 => simp only [blockOf, Gh.moved] at h2 ⊢; rw [if_neg (Ne.symm hne)] at h2; exact h2
      | map es => exact h2

/-! ### what is appended -/
structure Src (P : Program) (g : Gh) (w : World) (x : Value) (sz : Nat) (ys : List AV) : Prop where
  ex : ∃ us : List Value, VL g (ys.flatMap cellsOf) us ∧ (Builtin.firstCells sz ys.length x).run P w = .ok us.toArray w
  len : (Builtin.lenOf x).run P w = .ok ys.length w
  still : stillL (ys.flatMap cellsOf) = true
  each : ∀ e ∈ ys, (cellsOf e).length = sz

theorem flat_length {s : Nat} : ∀ {es : List AV}, (∀ e ∈ es, (cellsOf e).length = s) → (es.flatMap cellsOf).length = es.length * s
  | [], _ => by simp
  | e :: r, h => by
    rw [List.flatMap_cons, List.length_append, h e (by simp), flat_length fun x hx => h x (by simp [hx]), List.length_cons, Nat.add_mul]
    omega

theorem stillL_of {cs : List AV} (h : ∀ (i : Nat) a, cs[i]? = some a → refs a = [] ∧ toks a = [] ∧ cellOk a = true) : stillL cs = true := by
  have hall : ∀ a ∈ cs, refs a = [] ∧ toks a = [] ∧ cellOk a = true := fun a ha => by
    obtain ⟨i, hi⟩ := List.getElem?_of_mem ha
    exact h i a hi
  have hoff : OffL (fun _ => True) cs := OffL.of_all fun a ha => Off.of_nil (hall a ha).1 (hall a ha).2.1
  simp only [stillL, Bool.and_eq_true, List.isEmpty_iff, List.all_eq_true]
  exact ⟨⟨List.eq_nil_iff_forall_not_mem.2 fun b hb => hoff.1 b hb trivial, List.eq_nil_iff_forall_not_mem.2 fun b hb => hoff.2 b hb trivial⟩, fun a ha => (hall a ha).2.2⟩

/-- The cells of a slice, read. -/
theorem run_cells {P : Program} {g : Gh} {H : Heap} {w : World} (hw : WC g H w) {c off : Nat} {cs : List AV} (hp : Pinned g c off cs) {n : Nat} (hn : cs.length = n) :
    ∃ us : List Value, VL g cs us ∧ (loadCells ⟨c, off, none⟩ n).run P w = .ok us.toArray w := by
  subst hn
  have hall : ∀ (cs : List AV) (off : Nat), Pinned g c off cs → ∃ us : List Value, VL g cs us ∧ ∀ (j : Nat) v, us[j]? = some v → w.cell? ⟨c, off + j, none⟩ = some v := by
    intro cs
    induction cs with
    | nil => intro off _; exact ⟨[], rfl, by simp⟩
    | cons a r ih =>
      intro off hp
      obtain ⟨v, h1, h2, _⟩ := hw.pin c off a (by have := hp 0 a (by simp); simpa using this)
      obtain ⟨us, k1, k2⟩ := ih (off + 1) fun i x hx => by
        have := hp (i + 1) x (by simpa using hx)
        rw [Nat.add_assoc, Nat.add_comm 1 i]; exact this
      refine ⟨v :: us, ⟨v, us, rfl, h2, k1⟩, fun j u hu => ?_⟩
      cases j with
      | zero => simp at hu; subst hu; simpa using h1
      | succ j => simp at hu; have := k2 j u hu; rw [Nat.add_assoc, Nat.add_comm 1 j] at this; exact this
  obtain ⟨us, k1, k2⟩ := hall cs off hp
  refine ⟨us, k1, ?_⟩
  rw [← k1.length]
  exact run_loadCells_list w ⟨c, off, none⟩ us fun j v hv => by rw [add_eq]; exact k2 j v hv
theorem run_cells_none {P : Program} {size : Nat} (p : Option Addr) (cap : Nat) (w : World) : (Builtin.firstCells size 0 (.slice p 0 cap)).run P w = .ok #[] w := by
  cases p with
  | none => rfl
  | some a =>
    simp only [Builtin.firstCells, Nat.zero_mul]
    rfl
theorem pinned_still {g : Gh} {H : Heap} {w : World} (hw : WC g H w) {c off : Nat} {cs : List AV} (hp : Pinned g c off cs) : stillL cs = true :=
  stillL_of fun i a ha => by
    obtain ⟨v, _, _, h⟩ := hw.pin c (off + i) a (hp i a ha)
    exact h

theorem src_of {P : Program} {g : Gh} {H : Heap} {w : World} (hw : WC g H w) {x : AV} {ys : List AV} {sz : Nat} (h : srcOf x = some ys) (hok : srcOk sz x = true) {v : Value} (hv : V g x v) : Src P g w v sz ys := by
  unfold srcOf at h
  split at h
  · cases h
    simp only [srcOk, beq_iff_eq] at hok; subst hok
    simp only [V] at hv
    rcases hv with ⟨hb, rfl⟩ | ⟨c, off, cap, rfl, k1, k2, k3, k4⟩
    · obtain ⟨p, cap, rfl⟩ := hb.slice
      exact ⟨⟨[], rfl, run_cells_none p cap w⟩, rfl, rfl, by simp⟩
    · obtain ⟨us, h1, h2⟩ := run_cells (P := P) hw k3 (flat_length k2)
      exact ⟨⟨us, h1, h2⟩, rfl, pinned_still hw k3, k2⟩
  · cases h
    simp only [V] at hv; subst hv
    exact ⟨⟨[], rfl, rfl⟩, rfl, rfl, by simp⟩
  · rename_i s
    cases h
    simp only [srcOk, beq_iff_eq] at hok; subst hok
    simp only [V] at hv; subst hv
    have hfl : (ofBytes s).flatMap cellsOf = ofBytes s := by
      unfold ofBytes
      induction s with
      | nil => rfl
      | cons b r ih => simp only [List.map_cons, List.flatMap_cons, ih, cellsOf]; rfl
    have hlen : (ofBytes s).length = s.length := by simp [ofBytes]
    refine ⟨⟨s.map fun b => .int .u8 b.toNat, ?_, ?_⟩, ?_, ?_, ?_⟩
    · rw [hfl]
      unfold ofBytes
      refine VL.of_get (by simp) fun i a v ha hv => ?_
      rw [List.getElem?_map] at ha hv
      cases hs : s[i]? with
      | none => rw [hs] at ha; cases ha
      | some b => rw [hs] at ha hv; cases ha; cases hv; rfl
    · rw [hlen]
      unfold Builtin.firstCells
      rw [run_pure2]
      congr 1
      rw [extract_mk]
      apply Array.ext'
      simp
    · rw [hlen]
      unfold Builtin.lenOf
      rw [run_pure2, size_mk]
    · rw [hfl]
      refine stillL_of fun i a ha => ?_
      unfold ofBytes at ha
      rw [List.getElem?_map] at ha
      cases hs : s[i]? with
      | none => rw [hs] at ha; cases ha
      | some b => rw [hs] at ha; cases ha; exact ⟨rfl, rfl, rfl⟩
    · intro e he
      unfold ofBytes at he
      obtain ⟨b, _, rfl⟩ := List.mem_map.1 he
      rfl
  · cases h

theorem growBy_le (need : Nat) : ∀ (rounds c : Nat), c < need → Builtin.growBy need rounds c ≤ 2 * need + 200
  | 0, c, h => by simp only [Builtin.growBy]; omega
  | r + 1, c, h => by
    simp only [Builtin.growBy]
    rw [if_neg (by omega)]
    by_cases hc : c + (c + 768) / 4 < need
    · exact growBy_le need r _ hc
    · have : ∀ r, Builtin.growBy need r (c + (c + 768) / 4) = c + (c + 768) / 4 := by
        intro r
        cases r with
        | zero => rfl
        | succ r => simp only [Builtin.growBy]; rw [if_pos (by omega)]
      rw [this]; omega
theorem nextcap_le {need cap : Nat} (h : cap < need) : Builtin.nextslicecap need cap ≤ 2 * need + 200 := by
  unfold Builtin.nextslicecap
  split
  · omega
  · split
    · omega
    · exact growBy_le need 4 cap h

/-- An append that makes a new row. -/
theorem run_grow {P : Program} {g : Gh} {w : World} {t u e : TypeId} {te : TI} (h1 : P.underlying t = some (.slice e)) (hte : TyFacts P e te) (hze : te.zero.isEmpty = false) (hzl : te.zero.length = te.size)
    {du : TypeDesc} (h2 : P.underlying u = some du) (hdu : (∃ q, du = .slice q) ∨ du = .string) {base : Option Addr} {len cap : Nat} {x : Value} {m : Nat} {old news : List Value} {args : List Value} {ats : List TypeId}
    (hargs : args = .slice base len cap :: x :: args.drop 2) (hats : ats = t :: u :: ats.drop 2)
    (hold : (Builtin.firstCells te.size len (.slice base len cap)).run P w.drew = .ok old.toArray w.drew) (hlen : (Builtin.lenOf x).run P w = .ok m w)
    (hnew : (Builtin.firstCells te.size m x).run P w.drew = .ok news.toArray w.drew) (hgrow : cap < len + m) (hroom : roomy te.bytes (len + m) = true) (ty : TypeId) :
    ∃ newCap rest, len + m ≤ newCap ∧ rest.size = (newCap - (len + m)) * te.size ∧ (Builtin.append_ ats.toArray ty args.toArray).run P w = .ok (.slice (some ⟨w.heap.size, 0, none⟩) (len + m) newCap) (w.drew.alloc (.cells (old.toArray ++ news.toArray ++ rest) e)) := by
  obtain ⟨i, z, k1, k2, k3, k4⟩ := zero_some hte hze
  obtain ⟨i', d', k1', _, _, _, k6, _⟩ := hte.ex
  rw [k1] at k1'; cases k1'
  simp only [roomy, decide_eq_true_eq] at hroom
  obtain ⟨r1, r2⟩ := hroom
  have hbig : len + m ≤ 140737488355328 := by
    have : (2 * (len + m) + 1024) * 1 ≤ (2 * (len + m) + 1024) * te.bytes := Nat.mul_le_mul_left _ r1
    omega
  have hnc : Builtin.nextslicecap (len + m) cap * i.bytes ≤ 140737488355328 := by
    rw [← k6]
    refine Nat.le_trans (Nat.mul_le_mul_right _ (nextcap_le hgrow)) (Nat.le_trans (Nat.mul_le_mul_right _ ?_) r2)
    omega
  let newCap := (Question.appendCap (len + m) cap e).cut (w.tape w.drawn (Question.appendCap (len + m) cap e))
  have hcap : len + m ≤ newCap := by simp only [newCap, Question.cut]; omega
  have hz : z.cells.size = te.size ∨ True := .inr trivial
  refine ⟨newCap, Builtin.zeroCells z.cells (newCap - (len + m)), hcap, ?_, ?_⟩
  · have : z.cells.size = te.size := by rw [← hzl, k4]; simp
    simp [Builtin.zeroCells, this]
  · unfold Builtin.append_
    have a0 : args.toArray[0]? = some (.slice base len cap) := by rw [hargs]; rfl
    have a1 : args.toArray[1]? = some x := by rw [hargs]; rfl
    have t0 : ats.toArray[0]? = some t := by rw [hats]; rfl
    have t1 : ats.toArray[1]? = some u := by rw [hats]; rfl
    have hmax : ¬ (((len + m : Nat) : Int) > IntKind.i64.max ∧ (False ∨ i.bytes = 0)) := by
      rintro ⟨h, _⟩
      simp only [IntKind.max, IntKind.signed, IntKind.bits] at h
      omega
    have hmax' : ((len + m : Nat) : Int) > IntKind.i64.max → ¬ i.bytes = 0 := fun h h0 => by rw [k6, h0] at r1; omega
    have hbig2 : ¬ Builtin.nextslicecap (len + m) cap * i.bytes > 2 ^ 48 := by omega
    have hq : (choose (Question.appendCap (len + m) cap e)).run P w = .ok newCap w.drew := rfl
    have hroom2 : ∀ n (w : World), (askRoom n).run P w = .ok () w := by
      intro n w; unfold askRoom; split <;> rfl
    rcases hdu with ⟨q, rfl⟩ | rfl
    · simp only [a0, a1, t0, t1, run_bind2, run_under h1, hte.size, run_under h2, Result.andThen_ok, run_pure2, hlen, Bool.false_eq_true, if_false, if_neg (Nat.not_le.2 hgrow), run_typeInfo k1, Bool.not_false, if_true]
      rw [if_neg hmax]
      simp only [run_bind2, run_typeInfo k1, Result.andThen_ok]
      rw [if_neg hbig2]
      simp only [run_bind2, hq, run_typeInfo k1, Result.andThen_ok, hroom2, hold, hnew, run_zero k1 k2, run_pure2]
      rfl
    · simp only [a0, a1, t0, t1, run_bind2, run_under h1, hte.size, run_under h2, Result.andThen_ok, run_pure2, hlen, Bool.false_eq_true, if_false, if_neg (Nat.not_le.2 hgrow), run_typeInfo k1, Bool.not_false, if_true]
      rw [if_neg hmax]
      simp only [run_bind2, run_typeInfo k1, Result.andThen_ok]
      rw [if_neg hbig2]
      simp only [run_bind2, hq, run_typeInfo k1, Result.andThen_ok, hroom2, hold, hnew, run_zero k1 k2, run_pure2]
      rfl

/-- An append within the capacity. -/
theorem run_room {P : Program} {w w' : World} {t u e : TypeId} {te : TI} (h1 : P.underlying t = some (.slice e)) (hte : TyFacts P e te)
    {du : TypeDesc} (h2 : P.underlying u = some du) (hdu : (∃ q, du = .slice q) ∨ du = .string) {base : Option Addr} {len cap : Nat} {x : Value} {m : Nat} {news : List Value} {args : List Value} {ats : List TypeId}
    (hargs : args = .slice base len cap :: x :: args.drop 2) (hats : ats = t :: u :: ats.drop 2) (hlen : (Builtin.lenOf x).run P w = .ok m w)
    (hnew : (Builtin.firstCells te.size m x).run P w = .ok news.toArray w) (hfit : len + m ≤ cap)
    (hst : ∀ a, base = some a → (storeCells (a.add (len * te.size)) news).run P w = .ok () w') (hst0 : base = none → w' = w) (ty : TypeId) :
    (Builtin.append_ ats.toArray ty args.toArray).run P w = .ok (.slice base (len + m) cap) w' := by
  unfold Builtin.append_
  have a0 : args.toArray[0]? = some (.slice base len cap) := by rw [hargs]; rfl
  have a1 : args.toArray[1]? = some x := by rw [hargs]; rfl
  have t0 : ats.toArray[0]? = some t := by rw [hats]; rfl
  have t1 : ats.toArray[1]? = some u := by rw [hats]; rfl
  rcases hdu with ⟨q, rfl⟩ | rfl
  · simp only [a0, a1, t0, t1, run_bind2, run_under h1, hte.size, run_under h2, Result.andThen_ok, run_pure2, hlen, Bool.false_eq_true, if_false, if_pos hfit, Bool.not_false, if_true, hnew]
    cases base with
    | none => rw [hst0 rfl]; rfl
    | some a => simp only [run_bind2, hst a rfl, Result.andThen_ok, run_pure2]
  · simp only [a0, a1, t0, t1, run_bind2, run_under h1, hte.size, run_under h2, Result.andThen_ok, run_pure2, hlen, Bool.false_eq_true, if_false, if_pos hfit, Bool.not_false, if_true, hnew]
    cases base with
    | none => rw [hst0 rfl]; rfl
    | some a => simp only [run_bind2, hst a rfl, Result.andThen_ok, run_pure2]

theorem Drew.step {w w' : World} (h : Drew w w') (g : Gh) (H : Heap) (hw : WC g H w) : WC g H w' ∧ Ctx w g H g H w' := ⟨hw.drew h, Ctx.drew h g H⟩

/-! ### a heap of which less is known -/
/-- H' holds, of H, some objects, with less known of their cells. -/
structure Less (H H' : Heap) : Prop where
  ex : ∀ b ob', find H' b = some ob' → ∃ ob p, find H b = some ob ∧ ob' = ob.strip p
theorem strip_block (g : Gh) (b : Oid) (ob : Ob) (p : Oid → Bool) : blockOf g b (ob.strip p) = blockOf g b ob ∧ ownOf g b (ob.strip p) = ownOf g b ob := by
  cases ob with
  | cells wr cs => cases wr <;> exact ⟨rfl, rfl⟩
  | buf s n => exact ⟨rfl, rfl⟩
  | map es => exact ⟨rfl, rfl⟩
theorem WC.less {g : Gh} {H H' : Heap} {w : World} (h : WC g H w) (hl : Less H H') :
    WC (g.heap H') H' w ∧ Keep (fun _ => False) g (g.heap H') ∧ Ctx w g H (g.heap H') H' w := by
  have htip : ∀ b s n, tipOf H' b = some (s, n) → tipOf H b = some (s, n) := by
    intro b s n ht
    unfold tipOf at ht ⊢
    split at ht
    · rename_i s' n' hf
      cases ht
      obtain ⟨ob, p, h1, h2⟩ := hl.ex b _ hf
      cases ob with
      | buf s2 n2 => cases h2; rw [h1]
      | cells wr cs => cases h2
      | map es => cases h2
    · cases ht
  have hk : Keep (fun _ => False) g (g.heap H') := by
    refine ⟨fun _ _ _ h => h, fun _ _ _ h => h, fun b _ => ⟨fun s n hn => ?_⟩⟩
    exact ⟨s, n, by rw [h.tip]; exact htip b s n hn, Nat.le_refl _, fun _ => rfl⟩
  refine ⟨⟨fun _ => rfl, fun c o a ha => ?_, fun b ob' hb => ?_, fun b b' o1 o2 c h1 h2 h3 h4 => ?_⟩, hk, ⟨Nat.le_refl _, fun _ _ _ => ⟨rfl, fun _ => rfl⟩, fun _ _ _ h => h, fun c hl' => ?_, fun c hl' => ?_, rfl, rfl, rfl⟩⟩
  · obtain ⟨v, h1, h2, h3, h4, h5⟩ := h.pin c o a ha
    exact ⟨v, h1, hk.V (Off.none _) h2, h3, h4, h5⟩
  · obtain ⟨ob, p, h1, rfl⟩ := hl.ex b ob' hb
    have h0 := h.objs b ob h1
    cases ob with
    | cells wr cs =>
      obtain ⟨c, vs, e, k1, k2, k3, k4⟩ := h0
      exact ⟨c, vs, e, k1, k2, VL.strip p cs _ (hk.VL (OffL.none _) k3), k4⟩
    | buf s n => exact h0
    | map es => exact h0.elim
  · obtain ⟨q1, p1, k1, rfl⟩ := hl.ex b o1 h1
    obtain ⟨q2, p2, k2, rfl⟩ := hl.ex b' o2 h2
    rw [(strip_block _ _ _ _).1] at h3 h4
    exact h.inj b b' q1 q2 c k1 k2 (by cases q1 <;> exact h3) (by cases q2 <;> exact h4)
  · obtain ⟨b, ob, h1, h2⟩ := hl'
    obtain ⟨q, p, k1, rfl⟩ := hl.ex b ob h1
    rw [(strip_block _ _ _ _).2] at h2
    exact .inl ⟨b, q, k1, by
      cases q with
      | cells wr cs => cases wr <;> exact h2
      | buf s n => exact h2
      | map es => exact h2⟩
  · obtain ⟨b, ob, h1, h2⟩ := hl'
    obtain ⟨q, p, k1, rfl⟩ := hl.ex b ob h1
    rw [(strip_block _ _ _ _).1] at h2
    exact .inl ⟨b, q, k1, by cases q <;> exact h2⟩

theorem strip_never : (∀ a : AV, strip (fun _ => false) a = a) ∧ ∀ as : List AV, stripL (fun _ => false) as = as := by
  refine ⟨fun a => ?_, fun as => ?_⟩
  · exact strip_none a
  · exact stripL_none as
where
  strip_none : ∀ a : AV, strip (fun _ => false) a = a
    | .ptr b off => by simp [strip]
    | .mref b s o l c => by simp [strip]
    | .mapr b => by simp [strip]
    | .slice tok s es => by cases tok <;> simp [strip]
    | .fn f a b => by simp only [strip, stripL_none a, stripL_none b]
    | .iface t v => by simp only [strip, strip_none v]
    | .agg cs => by simp only [strip, stripL_none cs]
    | .tuple vs => by simp only [strip, stripL_none vs]
    | .undef => rfl
    | .bool _ => rfl
    | .int _ _ => rfl
    | .str _ => rfl
    | .nilp => rfl
    | .pin _ => rfl
    | .nils => rfl
    | .nilm => rfl
    | .nilf => rfl
    | .nili => rfl
  stripL_none : ∀ as : List AV, stripL (fun _ => false) as = as
    | [] => rfl
    | a :: as => by simp only [stripL, strip_none a, stripL_none as]
theorem obStrip_never (ob : Ob) : ob.strip (fun _ => false) = ob := by
  cases ob with
  | cells wr cs => simp only [Ob.strip, strip_never.2]
  | buf s n => rfl
  | map es => simp [Ob.strip, strip_never.1]

/-- The new row that an append made: what it is told as. -/
theorem grown {g : Gh} {H : Heap} {w : World} {F : Oid → Prop} (hw : WC g H w) (b : Oid) (sz : Nat) (cs : List AV) (n newCap : Nat) (vs : Array Value) (e : TypeId) (hl : cs.length = n * sz) (hst : stillL cs = true)
    (hv : VL g cs (vs.toList.take cs.length)) (hsz : newCap * sz ≤ vs.size) (hcap : n ≤ newCap) (es : List AV) (hes : es.flatMap cellsOf = cs) (hel : es.length = n) (hee : ∀ x ∈ es, (cellsOf x).length = sz)
    (hob : ∀ ob, find H b = some ob → ∃ s' n', ob = .buf s' n' ∧ n' < n) (hF : F b ∨ (∃ s' n', find H b = some (.buf s' n') ∧ n' < n)) (hcl : ∀ x ob, x ≠ b → find H x = some ob → ∀ y ∈ ob.refs ++ ob.toks, ¬ F y) :
    ∃ g', g'.μ = g.μ ∧ Step g H w F (.slice (.buf b) sz es) (ins b (.buf sz n) H) (.slice (some ⟨w.heap.size, 0, none⟩) n newCap) g' (w.drew.alloc (.cells vs e)) := by
  have hw1 := hw.drew (Drew.drew w)
  obtain ⟨p1, p2⟩ := hw1.newPin cs vs e hv hst
  have hk1 : Keep F g (g.pinAt w.drew.heap.size cs) := Keep.pinAt hw1 cs F
  have hnl : ¬ Used (g.pinAt w.drew.heap.size cs) H w.heap.size := by
    rintro ⟨x, ob, h1, h2⟩
    have : w.heap.size < w.heap.size := hw.used_lt ⟨x, ob, h1, by cases ob <;> exact h2⟩
    omega
  obtain ⟨q1, q2⟩ := p1.moved (F := F) b sz n (some (w.heap.size, newCap)) (fun ob h => by obtain ⟨s', n', h1, _⟩ := hob ob h; exact ⟨s', n', h1⟩)
    (by
      intro c cap hc
      cases hc
      refine ⟨hnl, vs, e, heap_alloc_new _ _, hsz, hcap, fun o ho => ?_⟩
      simp only [Gh.pinAt]
      rw [if_pos (show w.heap.size = w.drew.heap.size from rfl)]
      funext x
      refine propext ⟨fun hx => ?_, fun h => h.elim⟩
      rw [List.getElem?_eq_none (by omega)] at hx
      cases hx)
    (by
      intro hk
      refine ⟨hk.gam, fun x hx c hc => ?_, fun x hx => ?_⟩
      · exact hc
      · by_cases hxb : x = b
        · subst hxb
          rcases hF with hF | ⟨s', n', h1, h2⟩
          · exact (hx hF).elim
          · refine ⟨fun s n2 hn2 => ?_⟩
            simp only [Gh.moved, tipOf_ins, if_true] at hn2
            cases hn2
            exact ⟨s', n', by rw [p1.tip]; simp [tipOf, h1], by omega, fun e => by omega⟩
        · exact hk.tok x hxb)
    hcl
  refine ⟨(g.pinAt w.drew.heap.size cs).moved b (some (w.heap.size, newCap)) (ins b (.buf sz n) H), rfl, ⟨?_, q2, hk1.trans q1, ?_⟩⟩
  · simp only [V]
    refine .inr ⟨w.heap.size, 0, newCap, by rw [hel], by rw [hel]; exact hcap, hee, ?_, ?_⟩
    · rw [hes]
      intro i a ha
      show (if w.drew.heap.size = w.drew.heap.size then fun a => cs[0 + i]? = some a else g.Γ w.heap.size (0 + i)) a
      rw [if_pos rfl, Nat.zero_add]; exact ha
    · intro s n2 hn2
      simp only [Gh.moved, tipOf_ins, if_true] at hn2
      cases hn2
      rw [hel]
      exact ⟨Nat.le_refl _, fun _ => .inl ⟨rfl, by simp [Gh.moved]⟩⟩
  · refine Ctx.moved (((Ctx.drew (Drew.drew w) g H).trans p2)) b sz n _ ?_
    intro c cap hc
    cases hc
    exact .inr (Nat.le_refl _)

theorem loc_bound : ∀ L : List Oid, ∃ M, ∀ n, Oid.loc n ∈ L → n < M
  | [] => ⟨0, fun n h => by cases h⟩
  | o :: L => by
    obtain ⟨M, hM⟩ := loc_bound L
    cases o with
    | loc k =>
      refine ⟨M + k + 1, fun n h => ?_⟩
      rcases List.mem_cons.1 h with h | h
      · cases h; omega
      · have := hM n h; omega
    | ext i => exact ⟨M, fun n h => by rcases List.mem_cons.1 h with h | h; cases h; exact hM n h⟩
    | cl o j => exact ⟨M, fun n h => by rcases List.mem_cons.1 h with h | h; cases h; exact hM n h⟩
/-- A name that nobody has. -/
theorem new_name (H : Heap) : ∃ b, find H b = none ∧ ∀ x ob, find H x = some ob → b ∉ ob.refs ++ ob.toks := by
  obtain ⟨M, hM⟩ := loc_bound (H.flatMap fun x => x.1 :: (x.2.refs ++ x.2.toks))
  refine ⟨.loc M, ?_, fun x ob h hb => ?_⟩
  · cases hf : find H (.loc M) with
    | none => rfl
    | some ob =>
      have := hM M (List.mem_flatMap.2 ⟨_, find_mem hf, List.mem_cons_self⟩)
      omega
  · have := hM M (List.mem_flatMap.2 ⟨_, find_mem h, List.mem_cons_of_mem _ hb⟩)
    omega
theorem tok_none {g : Gh} {b : Oid} {s : Nat} {es : List AV} {v : Value} (h : V g (.slice (.buf b) s es) v) : V g (.slice .none s es) v := by
  simp only [V] at h ⊢
  rcases h with h | ⟨c, o, cap, h1, h2, h3, h4, h5⟩
  · exact .inl ⟨h.1.none, h.2⟩
  · exact .inr ⟨c, o, cap, h1, h2, h3, h4, trivial⟩
/-- The new row that an append made, its spare forgotten. -/
theorem grownN {g : Gh} {H : Heap} {w : World} (hw : WC g H w) (sz : Nat) (cs : List AV) (n newCap : Nat) (vs : Array Value) (e : TypeId) (hl : cs.length = n * sz) (hst : stillL cs = true)
    (hv : VL g cs (vs.toList.take cs.length)) (hsz : newCap * sz ≤ vs.size) (hcap : n ≤ newCap) (es : List AV) (hes : es.flatMap cellsOf = cs) (hel : es.length = n) (hee : ∀ x ∈ es, (cellsOf x).length = sz) :
    ∃ g', Step g H w (fun _ => False) (.slice .none sz es) H (.slice (some ⟨w.heap.size, 0, none⟩) n newCap) g' (w.drew.alloc (.cells vs e)) := by
  obtain ⟨b, hb1, hb2⟩ := new_name H
  obtain ⟨g1, hμ, st⟩ := grown (F := fun x => x = b) hw b sz cs n newCap vs e hl hst hv hsz hcap es hes hel hee (fun ob h => by rw [hb1] at h; cases h) (.inl rfl) (fun x ob hx hf y hy e => hb2 x ob hf (e ▸ hy))
  have hless : Less (ins b (.buf sz n) H) H := ⟨fun x ob hx => ⟨ob, fun _ => false, by rw [find_ins, if_neg (fun e => by subst e; rw [hb1] at hx; cases hx)]; exact hx, (obStrip_never ob).symm⟩⟩
  obtain ⟨l1, l2, l3⟩ := st.wc.less hless
  refine ⟨g1.heap H, ⟨?_, l1, ?_, ?_⟩⟩
  · have := st.val
    exact tok_none (l2.V (Off.none _) this)
  · refine ⟨fun c o x h => l2.gam _ _ _ (st.keep.gam _ _ _ h), fun x _ c hc => ?_, fun x _ => ?_⟩
    · show g1.μ x = some c
      rw [hμ]; exact hc
    · by_cases hx : x = b
      · subst hx; exact .gone (by show tipOf H x = none; simp [tipOf, hb1])
      · exact (st.keep.tok x hx).trans (l2.tok x (fun h => h))
  · exact st.ctx.trans l3
theorem flat_append (es ys : List AV) : (es ++ ys).flatMap cellsOf = es.flatMap cellsOf ++ ys.flatMap cellsOf := by simp
theorem stillL_append {a b : List AV} (h : stillL a = true) (k : stillL b = true) : stillL (a ++ b) = true := by
  refine stillL_of fun i x hx => ?_
  rw [List.getElem?_append] at hx
  split at hx
  · exact still_nil h i x hx
  · exact still_nil k _ x hx

theorem take_three (a b : List Value) (c : Array Value) : (a.toArray ++ b.toArray ++ c).toList.take (a ++ b).length = a ++ b := by
  have : (a.toArray ++ b.toArray ++ c).toList = (a ++ b) ++ c.toList := by simp
  rw [this, List.take_left]
theorem good_append {P : Program} {tb : List TI} (hP : TbOk P tb) {g : Gh} {G H : Heap} {a : Act} {w : World} {o : Oper} (hw : WC g H w) {pl : Bool} {d : Nat} {t u : TypeId} {s x : AV} {r : OpR}
    (h : evAppend tb pl d G t u s x = some r) (hag : Agree r G H) (hfr : r.fresh = true → ClearH d H) {vs vx : Value} (hs : V g s vs) (hx : V g x vx) {args : List Value} {ats : List TypeId} {ty : TypeId}
    (hargs : args = vs :: vx :: args.drop 2) (hats : ats = t :: u :: ats.drop 2)
    (hex : ∀ v w', (Builtin.append_ ats.toArray ty args.toArray).run P w = .ok v w' → (execOp a.eval o).run P w = .ok (.value v) w') :
    OpGood P g H a w (fun b => r.fresh = true ∧ rooted d b = true) o r := by
  unfold evAppend at h
  split at h
  · rename_i e du ys hd1 hd2 hsrc
    obtain ⟨_, _, _, d1, h1, h1'⟩ := descOf_some hP hd1
    cases ofDesc_slice h1'
    obtain ⟨_, _, _, d2, h2, h2'⟩ := descOf_some hP hd2
    split at h
    · cases h
    rename_i te hte
    have hT := hP.facts hte
    split at h
    · cases h
    rename_i hcond
    simp only [Bool.or_eq_true, not_or, Bool.not_eq_true', bne_iff_ne, ne_eq, Decidable.not_not, Bool.not_eq_true, Bool.not_eq_false'] at hcond
    obtain ⟨⟨⟨c1, c2⟩, c3⟩, c4⟩ := hcond
    have hdu : (∃ q, d2 = .slice q) ∨ d2 = .string := by
      rw [← h2'] at c1
      cases d2 <;> simp [ofDesc, srcTy] at c1 ⊢
    have hS : Src P g w vx te.size ys := src_of hw hsrc (by simpa using c4) hx
    have hS' : Src P g w.drew vx te.size ys := src_of (hw.drew (Drew.drew w)) hsrc (by simpa using c4) hx
    have hze : te.zero.isEmpty = false := by simpa using c2
    obtain ⟨us, k1, k2⟩ := hS.ex
    obtain ⟨us', k1', k2'⟩ := hS'.ex
    have hul : us.length = ys.length * te.size := by rw [k1.length, flat_length hS.each]
    have hul' : us'.length = ys.length * te.size := by rw [k1'.length, flat_length hS.each]
    split at h
    · -- nil
      simp only [V] at hs; subst hs
      split at h
      · split at h
        · rename_i hroom
          cases h
          cases hys : ys with
          | nil =>
            subst hys
            have hrun := run_room (P := P) (w := w) (w' := w) (base := none) (len := 0) (cap := 0) (m := 0) (news := us) h1 hT h2 hdu hargs hats hS.len k2 (Nat.le_refl _) (by intro a ha; cases ha) (fun _ => rfl) ty
            exact OpGood.pure hw (hex _ _ hrun) (by simp only [V]; exact .inl ⟨.inl rfl, trivial⟩)
          | cons y0 yr =>
            rw [← hys]
            have hpos : 0 < ys.length := by rw [hys]; simp
            obtain ⟨newCap, rest, r1, r2, r3⟩ := run_grow (P := P) (g := g) (w := w) (base := none) (len := 0) (cap := 0) (m := ys.length) (old := []) (news := us') h1 hT hze c3 h2 hdu hargs hats rfl hS.len k2' (by omega) (by simpa using hroom) ty
            simp only [Nat.zero_add] at r1 r2 r3
            obtain ⟨g', st⟩ := grownN hw te.size (ys.flatMap cellsOf) ys.length newCap (([] : List Value).toArray ++ us'.toArray ++ rest) e (flat_length hS.each) hS.still
              (by
                rw [flat_length hS.each]
                have : ((([] : List Value).toArray ++ us'.toArray ++ rest).toList.take (ys.length * te.size)) = us' := by
                  rw [← hul']; simp
                rw [this]; exact k1')
              (by simp [r2, hul', ← Nat.add_mul]; exact Nat.mul_le_mul_right _ (by omega)) r1 ys rfl rfl hS.each
            exact OpGood.value (hex _ _ r3) ⟨st.val, st.wc, st.keep.wider fun b hb => hb.elim, st.ctx⟩
        · cases h
      split at h
      · rename_i hem
        cases h
        have hy : ys = [] := by simpa using hem
        subst hy
        have hrun := run_room (P := P) (w := w) (w' := w) (base := none) (len := 0) (cap := 0) (m := 0) (news := us) h1 hT h2 hdu hargs hats hS.len k2 (Nat.le_refl _) (by intro a ha; cases ha) (fun _ => rfl) ty
        exact OpGood.pure hw (hex _ _ hrun) rfl
      · rename_i hem
        split at h
        · rename_i hroom
          cases h
          have hpos : 0 < ys.length := by
            cases hq : ys with
            | nil => rw [hq] at hem; simp at hem
            | cons y r => simp
          obtain ⟨hnr, hsp⟩ := hfr rfl
          obtain ⟨newCap, rest, r1, r2, r3⟩ := run_grow (P := P) (g := g) (w := w) (base := none) (len := 0) (cap := 0) (m := ys.length) (old := []) (news := us') h1 hT hze c3 h2 hdu hargs hats rfl hS.len k2' (by omega) (by simpa using hroom) ty
          simp only [Nat.zero_add] at r1 r2 r3
          obtain ⟨g', _, st⟩ := grown (F := fun b => rooted d b = true) hw (.loc d) te.size (ys.flatMap cellsOf) ys.length newCap (([] : List Value).toArray ++ us'.toArray ++ rest) e (flat_length hS.each) hS.still
            (by
              rw [flat_length hS.each]
              have : ((([] : List Value).toArray ++ us'.toArray ++ rest).toList.take (ys.length * te.size)) = us' := by
                rw [← hul']; simp
              rw [this]; exact k1')
            (by simp [r2, hul', ← Nat.add_mul]; exact Nat.mul_le_mul_right _ (by omega)) r1 ys rfl rfl hS.each
            (fun ob hob => by rw [hnr _ (rooted_loc d)] at hob; cases hob) (.inl (rooted_loc d)) (fun x ob hxb hfx y hy => by rw [hsp x ob hfx y hy]; simp)
          refine OpGood.value (hex _ _ r3) ⟨st.val, st.wc, st.keep.wider fun b hb => ⟨rfl, hb⟩, st.ctx⟩
        · cases h
    · -- full
      rename_i sz es
      split at h
      · cases h
      rename_i hsz
      have hsz' : sz = te.size := Decidable.byContradiction hsz
      subst hsz'
      have hparts : ∃ base, vs = .slice base es.length es.length ∧ (∀ e ∈ es, (cellsOf e).length = te.size) ∧ stillL (es.flatMap cellsOf) = true ∧ ∃ old, VL g (es.flatMap cellsOf) old ∧
          (Builtin.firstCells te.size es.length (.slice base es.length es.length)).run P w.drew = .ok old.toArray w.drew := by
        simp only [V] at hs
        rcases hs with ⟨hb, rfl⟩ | ⟨c, off, cap, rfl, q1, q2, q3, q4⟩
        · rcases hb with rfl | ⟨a, cap, rfl, hb | rfl⟩
          · exact ⟨none, rfl, by simp, rfl, [], rfl, rfl⟩
          · cases hb
          · exact ⟨some a, rfl, by simp, rfl, [], rfl, run_cells_none _ _ _⟩
        · simp only [TokOk] at q4; subst q4
          obtain ⟨old, o1, o2⟩ := run_cells (P := P) (hw.drew (Drew.drew w)) q3 (flat_length q2)
          exact ⟨_, rfl, q2, pinned_still hw q3, old, o1, o2⟩
      obtain ⟨base, rfl, q2, q3, old, o1, o2⟩ := hparts
      split at h
      · split at h
        · rename_i hroom
          cases h
          cases hys : ys with
          | nil =>
            subst hys
            have hu0 : us = [] := by simpa using hul
            have hrun := run_room (P := P) (w := w) (w' := w) (base := base) (len := es.length) (cap := es.length) (m := 0) (news := us) h1 hT h2 hdu hargs hats hS.len k2 (by simp) (by intro a _; rw [hu0]; rfl) (fun _ => rfl) ty
            refine OpGood.pure hw (hex _ _ hrun) ?_
            rw [List.append_nil]
            simp only [V] at hs ⊢
            rcases hs with hs | ⟨c, o, cap, t1, t2, t3, t4, t5⟩
            · exact .inl ⟨by simpa using hs.1.none, hs.2⟩
            · exact .inr ⟨c, o, cap, by simpa using t1, t2, t3, t4, trivial⟩
          | cons y0 yr =>
            rw [← hys]
            have hpos : 0 < ys.length := by rw [hys]; simp
            obtain ⟨newCap, rest, r1, r2, r3⟩ := run_grow (P := P) (g := g) (w := w) (base := base) (len := es.length) (cap := es.length) (m := ys.length) (old := old) (news := us') h1 hT hze c3 h2 hdu hargs hats o2 hS.len k2' (by omega) hroom ty
            have hol : old.length = es.length * te.size := by rw [o1.length, flat_length q2]
            obtain ⟨g', st⟩ := grownN hw te.size ((es ++ ys).flatMap cellsOf) (es.length + ys.length) newCap (old.toArray ++ us'.toArray ++ rest) e
              (by rw [flat_append, List.length_append, flat_length q2, flat_length hS.each, Nat.add_mul]) (by rw [flat_append]; exact stillL_append q3 hS.still)
              (by
                rw [flat_append]
                have hlen : (es.flatMap cellsOf ++ ys.flatMap cellsOf).length = (old ++ us').length := by rw [List.length_append, List.length_append, o1.length, k1'.length]
                have : ((old.toArray ++ us'.toArray ++ rest).toList.take (es.flatMap cellsOf ++ ys.flatMap cellsOf).length) = old ++ us' := by
                  rw [hlen]; exact take_three old us' rest
                rw [this]; exact o1.append k1')
              (by simp [r2, hul', hol, ← Nat.add_mul]; exact Nat.mul_le_mul_right _ (by omega)) r1 (es ++ ys) rfl (by simp) (fun x hx => by rcases List.mem_append.1 hx with hx | hx; exact q2 x hx; exact hS.each x hx)
            exact OpGood.value (hex _ _ r3) ⟨st.val, st.wc, st.keep.wider fun b hb => hb.elim, st.ctx⟩
        · cases h
      split at h
      · rename_i hem
        cases h
        have hy : ys = [] := by simpa using hem
        subst hy
        have hu0 : us = [] := by simpa using hul
        have hrun := run_room (P := P) (w := w) (w' := w) (base := base) (len := es.length) (cap := es.length) (m := 0) (news := us) h1 hT h2 hdu hargs hats hS.len k2 (by simp) (by intro a _; rw [hu0]; rfl) (fun _ => rfl) ty
        exact OpGood.pure hw (hex _ _ hrun) (by simpa using hs)
      · rename_i hem
        split at h
        · rename_i hroom
          cases h
          have hpos : 0 < ys.length := by
            cases hq : ys with
            | nil => rw [hq] at hem; simp at hem
            | cons y r => simp
          obtain ⟨hnr, hsp⟩ := hfr rfl
          obtain ⟨newCap, rest, r1, r2, r3⟩ := run_grow (P := P) (g := g) (w := w) (base := base) (len := es.length) (cap := es.length) (m := ys.length) (old := old) (news := us') h1 hT hze c3 h2 hdu hargs hats o2 hS.len k2' (by omega) hroom ty
          have hol : old.length = es.length * te.size := by rw [o1.length, flat_length q2]
          obtain ⟨g', _, st⟩ := grown (F := fun b => rooted d b = true) hw (.loc d) te.size ((es ++ ys).flatMap cellsOf) (es.length + ys.length) newCap (old.toArray ++ us'.toArray ++ rest) e
            (by rw [flat_append, List.length_append, flat_length q2, flat_length hS.each, Nat.add_mul]) (by rw [flat_append]; exact stillL_append q3 hS.still)
            (by
              rw [flat_append]
              have hlen : (es.flatMap cellsOf ++ ys.flatMap cellsOf).length = (old ++ us').length := by rw [List.length_append, List.length_append, o1.length, k1'.length]
              have : ((old.toArray ++ us'.toArray ++ rest).toList.take (es.flatMap cellsOf ++ ys.flatMap cellsOf).length) = old ++ us' := by
                rw [hlen]; exact take_three old us' rest
              rw [this]; exact o1.append k1')
            (by simp [r2, hul', hol, ← Nat.add_mul]; exact Nat.mul_le_mul_right _ (by omega)) r1 (es ++ ys) rfl (by simp) (fun x hx => by rcases List.mem_append.1 hx with hx | hx; exact q2 x hx; exact hS.each x hx)
            (fun ob hob => by rw [hnr _ (rooted_loc d)] at hob; cases hob) (.inl (rooted_loc d)) (fun x ob hxb hfx y hy => by rw [hsp x ob hfx y hy]; simp)
          refine OpGood.value (hex _ _ r3) ⟨st.val, st.wc, st.keep.wider fun b hb => ⟨rfl, hb⟩, st.ctx⟩
        · cases h
    · -- a known spare
      rename_i b sz es
      split at h
      · cases h
      rename_i hsz
      have hsz' : sz = te.size := Decidable.byContradiction hsz
      subst hsz'
      split at h
      · rename_i sz' n hfbG
        split at h
        · rename_i hcond
          obtain ⟨e1, e2, hroom⟩ := hcond
          subst e1 e2
          cases h
          have hfb : find H b = some (.buf te.size es.length) := by rw [← hag b ⟨b, by simp, rfl⟩]; exact hfbG
          have htip : g.tip b = some (te.size, es.length) := by rw [hw.tip]; simp [tipOf, hfb]
          have hparts : ∃ base cap, vs = .slice base es.length cap ∧ es.length ≤ cap ∧ (∀ e ∈ es, (cellsOf e).length = te.size) ∧ stillL (es.flatMap cellsOf) = true ∧
              (∃ old, VL g (es.flatMap cellsOf) old ∧ (Builtin.firstCells te.size es.length (.slice base es.length cap)).run P w.drew = .ok old.toArray w.drew) ∧
              (cap = es.length ∨ ∃ c, base = some ⟨c, 0, none⟩ ∧ g.bufc b = some (c, cap) ∧ Pinned g c 0 (es.flatMap cellsOf)) := by
            simp only [V] at hs
            rcases hs with ⟨hb, rfl⟩ | ⟨c, off, cap, rfl, q1, q2, q3, q4⟩
            · rcases hb with rfl | ⟨a, cap, rfl, hb | rfl⟩
              · exact ⟨none, 0, rfl, Nat.le_refl _, by simp, rfl, ⟨[], rfl, rfl⟩, .inl rfl⟩
              · cases hb
              · exact ⟨some a, 0, rfl, Nat.le_refl _, by simp, rfl, ⟨[], rfl, run_cells_none _ _ _⟩, .inl rfl⟩
            · obtain ⟨old, o1, o2⟩ := run_cells (P := P) (hw.drew (Drew.drew w)) q3 (flat_length q2)
              rcases (q4 _ _ htip).2 rfl with ⟨rfl, q6⟩ | q6
              · exact ⟨_, cap, rfl, q1, q2, pinned_still hw q3, ⟨old, o1, o2⟩, .inr ⟨c, rfl, q6, q3⟩⟩
              · exact ⟨_, cap, rfl, q1, q2, pinned_still hw q3, ⟨old, o1, o2⟩, .inl q6⟩
          obtain ⟨base, cap, rfl, q1, q2, q3, ⟨old, o1, o2⟩, q4⟩ := hparts
          have hol : old.length = es.length * te.size := by rw [o1.length, flat_length q2]
          by_cases hfit : es.length + ys.length ≤ cap
          · rcases q4 with rfl | ⟨c, rfl, hbc, q5⟩
            · have hy : ys = [] := by
                cases hq : ys with
                | nil => rfl
                | cons y r => rw [hq] at hfit; simp only [List.length_cons] at hfit; omega
              subst hy
              have hu0 : us = [] := by simpa using hul
              have hrun := run_room (P := P) (w := w) (w' := w) (base := base) (len := es.length) (cap := es.length) (m := 0) (news := us) h1 hT h2 hdu hargs hats hS.len k2 (by simp) (by intro a _; rw [hu0]; rfl) (fun _ => rfl) ty
              simp only [Nat.add_zero] at hrun
              have hcg : ∀ x, find (ins b (.buf te.size (es.length + 0)) H) x = find H x := find_ins_same hfb
              exact OpGood.value (hex _ _ hrun) ⟨by simpa using hs, hw.congr hcg, Keep.refl _ _, (Ctx.refl w g H).congr hcg⟩
            · obtain ⟨vs, e', v1, v2, v3, v4⟩ := hw.objs b _ hfb c cap hbc
              have hrow := run_storeCells_at (P := P) c (es.length * te.size) e' us 0 vs w v1 (by
                have := Nat.mul_le_mul_right te.size hfit
                rw [Nat.add_mul] at this
                omega) (all_cellOk k1 (by
                  have := hS.still
                  simp only [stillL, Bool.and_eq_true] at this
                  exact this.2))
              obtain ⟨n1, n2, n3⟩ := hw.fits hfb hbc v1 v2 hfit v4 (ys.flatMap cellsOf) us (flat_length hS.each) k1 hS.still
              have hrun := run_room (P := P) (w := w) (base := some ⟨c, 0, none⟩) (len := es.length) (cap := cap) (m := ys.length) (news := us) h1 hT h2 hdu hargs hats hS.len k2 hfit
                (by intro a ha; cases ha; rw [add_eq, Nat.zero_add]; exact hrow) (by intro h0; cases h0) ty
              simp only [Nat.add_zero] at hrun
              refine OpGood.value (hex _ _ hrun) ⟨?_, n1, n3.wider (fun _ h => h.elim), n2⟩
              simp only [V]
              refine .inr ⟨c, 0, cap, by simp, by simpa using hfit, fun x hx => by rcases List.mem_append.1 hx with hx | hx; exact q2 x hx; exact hS.each x hx, ?_, fun s n hn => ?_⟩
              · rw [flat_append]
                intro i a ha
                rw [Nat.zero_add]
                simp only [Gh.heap, Gh.more]
                rw [List.getElem?_append] at ha
                split at ha
                · rename_i hi
                  rw [flat_length q2] at hi
                  rw [if_neg (by omega)]
                  have := q5 i a ha
                  rwa [Nat.zero_add] at this
                · rename_i hi
                  rw [flat_length q2] at hi ha
                  have hlt := (List.getElem?_eq_some_iff.1 ha).1
                  rw [if_pos ⟨trivial, by omega, by omega⟩]
                  exact ha
              · simp only [Gh.heap, tipOf_ins, if_true] at hn
                cases hn
                exact ⟨by simp, fun _ => .inl ⟨rfl, hbc⟩⟩
          · obtain ⟨newCap, rest, r1, r2, r3⟩ := run_grow (P := P) (g := g) (w := w) (base := base) (len := es.length) (cap := cap) (m := ys.length) (old := old) (news := us') h1 hT hze c3 h2 hdu hargs hats o2 hS.len k2' (by omega) hroom ty
            have hpos : 0 < ys.length := by omega
            obtain ⟨g', _, st⟩ := grown (F := fun _ => False) hw b te.size ((es ++ ys).flatMap cellsOf) (es.length + ys.length) newCap (old.toArray ++ us'.toArray ++ rest) e
              (by rw [flat_append, List.length_append, flat_length q2, flat_length hS.each, Nat.add_mul]) (by rw [flat_append]; exact stillL_append q3 hS.still)
              (by
                rw [flat_append]
                have hlen : (es.flatMap cellsOf ++ ys.flatMap cellsOf).length = (old ++ us').length := by rw [List.length_append, List.length_append, o1.length, k1'.length]
                have : ((old.toArray ++ us'.toArray ++ rest).toList.take (es.flatMap cellsOf ++ ys.flatMap cellsOf).length) = old ++ us' := by
                  rw [hlen]; exact take_three old us' rest
                rw [this]; exact o1.append k1')
              (by simp [r2, hul', hol, ← Nat.add_mul]; exact Nat.mul_le_mul_right _ (by omega)) r1 (es ++ ys) rfl (by simp) (fun x hx => by rcases List.mem_append.1 hx with hx | hx; exact q2 x hx; exact hS.each x hx)
              (fun ob hob => by rw [hfb] at hob; cases hob; exact ⟨_, _, rfl, by omega⟩) (.inr ⟨_, _, hfb, by omega⟩) (fun x ob hxb hfx y hy h => h)
            refine OpGood.value (hex _ _ r3) ⟨st.val, st.wc, st.keep.wider fun b hb => hb.elim, st.ctx⟩
        · cases h
      · cases h
    · cases h
  · cases h

end Go.Proofs.Ytbckfbohbjhffaa.AE
