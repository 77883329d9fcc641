/- The plain law. No condition. -/
import Derived.Test.YtjojaiomgdjhfaaGreatDoorZP0
import Derived.Test.YtjojaiomgdjhfaaGreatDoorZY0
import Derived.Test.YtjojaiomgdjhfaaGreatDoorZA2
import Derived.Test.YtjojaiomgdjhfaaGreatDoorZA1
set_option linter.unusedVariables false
set_option linter.unusedSimpArgs false
set_option maxRecDepth 100000
namespace Go.Proofs.YtjojaiomgdjhfaaGreatDoor.F
open Go
def dupGo (ds:List TNode):List TNode→Nat→Option Int
  | [],_=>none
  | d :: r,i=>if glb (ds.take i) d.Name = true then some d.At else dupGo ds r (i + 1)
def chkGo (ds:List TNode):List TNode→Nat→Int × Int
  | [],_=>(0,0)
  | d :: r,i=>if (oneS ds (ds.take i) d).2 ≠ 0 then oneS ds (ds.take i) d else chkGo ds r (i + 1)
def chkS (ds:List TNode):Int × Int:=match dupGo ds ds 0 with | some a=>(a,6) | none=>chkGo ds ds 0
theorem dup_no {ds:List TNode}:∀ (d i:Nat),i + d = ds.length→dupGo ds (ds.drop i) i = none→∀ j (hj:j < ds.length),i ≤ j→glb (ds.take j) ds[j].Name = false
  | 0,i,h,_,j,hj,hij=>by omega
  | d + 1,i,h,hn,j,hj,hij=>by
    have hi:i < ds.length:=by omega
    rw [List.drop_eq_getElem_cons hi] at hn
    unfold dupGo at hn
    split at hn
    · cases hn
    · rename_i hg
      by_cases e:i = j
      · subst e; simpa using hg
      · exact dup_no d (i + 1) (by omega) hn j hj (by omega)
theorem seen_loop {ρ:Type} (l:List TNode) (i:Nat) (hi:i < l.length) (hl:l.length ≤ 10000000) (J:Nat→Bool × Int→Option (Int ⊕ ρ)) (b0:Bool) {r:Int ⊕ ρ} (hJ:Ev (fun k=>J k ((b0 || hasN (l.take i) l[i].Name),(i:Int))) r) :
    ∀ (d j:Nat),j + d = i→EvL (fun k ((l3_5,l3_6):Bool × Int)=>
    if (decide (l3_6 < (i:Int))) then
    if l3_5 then
    some (.inl (true,(IntKind.i64.wrap (l3_6 + 1))))
    else
    (ix l l3_6).bind fun x9_4=>
    (ix l (i:Int)).bind fun x9_9=>
    some (.inl ((x9_4.Name == x9_9.Name),(IntKind.i64.wrap (l3_6 + 1))))
    else
    (J k (l3_5,l3_6)).map .inr) ((b0 || hasN (l.take j) l[i].Name),(j:Int)) r
  | 0,j,h=>by
    obtain rfl:j = i:=by omega
    refine EvL.done ?_
    simp only [qR,↓reduceIte,Int.reduceBEq,Int.reduceBNe,Int.reduceLT,Int.reduceLE,Int.reduceGT,Int.reduceGE,lt_f (Nat.le_refl j)]
    exact Ev.map hJ
  | d + 1,j,h=>by
    have hj:j < i:=by omega
    have hjl:j < l.length:=by omega
    refine EvL.step (s':=((b0 || hasN (l.take (j + 1)) l[i].Name),((j + 1:Nat):Int))) ?_ (seen_loop l i hi hl J b0 hJ d (j + 1) (by omega))
    have e:hasN (l.take (j + 1)) l[i].Name = (hasN (l.take j) l[i].Name || (l[j].Name == l[i].Name)):=by
      unfold hasN
      rw [List.take_succ_eq_append_getElem hjl,List.any_append]; simp
    cases hb:(b0 || hasN (l.take j) l[i].Name) with
    | true=>
      rw [e,← Bool.or_assoc,hb]
      simp only [qR,↓reduceIte,Int.reduceBEq,Int.reduceBNe,Int.reduceLT,Int.reduceLE,Int.reduceGT,Int.reduceGE,lt_t hj,w_succ (show j ≤ 1000000000 by omega)]
    | false=>
      rw [e,← Bool.or_assoc,hb]
      simp only [qR,↓reduceIte,Int.reduceBEq,Int.reduceBNe,Int.reduceLT,Int.reduceLE,Int.reduceGT,Int.reduceGE,lt_t hj,ix_nat hjl,ix_nat hi,w_succ (show j ≤ 1000000000 by omega)]
theorem seen0 {ρ:Type} {l:List TNode} {i:Nat} (hi:i < l.length) (hl:l.length ≤ 10000000) {J:Nat→Bool × Int→Option (Int ⊕ ρ)} {b0:Bool} {r:Int ⊕ ρ} (hJ:Ev (fun k=>J k ((b0 || hasN (l.take i) l[i].Name),(i:Int))) r) :
    EvL (fun k (x:Bool × Int)=>
    if (decide (x.snd < (i:Int))) then
    if x.fst then
    some (.inl (true,(IntKind.i64.wrap (x.snd + 1))))
    else
    (ix l x.snd).bind fun x9_4=>
    (ix l (i:Int)).bind fun x9_9=>
    some (.inl ((x9_4.Name == x9_9.Name),(IntKind.i64.wrap (x.snd + 1))))
    else
    (J k x).map .inr) (b0,0) r:=by
  have:=seen_loop l i hi hl J b0 hJ i 0 (by omega)
  rw [show (b0 || hasN (l.take 0) l[i].Name) = b0 by simp [hasN]] at this
  exact this
theorem take_mid {ds:List TNode} {i:Nat} (hi:i < ds.length):ds = ds.take i ++ ds[i] :: ds.drop (i + 1):=by
  rw [← List.drop_eq_getElem_cons hi,List.take_append_drop]
theorem check_ev {p m:TNode} {ds:List TNode} (hp:p.Kids = ds ++ [m]) (h:DsOk ds):Ev (fun k=>ref18_Check k p) (Tref18_Fault.mk (chkS ds).1 (chkS ds).2):=by
  have hl:=h.len
  have q0:=decls_ev hp h.len 0
  rw [dk_zero] at q0
  simp only [ref18_Check,joinK]
  refine Ev.bind q0 ?_
  -- the second rounds
  have h2:dupGo ds ds 0 = none→Ev (fun k=>loopM k (fun (l5_7:Int)=>
    if (decide (l5_7 < (ds.length:Int))) then
    (ix ds l5_7).bind fun x15_3=>
    (ix ds l5_7).bind fun x15_8=>
    (ix ds l5_7).bind fun x15_13=>
    (ref18_Find k p x15_8.Kind x15_13.Name).bind fun x15_16=>
    (ref18_one k p x15_3 x15_16).bind fun x15_17=>
    if (x15_17.Why != 0) then
    some (.inr x15_17)
    else
    some (.inl (IntKind.i64.wrap (l5_7 + 1)))
    else
    (some (Tref18_Fault.mk 0 0)).map .inr) 0) (Tref18_Fault.mk (chkGo ds ds 0).1 (chkGo ds ds 0).2):=by
    intro hdup
    refine Ev.loop (forI ds (fun r i=>Tref18_Fault.mk (chkGo ds r i).1 (chkGo ds r i).2) (fun i hi=>?_) ?_)
    · refine step_or ((oneS ds (ds.take i) ds[i]).2 != 0) (Tref18_Fault.mk (oneS ds (ds.take i) ds[i]).1 (oneS ds (ds.take i) ds[i]).2) ?_ (fun e=>by rw [chkGo,if_pos (by simpa using e)]) (fun e=>by rw [chkGo,if_neg (by simpa using e)])
      have hmid:=take_mid hi
      have hg:=dup_no ds.length 0 (by omega) (by rw [List.drop_zero]; exact hdup) i hi (by omega)
      have hno:hasN (ds.take i) ds[i].Name = false:=by
        unfold glb at hg
        simp only [Bool.or_eq_false_iff] at hg
        exact hg.2
      have hkz:ds[i].Kind ≠ 0:=by rcases h.four ds[i] (List.getElem_mem hi) with e | e | e | e <;> rw [e] <;> decide
      have qf:=find_ev hp h.len ds[i].Kind ds[i].Name
      have e1:fI (dk ds ds[i].Kind) ds[i].Name = ((dk (ds.take i) ds[i].Kind).length:Int):=by
        have:=fI_at (pre:=ds.take i) (post:=ds.drop (i + 1)) (d:=ds[i]) rfl hkz hno
        rwa [← hmid] at this
      rw [e1] at qf
      have q1:Ev (fun k=>ref18_one k p ds[i] ((dk (ds.take i) ds[i].Kind).length:Int)) (Tref18_Fault.mk (oneS ds (ds.take i) ds[i]).1 (oneS ds (ds.take i) ds[i]).2):=by
        have:=one_ref (p:=p) (m:=m) (pre:=ds.take i) (post:=ds.drop (i + 1)) (d:=ds[i]) (by rw [← hmid]; exact hp) (by rw [← hmid]; exact h)
        rwa [← hmid] at this
      cases ho:((oneS ds (ds.take i) ds[i]).2 != 0) with
      | true=>simp only [qR,↓reduceIte,Int.reduceBEq,Int.reduceBNe,Int.reduceLT,Int.reduceLE,Int.reduceGT,Int.reduceGE,lt_t hi,ix_nat hi,Ev.bnd qf,Ev.bnd q1,ho]
      | false=>simp only [qR,↓reduceIte,Int.reduceBEq,Int.reduceBNe,Int.reduceLT,Int.reduceLE,Int.reduceGT,Int.reduceGE,lt_t hi,ix_nat hi,Ev.bnd qf,Ev.bnd q1,ho,w_succ (show i ≤ 1000000000 by omega)]
    · simp only [qR,↓reduceIte,Int.reduceBEq,Int.reduceBNe,Int.reduceLT,Int.reduceLE,Int.reduceGT,Int.reduceGE,lt_f (Nat.le_refl ds.length)]; rfl
  refine Ev.loop (EvL.cast (forJ ds (fun r i=>Tref18_Fault.mk (match dupGo ds r i with | some a=>(a,6) | none=>chkGo ds ds 0).1 (match dupGo ds r i with | some a=>(a,6) | none=>chkGo ds ds 0).2) (fun i=>dupGo ds ds 0 = dupGo ds (ds.drop i) i) (fun i hi hd=>?_) (fun hd=>?_) (by rw [List.drop_zero])) rfl)
  · rw [List.drop_eq_getElem_cons hi] at hd
    cases hg:glb (ds.take i) ds[i].Name with
    | true=>
      refine .inl ⟨Tref18_Fault.mk ds[i].At 6,?_,by simp only [dupGo,hg,if_true]⟩
      refine Ev.ite_t (lt_t hi) ?_
      refine Ev.bindS (fun _=>ix_nat hi) (Ev.bindS (fun k=>given_ref k ds[i].Name) (Ev.loop (seen0 hi hl ?_)))
      unfold glb at hg
      rw [hg]
      simp only [qR,↓reduceIte,Int.reduceBEq,Int.reduceBNe,Int.reduceLT,Int.reduceLE,Int.reduceGT,Int.reduceGE,ix_nat hi]
    | false=>
      refine .inr ⟨?_,by rw [hd]; simp only [dupGo,hg,Bool.false_eq_true,if_false],by simp only [dupGo,hg,Bool.false_eq_true,if_false]⟩
      refine Ev.ite_t (lt_t hi) ?_
      refine Ev.bindS (fun _=>ix_nat hi) (Ev.bindS (fun k=>given_ref k ds[i].Name) (Ev.loop (seen0 hi hl ?_)))
      unfold glb at hg
      rw [hg]
      simp only [qR,↓reduceIte,Int.reduceBEq,Int.reduceBNe,Int.reduceLT,Int.reduceLE,Int.reduceGT,Int.reduceGE,w_succ (show i ≤ 1000000000 by omega)]
  · rw [List.drop_length] at hd
    refine Ev.ite_f (lt_f (Nat.le_refl _)) (Ev.map ?_)
    exact h2 hd
end Go.Proofs.YtjojaiomgdjhfaaGreatDoor.F
namespace Go.Proofs.YtjojaiomgdjhfaaGreatDoor.F
open Go
abbrev MS:=List (List UInt8 × Int)
structure NmOk (b0 b1 b2 b3:List TNode) (o2 o3 o4 o5:MS) (pre:List TNode):Prop where
  e0:b0 = dk pre 51
  e1:b1 = dk pre 52
  e2:b2 = dk pre 53
  e3:b3 = dk pre 54
  m0:MapOk b0 o2
  m1:MapOk b1 o3
  m2:MapOk b2 o4
  m3:MapOk b3 o5
theorem global_one {b0 b1 b2 b3:List TNode} {o2 o3 o4 o5:MS} {pre:List TNode} (h:NmOk b0 b1 b2 b3 o2 o3 o4 o5 pre) (h4:∀ d ∈ pre,d.Kind = 51 ∨ d.Kind = 52 ∨ d.Kind = 53 ∨ d.Kind = 54) (s:List UInt8) (prog:TNode) (locs:Int) :
    Ev (fun k=>decl_Table_Global k s prog locs o2 o3 o4 o5 b0 b1 b2 b3) (glb pre s):=by
  have hg:∃ n:Nat→Int,∀ k,word_Given k s = some (n k,decide (gv s ≥ 0)):=⟨fun k=>(given_imp k s).choose,fun k=>(given_imp k s).choose_spec⟩
  obtain ⟨n,hg⟩:=hg
  unfold glb
  rw [hasN_four h4,← h.e0,← h.e1,← h.e2,← h.e3]
  cases h0:decide (gv s ≥ 0) with
  | true=>
    simp only [decl_Table_Global]
    rw [h0] at hg
    refine Ev.of fun k=>?_
    rw [hg k]; rfl
  | false=>
    rw [h0] at hg
    refine Ev.congr (h:=fun k=>loopM k (fun (l1_19:Int)=>
    if (decide (l1_19 < (([51,52,53,54]:List Int).length:Int))) then
    (ix [51,52,53,54] l1_19).bind fun x6_0=>
    (decl_Table_number k x6_0 s prog locs o2 o3 o4 o5 b0 b1 b2 b3).bind fun (x7_3_0,x7_3_1)=>
    if x7_3_1 then
    some (.inr true)
    else
    some (.inl (IntKind.i64.wrap (l1_19 + 1)))
    else
    ((some false:Option Bool)).map .inr) 0) (fun k=>by simp only [decl_Table_Global,joinK,hg k,Option.bind_some,Bool.false_eq_true,if_false]) (Ev.loop ?_)
    have a1:∀ k,decl_Table_number k 51 s prog locs o2 o3 o4 o5 b0 b1 b2 b3 = some ((mgetS s o2).getD 0,hasN b0 s):=fun k=>by rw [← h.m0.isSome s]; rfl
    have a2:∀ k,decl_Table_number k 52 s prog locs o2 o3 o4 o5 b0 b1 b2 b3 = some ((mgetS s o3).getD 0,hasN b1 s):=fun k=>by rw [← h.m1.isSome s]; rfl
    have a3:∀ k,decl_Table_number k 53 s prog locs o2 o3 o4 o5 b0 b1 b2 b3 = some ((mgetS s o4).getD 0,hasN b2 s):=fun k=>by rw [← h.m2.isSome s]; rfl
    have a4:∀ k,decl_Table_number k 54 s prog locs o2 o3 o4 o5 b0 b1 b2 b3 = some ((mgetS s o5).getD 0,hasN b3 s):=fun k=>by rw [← h.m3.isSome s]; rfl
    cases c1:hasN b0 s with
    | true=>
      rw [c1] at a1
      exact EvL.done (by simp only [qR,↓reduceIte,Int.reduceBEq,Int.reduceBNe,Int.reduceLT,Int.reduceLE,Int.reduceGT,Int.reduceGE,a1])
    | false=>
    rw [c1] at a1
    refine EvL.step (s':=1) (by simp only [qR,↓reduceIte,Int.reduceBEq,Int.reduceBNe,Int.reduceLT,Int.reduceLE,Int.reduceGT,Int.reduceGE,a1,wn1]) ?_
    cases c2:hasN b1 s with
    | true=>
      rw [c2] at a2
      exact EvL.done (by simp only [qR,↓reduceIte,Int.reduceBEq,Int.reduceBNe,Int.reduceLT,Int.reduceLE,Int.reduceGT,Int.reduceGE,a2])
    | false=>
    rw [c2] at a2
    refine EvL.step (s':=2) (by simp only [qR,↓reduceIte,Int.reduceBEq,Int.reduceBNe,Int.reduceLT,Int.reduceLE,Int.reduceGT,Int.reduceGE,a2,wn2]) ?_
    cases c3:hasN b2 s with
    | true=>
      rw [c3] at a3
      exact EvL.done (by simp only [qR,↓reduceIte,Int.reduceBEq,Int.reduceBNe,Int.reduceLT,Int.reduceLE,Int.reduceGT,Int.reduceGE,a3])
    | false=>
    rw [c3] at a3
    refine EvL.step (s':=3) (by simp only [qR,↓reduceIte,Int.reduceBEq,Int.reduceBNe,Int.reduceLT,Int.reduceLE,Int.reduceGT,Int.reduceGE,a3,wn3]) ?_
    cases c4:hasN b3 s with
    | true=>
      rw [c4] at a4
      exact EvL.done (by simp only [qR,↓reduceIte,Int.reduceBEq,Int.reduceBNe,Int.reduceLT,Int.reduceLE,Int.reduceGT,Int.reduceGE,a4])
    | false=>
    rw [c4] at a4
    refine EvL.step (s':=4) (by simp only [qR,↓reduceIte,Int.reduceBEq,Int.reduceBNe,Int.reduceLT,Int.reduceLE,Int.reduceGT,Int.reduceGE,a4,wn4]) ?_
    exact EvL.done (by simp only [qR,↓reduceIte,Int.reduceBEq,Int.reduceBNe,Int.reduceLT,Int.reduceLE,Int.reduceGT,Int.reduceGE])
theorem dk_take {ds:List TNode} {i:Nat} (hi:i < ds.length) (c:Int):dk (ds.take (i + 1)) c = dk (ds.take i) c ++ dk [ds[i]] c:=by
  rw [List.take_succ_eq_append_getElem hi]
  unfold dk; rw [List.filter_append]
theorem hasN_dk {pre:List TNode} {s:List UInt8} (h:hasN pre s = false) (c:Int):hasN (dk pre c) s = false:=by
  unfold hasN at h ⊢
  rw [List.any_eq_false] at h ⊢
  intro x hx
  exact h x (List.mem_filter.1 hx).1
def NmRes (ds:List TNode) (y:List TNode × List TNode × List TNode × List TNode × Int × Int × MS × MS × MS × MS):Prop :=
  match dupGo ds ds 0 with
  | some a=>y.2.2.2.2.1 = a∧y.2.2.2.2.2.1 = 6
  | none=>y.2.2.2.2.1 = 0∧y.2.2.2.2.2.1 = 0∧NmOk y.1 y.2.1 y.2.2.1 y.2.2.2.1 y.2.2.2.2.2.2.1 y.2.2.2.2.2.2.2.1 y.2.2.2.2.2.2.2.2.1 y.2.2.2.2.2.2.2.2.2 ds
theorem names_ev {p m:TNode} {ds:List TNode} (hp:p.Kids = ds ++ [m]) (hpl:p.Kids.length ≤ 10000000) (h:DsOk ds):∃ y,Ev (fun k=>decl_Table_names k p 0 [] [] [] [] [] [] [] []) y∧NmRes ds y:=by
  have hl:=h.len
  have hdecls:∀ k,decl_Table_decls k p 0 [] [] [] [] [] [] [] [] = some ds:=fun k=>by
    unfold decl_Table_decls
    rw [hp] at hpl ⊢
    rw [w_len1 hpl,sub_pre ds [m]]; rfl
  have:=loop_ex (σ:=List TNode × List TNode × List TNode × List TNode × Int × MS × MS × MS × MS) (ρ:=List TNode × List TNode × List TNode × List TNode × Int × Int × MS × MS × MS × MS)
    (body:=fun k ((l1_bclext10,l1_bclext12,l1_bclext14,l1_bclext16,l1_10,l1_oext2_0,l1_oext3_0,l1_oext4_0,l1_oext5_0):List TNode × List TNode × List TNode × List TNode × Int × MS × MS × MS × MS)=>
    if (decide (l1_10 < (ds.length:Int))) then
    (ix ds l1_10).bind fun x3_0=>
    (decl_Table_Global k x3_0.Name p 0 l1_oext2_0 l1_oext3_0 l1_oext4_0 l1_oext5_0 l1_bclext10 l1_bclext12 l1_bclext14 l1_bclext16).bind fun x4_3=>
    if x4_3 then
    some (.inr (l1_bclext10,l1_bclext12,l1_bclext14,l1_bclext16,x3_0.At,6,l1_oext2_0,l1_oext3_0,l1_oext4_0,l1_oext5_0))
    else
    if (51 == x3_0.Kind) then
    if (room 64 (l1_bclext10.length + [x3_0].length)) then
    if (51 == x3_0.Kind) then
    some (.inl ((l1_bclext10 ++ [x3_0]),l1_bclext12,l1_bclext14,l1_bclext16,(IntKind.i64.wrap (l1_10 + 1)),(msetS x3_0.Name (l1_bclext10.length:Int) l1_oext2_0),l1_oext3_0,l1_oext4_0,l1_oext5_0))
    else if (52 == x3_0.Kind) then
    none
    else if (53 == x3_0.Kind) then
    none
    else if (54 == x3_0.Kind) then
    none
    else none
    else none
    else if (52 == x3_0.Kind) then
    if (room 64 (l1_bclext12.length + [x3_0].length)) then
    if (51 == x3_0.Kind) then
    none
    else if (52 == x3_0.Kind) then
    some (.inl (l1_bclext10,(l1_bclext12 ++ [x3_0]),l1_bclext14,l1_bclext16,(IntKind.i64.wrap (l1_10 + 1)),l1_oext2_0,(msetS x3_0.Name (l1_bclext12.length:Int) l1_oext3_0),l1_oext4_0,l1_oext5_0))
    else if (53 == x3_0.Kind) then
    none
    else if (54 == x3_0.Kind) then
    none
    else none
    else none
    else if (53 == x3_0.Kind) then
    if (room 64 (l1_bclext14.length + [x3_0].length)) then
    if (51 == x3_0.Kind) then
    none
    else if (52 == x3_0.Kind) then
    none
    else if (53 == x3_0.Kind) then
    some (.inl (l1_bclext10,l1_bclext12,(l1_bclext14 ++ [x3_0]),l1_bclext16,(IntKind.i64.wrap (l1_10 + 1)),l1_oext2_0,l1_oext3_0,(msetS x3_0.Name (l1_bclext14.length:Int) l1_oext4_0),l1_oext5_0))
    else if (54 == x3_0.Kind) then
    none
    else none
    else none
    else if (54 == x3_0.Kind) then
    if (room 64 (l1_bclext16.length + [x3_0].length)) then
    if (51 == x3_0.Kind) then
    none
    else if (52 == x3_0.Kind) then
    none
    else if (53 == x3_0.Kind) then
    none
    else if (54 == x3_0.Kind) then
    some (.inl (l1_bclext10,l1_bclext12,l1_bclext14,(l1_bclext16 ++ [x3_0]),(IntKind.i64.wrap (l1_10 + 1)),l1_oext2_0,l1_oext3_0,l1_oext4_0,(msetS x3_0.Name (l1_bclext16.length:Int) l1_oext5_0)))
    else none
    else none
    else none
    else
    some (.inr (l1_bclext10,l1_bclext12,l1_bclext14,l1_bclext16,0,0,l1_oext2_0,l1_oext3_0,l1_oext4_0,l1_oext5_0)))
    (fun s=>∃ i:Nat,i ≤ ds.length∧s.2.2.2.2.1 = (i:Int)∧NmOk s.1 s.2.1 s.2.2.1 s.2.2.2.1 s.2.2.2.2.2.1 s.2.2.2.2.2.2.1 s.2.2.2.2.2.2.2.1 s.2.2.2.2.2.2.2.2 (ds.take i)∧dupGo ds ds 0 = dupGo ds (ds.drop i) i)
    (fun s=>ds.length - s.2.2.2.2.1.toNat) (NmRes ds) ?_ ([],[],[],[],0,[],[],[],[]) ⟨0,by omega,rfl,by
      rw [List.take_zero]
      have hm:MapOk [] []:=fun s=>rfl
      exact ⟨rfl,rfl,rfl,rfl,hm,hm,hm,hm⟩,by rw [List.drop_zero]⟩
  · obtain ⟨y,h1,h2⟩:=this
    refine ⟨y,?_,h2⟩
    simp only [decl_Table_names,joinK,hdecls,Option.bind_some]
    exact Ev.loop h1
  · rintro ⟨b0,b1,b2,b3,t,o2,o3,o4,o5⟩ ⟨i,hi,ht,hn,hd⟩
    simp only at ht hn
    subst ht
    by_cases hlt:i < ds.length
    rotate_left
    · refine .inl ⟨_,by simp only [qR,↓reduceIte,Int.reduceBEq,Int.reduceBNe,Int.reduceLT,Int.reduceLE,Int.reduceGT,Int.reduceGE,lt_f (show ds.length ≤ i by omega)]; rfl,?_⟩
      unfold NmRes
      rw [List.drop_of_length_le (by omega)] at hd
      rw [hd]
      rw [List.take_of_length_le (by omega)] at hn
      exact ⟨rfl,rfl,hn⟩
    rw [List.drop_eq_getElem_cons hlt] at hd
    have qg:=global_one hn (fun d hd=>h.four d (List.mem_of_mem_take hd)) ds[i].Name p 0
    cases hg:glb (ds.take i) ds[i].Name with
    | true=>
      refine .inl ⟨(b0,b1,b2,b3,ds[i].At,6,o2,o3,o4,o5),by simp only [qR,↓reduceIte,Int.reduceBEq,Int.reduceBNe,Int.reduceLT,Int.reduceLE,Int.reduceGT,Int.reduceGE,lt_t hlt,ix_nat hlt,Ev.bnd qg,hg],?_⟩
      unfold NmRes
      rw [hd]
      rw [show dupGo ds (ds[i] :: ds.drop (i + 1)) i = some ds[i].At by rw [dupGo,if_pos hg]]
      exact ⟨rfl,rfl⟩
    | false=>
      have hno:hasN (ds.take i) ds[i].Name = false:=by
        unfold glb at hg
        simp only [Bool.or_eq_false_iff] at hg
        exact hg.2
      have hd':dupGo ds ds 0 = dupGo ds (ds.drop (i + 1)) (i + 1):=by rw [hd]; simp only [dupGo,hg,Bool.false_eq_true,if_false]
      have hw:=w_succ (show i ≤ 1000000000 by omega)
      have hmes:ds.length - ((i + 1:Nat):Int).toNat < ds.length - (i:Int).toNat:=by omega
      have hb:∀ c,(dk (ds.take i) c).length ≤ 10000000:=fun c=>by
        have:=dk_len (ds.take i) c
        rw [List.length_take] at this
        omega
      rcases h.four ds[i] (List.getElem_mem hlt) with hk | hk | hk | hk
      · have hr:room 64 (b0.length + [ds[i]].length) = true:=room_of (by omega) (by have:=hb 51; rw [← hn.e0] at this; simp; omega)
        refine .inr ⟨(b0 ++ [ds[i]],b1,b2,b3,((i + 1:Nat):Int),msetS ds[i].Name (b0.length:Int) o2,o3,o4,o5),by simp only [qR,↓reduceIte,Int.reduceBEq,Int.reduceBNe,Int.reduceLT,Int.reduceLE,Int.reduceGT,Int.reduceGE,lt_t hlt,ix_nat hlt,Ev.bnd qg,hg,hk,hr,hw],⟨i + 1,by omega,rfl,?_,hd'⟩,hmes⟩
        refine ⟨?_,?_,?_,?_,hn.m0.add (by rw [hn.e0]; exact hasN_dk hno 51),hn.m1,hn.m2,hn.m3⟩
        · rw [dk_take hlt,dk_one hk,hn.e0]
        · rw [dk_take hlt,dk_other (by rw [hk]; decide) (by decide),List.append_nil,hn.e1]
        · rw [dk_take hlt,dk_other (by rw [hk]; decide) (by decide),List.append_nil,hn.e2]
        · rw [dk_take hlt,dk_other (by rw [hk]; decide) (by decide),List.append_nil,hn.e3]
      · have hr:room 64 (b1.length + [ds[i]].length) = true:=room_of (by omega) (by have:=hb 52; rw [← hn.e1] at this; simp; omega)
        refine .inr ⟨(b0,b1 ++ [ds[i]],b2,b3,((i + 1:Nat):Int),o2,msetS ds[i].Name (b1.length:Int) o3,o4,o5),by simp only [qR,↓reduceIte,Int.reduceBEq,Int.reduceBNe,Int.reduceLT,Int.reduceLE,Int.reduceGT,Int.reduceGE,lt_t hlt,ix_nat hlt,Ev.bnd qg,hg,hk,hr,hw],⟨i + 1,by omega,rfl,?_,hd'⟩,hmes⟩
        refine ⟨?_,?_,?_,?_,hn.m0,hn.m1.add (by rw [hn.e1]; exact hasN_dk hno 52),hn.m2,hn.m3⟩
        · rw [dk_take hlt,dk_other (by rw [hk]; decide) (by decide),List.append_nil,hn.e0]
        · rw [dk_take hlt,dk_one hk,hn.e1]
        · rw [dk_take hlt,dk_other (by rw [hk]; decide) (by decide),List.append_nil,hn.e2]
        · rw [dk_take hlt,dk_other (by rw [hk]; decide) (by decide),List.append_nil,hn.e3]
      · have hr:room 64 (b2.length + [ds[i]].length) = true:=room_of (by omega) (by have:=hb 53; rw [← hn.e2] at this; simp; omega)
        refine .inr ⟨(b0,b1,b2 ++ [ds[i]],b3,((i + 1:Nat):Int),o2,o3,msetS ds[i].Name (b2.length:Int) o4,o5),by simp only [qR,↓reduceIte,Int.reduceBEq,Int.reduceBNe,Int.reduceLT,Int.reduceLE,Int.reduceGT,Int.reduceGE,lt_t hlt,ix_nat hlt,Ev.bnd qg,hg,hk,hr,hw],⟨i + 1,by omega,rfl,?_,hd'⟩,hmes⟩
        refine ⟨?_,?_,?_,?_,hn.m0,hn.m1,hn.m2.add (by rw [hn.e2]; exact hasN_dk hno 53),hn.m3⟩
        · rw [dk_take hlt,dk_other (by rw [hk]; decide) (by decide),List.append_nil,hn.e0]
        · rw [dk_take hlt,dk_other (by rw [hk]; decide) (by decide),List.append_nil,hn.e1]
        · rw [dk_take hlt,dk_one hk,hn.e2]
        · rw [dk_take hlt,dk_other (by rw [hk]; decide) (by decide),List.append_nil,hn.e3]
      · have hr:room 64 (b3.length + [ds[i]].length) = true:=room_of (by omega) (by have:=hb 54; rw [← hn.e3] at this; simp; omega)
        refine .inr ⟨(b0,b1,b2,b3 ++ [ds[i]],((i + 1:Nat):Int),o2,o3,o4,msetS ds[i].Name (b3.length:Int) o5),by simp only [qR,↓reduceIte,Int.reduceBEq,Int.reduceBNe,Int.reduceLT,Int.reduceLE,Int.reduceGT,Int.reduceGE,lt_t hlt,ix_nat hlt,Ev.bnd qg,hg,hk,hr,hw],⟨i + 1,by omega,rfl,?_,hd'⟩,hmes⟩
        refine ⟨?_,?_,?_,?_,hn.m0,hn.m1,hn.m2,hn.m3.add (by rw [hn.e3]; exact hasN_dk hno 54)⟩
        · rw [dk_take hlt,dk_other (by rw [hk]; decide) (by decide),List.append_nil,hn.e0]
        · rw [dk_take hlt,dk_other (by rw [hk]; decide) (by decide),List.append_nil,hn.e1]
        · rw [dk_take hlt,dk_other (by rw [hk]; decide) (by decide),List.append_nil,hn.e2]
        · rw [dk_take hlt,dk_one hk,hn.e3]
def bsS (l:List TNode):List Int:=(List.range l.length).map fun j=>lsum (l.take j)
theorem bsS_snoc (l:List TNode) (d:TNode):bsS (l ++ [d]) = bsS l ++ [lsum l]:=by
  unfold bsS
  rw [List.length_append,List.length_singleton,List.range_succ,List.map_append]
  congr 1
  · apply List.map_congr_left
    intro j hj
    rw [List.mem_range] at hj
    rw [List.take_append_of_le_length (by omega)]
  · simp
theorem stand_ev {p m:TNode} {ds:List TNode} (hp:p.Kids = ds ++ [m]) (hpl:p.Kids.length ≤ 10000000) (h:DsOk ds) {all:List (Int × Tdecl_kinds)} (htab:TabOk all ds) :
    ∃ y:List Int × Int × Int × Int,Ev (fun k=>decl_Table_stand k all p 0 []) y∧y.2.1 = (chkGo ds ds 0).1∧y.2.2.1 = (chkGo ds ds 0).2∧((chkGo ds ds 0).2 = 0→y.1 = bsS (dk ds 52)∧y.2.2.2 = lsum (dk ds 52)):=by
  have hl:=h.len
  have hrl:=h.recs.len
  have hdecls:∀ k,decl_Table_decls_v2 k all p 0 [] = some ds:=fun k=>by
    unfold decl_Table_decls_v2
    rw [hp] at hpl ⊢
    rw [w_len1 hpl,sub_pre ds [m]]; rfl
  have qr:=fun k l b=>recs_ev htab hl k p l b
  have:=loop_ex (σ:=List Int × Int × Int × Int) (ρ:=List Int × Int × Int × Int)
    (body:=fun k ((l1_bclext06,l1_4,l1_13,l1_oext0_7):List Int × Int × Int × Int)=>
    if (decide (l1_13 < (ds.length:Int))) then
    (ix ds l1_13).bind fun x4_0=>
    joinK (fun ((j2_bclext06,j2_4,j2_7,j2_8,j2_oext0_7):List Int × Int × Int × Int × Int)=>
    if (j2_8 != 0) then
    some (.inr (j2_bclext06,j2_7,j2_8,j2_oext0_7))
    else
    some (.inl (j2_bclext06,j2_4,(IntKind.i64.wrap (l1_13 + 1)),j2_oext0_7))) fun j_j2=>
    if (x4_0.Kind == 51) then
    (decl_Table_Recs k all p l1_oext0_7 l1_bclext06).bind fun x8_4=>
    (sub x8_4 0 l1_4).bind fun x8_6=>
    (decl_Table_params k x4_0.Kids x8_6 x4_0.Kind all p l1_oext0_7 l1_bclext06).bind fun (x8_9_0,x8_9_1)=>
    j_j2 (l1_bclext06,(IntKind.i64.wrap (l1_4 + 1)),x8_9_0,x8_9_1,l1_oext0_7)
    else
    if (x4_0.Kind == 52) then
    (decl_Table_iso k x4_0 all p l1_oext0_7 l1_bclext06).bind fun (x11_2_0,x11_2_1,x11_2_2,x11_2_3)=>
    j_j2 (x11_2_0,l1_4,x11_2_1,x11_2_2,x11_2_3)
    else
    if (x4_0.Kind == 54) then
    (sub x4_0.Kids 0 3).bind fun x13_3=>
    (decl_Table_Recs k all p l1_oext0_7 l1_bclext06).bind fun x13_5=>
    (decl_Table_params k x13_3 x13_5 x4_0.Kind all p l1_oext0_7 l1_bclext06).bind fun (x13_8_0,x13_8_1)=>
    j_j2 (l1_bclext06,l1_4,x13_8_0,x13_8_1,l1_oext0_7)
    else
    if (x4_0.Kind == 53) then
    (sub x4_0.Kids 0 (IntKind.i64.wrap ((x4_0.Kids.length:Int) - 2))).bind fun x16_4=>
    (decl_Table_Recs k all p l1_oext0_7 l1_bclext06).bind fun x16_6=>
    (decl_Table_params k x16_4 x16_6 x4_0.Kind all p l1_oext0_7 l1_bclext06).bind fun (x16_9_0,x16_9_1)=>
    if (x16_9_1 == 0) then
    (ix x4_0.Kids (IntKind.i64.wrap ((x4_0.Kids.length:Int) - 2))).bind fun x18_3=>
    (decl_Table_Recs k all p l1_oext0_7 l1_bclext06).bind fun x18_6=>
    (decl_typed k x18_3 x18_6 true).bind fun (x18_7_0,x18_7_1)=>
    j_j2 (l1_bclext06,l1_4,x18_7_0,x18_7_1,l1_oext0_7)
    else
    j_j2 (l1_bclext06,l1_4,x16_9_0,x16_9_1,l1_oext0_7)
    else
    j_j2 (l1_bclext06,l1_4,0,0,l1_oext0_7)
    else
    some (.inr (l1_bclext06,0,0,l1_oext0_7)))
    (fun s=>∃ i:Nat,i ≤ ds.length∧s.2.2.1 = (i:Int)∧s.1 = bsS (dk (ds.take i) 52)∧s.2.1 = ((dk (ds.take i) 51).length:Int)∧s.2.2.2 = lsum (dk (ds.take i) 52)∧s.2.2.2 ≤ 256∧chkGo ds ds 0 = chkGo ds (ds.drop i) i)
    (fun s=>ds.length - s.2.2.1.toNat) (fun y=>y.2.1 = (chkGo ds ds 0).1∧y.2.2.1 = (chkGo ds ds 0).2∧((chkGo ds ds 0).2 = 0→y.1 = bsS (dk ds 52)∧y.2.2.2 = lsum (dk ds 52))) ?_ ([],0,0,0) ⟨0,by omega,rfl,rfl,rfl,rfl,by decide,by rw [List.drop_zero]⟩
  · obtain ⟨y,h1,h2⟩:=this
    refine ⟨y,?_,h2⟩
    simp only [decl_Table_stand,joinK,hdecls,Option.bind_some]
    exact Ev.loop h1
  · rintro ⟨bs,ah,t,lc⟩ ⟨i,hi,ht,hbs,hah,hlc,hlc2,hd⟩
    simp only at ht hbs hah hlc hlc2
    subst ht
    by_cases hlt:i < ds.length
    rotate_left
    · refine .inl ⟨_,by simp only [qR,↓reduceIte,Int.reduceBEq,Int.reduceBNe,Int.reduceLT,Int.reduceLE,Int.reduceGT,Int.reduceGE,lt_f (show ds.length ≤ i by omega)]; rfl,?_⟩
      rw [List.drop_of_length_le (by omega)] at hd
      rw [List.take_of_length_le (by omega)] at hbs hlc
      rw [hd]
      exact ⟨rfl,rfl,fun _=>⟨hbs,hlc⟩⟩
    rw [List.drop_eq_getElem_cons hlt] at hd
    have hw:=w_succ (show i ≤ 1000000000 by omega)
    have hmes:ds.length - ((i + 1:Nat):Int).toNat < ds.length - (i:Int).toNat:=by omega
    have hdm:=List.getElem_mem hlt
    have hdes:=h.des ds[i] hdm
    have hbd:=h.bd ds[i] hdm
    have hmid:=take_mid hlt
    have hlc0:0 ≤ lc:=by rw [hlc]; exact (lsum_bd _).1
    have hbl:bs.length ≤ 10000000:=by
      rw [hbs]; unfold bsS
      have:=dk_len (ds.take i) 52
      rw [List.length_take] at this
      simp; omega
    -- what the fault of this one says
    have hno:(oneS ds (ds.take i) ds[i]).2 ≠ 0→chkGo ds ds 0 = oneS ds (ds.take i) ds[i]:=fun e=>by rw [hd,chkGo,if_pos e]
    have hyes:(oneS ds (ds.take i) ds[i]).2 = 0→chkGo ds ds 0 = chkGo ds (ds.drop (i + 1)) (i + 1):=fun e=>by rw [hd,chkGo,if_neg (by simpa using e)]
    generalize hD:ds[i] = D at hdes hbd hno hyes hmid
    have hix:ix ds (i:Int) = some D:=by rw [ix_nat hlt,hD]
    have htk:∀ c,dk (ds.take (i + 1)) c = dk (ds.take i) c ++ dk [D] c:=fun c=>by rw [dk_take hlt,hD]
    -- one that lays no locations
    have fin:∀ (ah':Int) (r:Int × Int),dk [D] 52 = []→ah' = ((dk (ds.take (i + 1)) 51).length:Int)→oneS ds (ds.take i) D = r→
        (∀ (g:Nat→Option ((List Int × Int × Int × Int) ⊕ (List Int × Int × Int × Int))),Ev g (if (r.2 != 0) = true then .inr (bs,r.1,r.2,lc) else .inl (bs,ah',((i + 1:Nat):Int),lc)) →
        (∃ y,Ev g (.inr y)∧(y.2.1 = (chkGo ds ds 0).1∧y.2.2.1 = (chkGo ds ds 0).2∧((chkGo ds ds 0).2 = 0→y.1 = bsS (dk ds 52)∧y.2.2.2 = lsum (dk ds 52)))) ∨
        (∃ s':List Int × Int × Int × Int,Ev g (.inl s')∧(∃ i:Nat,i ≤ ds.length∧s'.2.2.1 = (i:Int)∧s'.1 = bsS (dk (ds.take i) 52)∧s'.2.1 = ((dk (ds.take i) 51).length:Int)∧s'.2.2.2 = lsum (dk (ds.take i) 52)∧s'.2.2.2 ≤ 256∧chkGo ds ds 0 = chkGo ds (ds.drop i) i)∧ds.length - s'.2.2.1.toNat < ds.length - (i:Int).toNat)):=by
      intro ah' r h52 hah' hr g hg
      subst hr
      cases ho:((oneS ds (ds.take i) D).2 != 0) with
      | true=>
        have ho2:(oneS ds (ds.take i) D).2 ≠ 0:=by simpa using ho
        rw [ho] at hg
        refine .inl ⟨_,hg,?_⟩
        rw [hno ho2]
        exact ⟨rfl,rfl,fun e=>absurd e ho2⟩
      | false=>
        have ho2:(oneS ds (ds.take i) D).2 = 0:=by simpa using ho
        rw [ho] at hg
        refine .inr ⟨_,hg,⟨i + 1,by omega,rfl,?_,hah',?_,hlc2,hyes ho2⟩,hmes⟩
        · rw [htk,h52,List.append_nil]; exact hbs
        · rw [htk,h52,List.append_nil]; exact hlc
    by_cases h52:D.Kind = 52
    · obtain ⟨b',l',q,q2⟩:=iso_imp htab h (hD ▸ hdm) h52 p lc bs hlc0 (by omega) hbl
      have e1:oneS ds (ds.take i) D = isoOne ds D (lc + max 1 (min D.N 1000000)):=by
        unfold oneS
        rw [if_neg (by rw [h52]; decide),if_pos h52,lsum_snoc,← hlc]
      rw [← e1] at q q2
      have k1:(D.Kind == 51) = false:=by rw [h52]; rfl
      have k2:(D.Kind == 52) = true:=by rw [h52]; rfl
      cases ho:((oneS ds (ds.take i) D).2 != 0) with
      | true=>
        have ho2:(oneS ds (ds.take i) D).2 ≠ 0:=by simpa using ho
        refine .inl ⟨(b',(oneS ds (ds.take i) D).1,(oneS ds (ds.take i) D).2,l'),by simp only [qR,↓reduceIte,Int.reduceBEq,Int.reduceBNe,Int.reduceLT,Int.reduceLE,Int.reduceGT,Int.reduceGE,lt_t hlt,hix,k1,k2,Ev.bnd q,ho],?_⟩
        rw [hno ho2]
        exact ⟨rfl,rfl,fun e=>absurd e ho2⟩
      | false=>
        have ho2:(oneS ds (ds.take i) D).2 = 0:=by simpa using ho
        obtain ⟨r1,r2,r3⟩:=q2 ho2
        refine .inr ⟨(b',ah,((i + 1:Nat):Int),l'),by simp only [qR,↓reduceIte,Int.reduceBEq,Int.reduceBNe,Int.reduceLT,Int.reduceLE,Int.reduceGT,Int.reduceGE,lt_t hlt,hix,k1,k2,Ev.bnd q,ho,hw],⟨i + 1,by omega,rfl,?_,?_,?_,r3,hyes ho2⟩,hmes⟩
        · show b' = _
          rw [r1,htk,dk_one h52,bsS_snoc,← hbs,← hlc]
        · show ah = _
          rw [hah,htk,dk_other (by rw [h52]; decide) (by decide),List.append_nil]
        · show l' = _
          rw [r2,htk,dk_one h52,lsum_snoc,← hlc]
    cases hdes with
    | recd a s l h0 hpas=>
      have h51:dk [TNode.mk 51 a 0 s l] 51 = [TNode.mk 51 a 0 s l]:=dk_one rfl
      have hsub:sub (dk ds 51) 0 ah = some ((dk ds 51).take (dk (ds.take i) 51).length):=by
        rw [hah]
        refine sub_take _ ?_
        conv=>rhs; rw [hmid]
        rw [dk_split]; simp
      have qp:=params_imp htab ((dk ds 51).take (dk (ds.take i) 51).length) (by rw [List.length_take]; omega) l ⟨hbd.len,hpas,hbd.kid⟩ 51 p lc bs
      have hal:(dk (ds.take i) 51).length ≤ 10000000:=by
        have:=dk_len (ds.take i) 51
        rw [List.length_take] at this
        omega
      have hwa:IntKind.i64.wrap (ah + 1) = ((dk (ds.take (i + 1)) 51).length:Int):=by
        rw [hah,w_succ (by omega),htk,h51]; simp
      refine fin _ _ (dk_other (show (51:Int) ≠ 52 by decide) (by decide)) rfl rfl _ ?_
      have e1:oneS ds (ds.take i) (TNode.mk 51 a 0 s l) = parS ds ((dk ds 51).take (dk (ds.take i) 51).length) l 51:=rfl
      rw [e1]
      cases ho:((parS ds ((dk ds 51).take (dk (ds.take i) 51).length) l 51).2 != 0) <;> simp only [qR,↓reduceIte,Int.reduceBEq,Int.reduceBNe,Int.reduceLT,Int.reduceLE,Int.reduceGT,Int.reduceGE,lt_t hlt,hix,qr,hsub,Ev.bnd qp,hwa,hw,ho]
    | iso1 a n s t hn ht=>exact absurd rfl h52
    | iso2 a n s t mm hn ht=>exact absurd rfl h52
    | fn a s l t b hpas ht hbk=>
      have hlen:(l ++ [t,b]).length ≤ 10000000:=hbd.len
      have hw2:=w_len2 hlen
      have hsub:sub (l ++ [t,b]) 0 (l.length:Int) = some l:=sub_pre l [t,b]
      have hixt:ix (l ++ [t,b]) (l.length:Int) = some t:=ix_mid l t [b]
      have hll:l.length ≤ 10000000:=by simp at hlen; omega
      have qp:=params_imp htab (dk ds 51) hrl l ⟨hll,hpas,fun x hx=>hbd.kid x (by simp [hx])⟩ 53 p lc bs
      have qt:Ev (fun k=>decl_typed k t (dk ds 51) true) (typS (dk ds 51) t true):=by
        rcases ht with ht | ⟨a',rfl⟩
        · exact typed_imp ht _ hrl true
        · exact typed_no_imp a' _ true
      have e1:(TNode.mk 53 a 0 s (l ++ [t,b])).Kids.take ((TNode.mk 53 a 0 s (l ++ [t,b])).Kids.length - 2) = l:=by simp
      have e2:(TNode.mk 53 a 0 s (l ++ [t,b])).Kids.getD ((TNode.mk 53 a 0 s (l ++ [t,b])).Kids.length - 2) (TNode.mk 0 0 0 [] []) = t:=by simp
      have e3:oneS ds (ds.take i) (TNode.mk 53 a 0 s (l ++ [t,b])) = if (parS ds (dk ds 51) l 53).2 ≠ 0 then parS ds (dk ds 51) l 53 else typS (dk ds 51) t true:=by
        unfold oneS
        rw [e1,e2]; rfl
      refine fin ah _ (dk_other (show (53:Int) ≠ 52 by decide) (by decide)) (by rw [hah,htk,dk_other (show (53:Int) ≠ 51 by decide) (by decide),List.append_nil]) rfl _ ?_
      rw [e3]
      by_cases hf:(parS ds (dk ds 51) l 53).2 = 0
      · have e:((parS ds (dk ds 51) l 53).2 == 0) = true:=by simpa using hf
        rw [show (if (parS ds (dk ds 51) l 53).2 ≠ 0 then parS ds (dk ds 51) l 53 else typS (dk ds 51) t true) = typS (dk ds 51) t true from if_neg (by simpa using hf)]
        cases ho:((typS (dk ds 51) t true).2 != 0) <;> simp only [qR,↓reduceIte,Int.reduceBEq,Int.reduceBNe,Int.reduceLT,Int.reduceLE,Int.reduceGT,Int.reduceGE,lt_t hlt,hix,hw2,hsub,qr,Ev.bnd qp,e,hixt,Ev.bnd qt,hw,ho]
      · have e:((parS ds (dk ds 51) l 53).2 == 0) = false:=by simpa using hf
        rw [show (if (parS ds (dk ds 51) l 53).2 ≠ 0 then parS ds (dk ds 51) l 53 else typS (dk ds 51) t true) = parS ds (dk ds 51) l 53 from if_pos hf]
        have ho:((parS ds (dk ds 51) l 53).2 != 0) = true:=by simpa using hf
        simp only [qR,↓reduceIte,Int.reduceBEq,Int.reduceBNe,Int.reduceLT,Int.reduceLE,Int.reduceGT,Int.reduceGE,lt_t hlt,hix,hw2,hsub,qr,Ev.bnd qp,e,hw,ho]
    | mrg a s x y z b hx hy hz hbk=>
      have qp:=params_imp htab (dk ds 51) hrl [x,y,z] ⟨by simp,by simp [hx,hy,hz],fun u hu=>hbd.kid u (by simp at hu ⊢; rcases hu with h | h | h <;> simp [h])⟩ 54 p lc bs
      have hsub:sub [x,y,z,b] 0 3 = some [x,y,z]:=rfl
      refine fin ah _ (dk_other (show (54:Int) ≠ 52 by decide) (by decide)) (by rw [hah,htk,dk_other (show (54:Int) ≠ 51 by decide) (by decide),List.append_nil]) rfl _ ?_
      have e1:oneS ds (ds.take i) (TNode.mk 54 a 0 s [x,y,z,b]) = parS ds (dk ds 51) [x,y,z] 54:=rfl
      rw [e1]
      cases ho:((parS ds (dk ds 51) [x,y,z] 54).2 != 0) <;> simp only [qR,↓reduceIte,Int.reduceBEq,Int.reduceBNe,Int.reduceLT,Int.reduceLE,Int.reduceGT,Int.reduceGE,lt_t hlt,hix,hsub,qr,Ev.bnd qp,hw,ho]
theorem of_ev {p m:TNode} {ds:List TNode} (hp:p.Kids = ds ++ [m]) (hpl:p.Kids.length ≤ 10000000) (h:DsOk ds) (ht:Ev (fun k=>tree_Prog k p) true) :
    if (chkS ds).2 = 0 then ∃ t:Tdecl_Table,Ev (fun k=>decl_Of k p) (some t,0,0)∧TabOk t.all_ ds∧t.prog = p∧t.base = bsS (dk ds 52)∧t.locs = lsum (dk ds 52)
    else Ev (fun k=>decl_Of k p) (none,(chkS ds).1,(chkS ds).2):=by
  obtain ⟨⟨b0,b1,b2,b3,a1,w1,o2,o3,o4,o5⟩,q,hq⟩:=names_ev hp hpl h
  unfold NmRes at hq
  unfold chkS
  cases hd:dupGo ds ds 0 with
  | some a=>
    rw [hd] at hq
    obtain ⟨e1,e2⟩:=hq
    simp only at e1 e2
    subst e1 e2
    rw [if_neg (by decide:¬ ((6:Int) = 0))]
    simp only [qR,↓reduceIte,Int.reduceBEq,Int.reduceBNe,Int.reduceLT,Int.reduceLE,Int.reduceGT,Int.reduceGE,decl_Of,Ev.bnd ht,Ev.bnd q]
  | none=>
    rw [hd] at hq
    obtain ⟨e1,e2,hn⟩:=hq
    simp only at e1 e2 hn
    subst e1 e2
    have htab:TabOk [(51,(Tdecl_kinds.mk b0 o2)),(52,(Tdecl_kinds.mk b1 o3)),(53,(Tdecl_kinds.mk b2 o4)),(54,(Tdecl_kinds.mk b3 o5))] ds:=by
      obtain ⟨x0,x1,x2,x3,y0,y1,y2,y3⟩:=hn
      subst x0 x1 x2 x3
      refine ⟨h.four,fun c hc=>?_⟩
      rcases hc with rfl | rfl | rfl | rfl
      · exact ⟨o2,rfl,y0⟩
      · exact ⟨o3,rfl,y1⟩
      · exact ⟨o4,rfl,y2⟩
      · exact ⟨o5,rfl,y3⟩
    obtain ⟨⟨bs,a2,w2,lc⟩,q2,f1,f2,f3⟩:=stand_ev hp hpl h htab
    simp only at f1 f2 f3
    subst f1 f2
    by_cases hz:(chkGo ds ds 0).2 = 0
    · obtain ⟨f4,f5⟩:=f3 hz
      rw [if_pos hz]
      have e:((chkGo ds ds 0).2 != 0) = false:=by simpa using hz
      refine ⟨Tdecl_Table.mk [(51,(Tdecl_kinds.mk b0 o2)),(52,(Tdecl_kinds.mk b1 o3)),(53,(Tdecl_kinds.mk b2 o4)),(54,(Tdecl_kinds.mk b3 o5))] p bs lc,?_,htab,rfl,f4,f5⟩
      simp only [qR,↓reduceIte,Int.reduceBEq,Int.reduceBNe,Int.reduceLT,Int.reduceLE,Int.reduceGT,Int.reduceGE,decl_Of,Ev.bnd ht,Ev.bnd q,Ev.bnd q2,e]
    · rw [if_neg hz]
      have e:((chkGo ds ds 0).2 != 0) = true:=by simpa using hz
      simp only [qR,↓reduceIte,Int.reduceBEq,Int.reduceBNe,Int.reduceLT,Int.reduceLE,Int.reduceGT,Int.reduceGE,decl_Of,Ev.bnd ht,Ev.bnd q,Ev.bnd q2,e]
end Go.Proofs.YtjojaiomgdjhfaaGreatDoor.F
namespace Go.Proofs.YtjojaiomgdjhfaaGreatDoor.F
open Go
def bod (l:List TNode):List TNode:=l.filter fun d=>(d.Kind != 51) && (d.Kind != 52)
inductive BoS:TNode→Prop
  | fn (a:Int) (s:List UInt8) (l:List TNode) (t b:TNode) (h:∀ x ∈ l,PaS x) (ht:TyS t ∨ ∃ a,t = TNode.mk 0 a 0 [] []) (hb:b.Kind = 30):BoS (TNode.mk 53 a 0 s (l ++ [t,b]))
  | mrg (a:Int) (s:List UInt8) (x y z b:TNode) (hx:PaS x) (hy:PaS y) (hz:PaS z) (hb:b.Kind = 30):BoS (TNode.mk 54 a 0 s [x,y,z,b])
  | main (n:TNode) (hk:n.Kind = 30):BoS n
theorem bod_s {ds:List TNode} {m:TNode} (h:DsOk ds) (hm:m.Kind = 30) (hbm:Bd m):∀ x ∈ bod (ds ++ [m]),BoS x∧Bd x:=by
  intro x hx
  obtain ⟨hx,hk⟩:=List.mem_filter.1 hx
  rcases List.mem_append.1 hx with hx | hx
  · have hb:=h.bd x hx
    refine ⟨?_,hb⟩
    cases h.des x hx with
    | recd=>simp at hk
    | iso1=>simp at hk
    | iso2=>simp at hk
    | fn a s l t b hp ht h30=>exact BoS.fn a s l t b hp ht h30
    | mrg a s x y z b h1 h2 h3 h30=>exact BoS.mrg a s x y z b h1 h2 h3 h30
  · rw [List.mem_singleton] at hx
    subst hx
    exact ⟨BoS.main x hm,hbm⟩
theorem bod_len (l:List TNode):(bod l).length ≤ l.length:=List.length_filter_le _ _
theorem bodies_ref {p:TNode} (hl:p.Kids.length ≤ 10000000):Ev (fun k=>ref18_Bodies k p) (bod p.Kids):=by
  simp only [ref18_Bodies,joinK]
  refine Ev.loop (EvL.cast (forS (σ:=List TNode) p.Kids (fun i s=>(s,(i:Int))) (fun r _ s=>s ++ bod r) (fun i s=>s.length ≤ i) (fun i hi s hs=>?_) (fun s hs=>?_) [] (by simp)) (List.nil_append _))
  · have hr:room 64 (s.length + [p.Kids[i]].length) = true:=room_of (by omega) (by simp; omega)
    have hw:=w_succ (show i ≤ 1000000000 by omega)
    have hix:=ix_nat hi
    cases h1:(p.Kids[i].Kind != 51) <;> cases h2:(p.Kids[i].Kind != 52)
    · exact .inr ⟨s,by simp only [qR,↓reduceIte,Int.reduceBEq,Int.reduceBNe,Int.reduceLT,Int.reduceLE,Int.reduceGT,Int.reduceGE,lt_t hi,hix,h1,hw],by omega,by unfold bod; rw [List.filter_cons,h1]; simp⟩
    · exact .inr ⟨s,by simp only [qR,↓reduceIte,Int.reduceBEq,Int.reduceBNe,Int.reduceLT,Int.reduceLE,Int.reduceGT,Int.reduceGE,lt_t hi,hix,h1,hw],by omega,by unfold bod; rw [List.filter_cons,h1]; simp⟩
    · exact .inr ⟨s,by simp only [qR,↓reduceIte,Int.reduceBEq,Int.reduceBNe,Int.reduceLT,Int.reduceLE,Int.reduceGT,Int.reduceGE,lt_t hi,hix,h1,h2,hw],by omega,by unfold bod; rw [List.filter_cons,h1,h2]; simp⟩
    · exact .inr ⟨s ++ [p.Kids[i]],by simp only [qR,↓reduceIte,Int.reduceBEq,Int.reduceBNe,Int.reduceLT,Int.reduceLE,Int.reduceGT,Int.reduceGE,lt_t hi,hix,h1,h2,hr,hw],by simp; omega,by unfold bod; rw [List.filter_cons,h1,h2]; simp⟩
  · simp only [qR,↓reduceIte,Int.reduceBEq,Int.reduceBNe,Int.reduceLT,Int.reduceLE,Int.reduceGT,Int.reduceGE,lt_f (Nat.le_refl p.Kids.length)]; simp [bod]
theorem bodies_imp {t:Tdecl_Table} (hl:t.prog.Kids.length ≤ 10000000):Ev (fun k=>decl_Table_Bodies k (some t)) (bod t.prog.Kids):=by
  simp only [decl_Table_Bodies,joinK,Option.isNone_some,Bool.false_eq_true,if_false,Option.bind_some]
  refine Ev.loop (EvL.cast (forS (σ:=List TNode) t.prog.Kids (fun i s=>(s,(i:Int))) (fun r _ s=>s ++ bod r) (fun i s=>s.length ≤ i) (fun i hi s hs=>?_) (fun s hs=>?_) [] (by simp)) (List.nil_append _))
  · have hr:room 64 (s.length + [t.prog.Kids[i]].length) = true:=room_of (by omega) (by simp; omega)
    have hw:=w_succ (show i ≤ 1000000000 by omega)
    have hix:=ix_nat hi
    cases h1:((t.prog.Kids[i].Kind != 51) && (t.prog.Kids[i].Kind != 52))
    · exact .inr ⟨s,by simp only [qR,↓reduceIte,Int.reduceBEq,Int.reduceBNe,Int.reduceLT,Int.reduceLE,Int.reduceGT,Int.reduceGE,lt_t hi,hix,h1,hw],by omega,by unfold bod; rw [List.filter_cons,h1]; simp⟩
    · exact .inr ⟨s ++ [t.prog.Kids[i]],by simp only [qR,↓reduceIte,Int.reduceBEq,Int.reduceBNe,Int.reduceLT,Int.reduceLE,Int.reduceGT,Int.reduceGE,lt_t hi,hix,h1,hr,hw],by simp; omega,by unfold bod; rw [List.filter_cons,h1]; simp⟩
  · simp only [qR,↓reduceIte,Int.reduceBEq,Int.reduceBNe,Int.reduceLT,Int.reduceLE,Int.reduceGT,Int.reduceGE,lt_f (Nat.le_refl t.prog.Kids.length)]; simp [bod]
def ansS (n:TNode):TNode:=if n.Kind = 53 then n.Kids.getD (n.Kids.length - 2) (TNode.mk 0 0 0 [] []) else if n.Kind = 54 then tyOf (tyOf n) else TNode.mk 0 0 0 [] []
def blkS (n:TNode):TNode:=if n.Kind = 30 then n else n.Kids.getD (n.Kids.length - 1) (TNode.mk 0 0 0 [] [])
def getS:List Tref19_Name→List UInt8→Int
  | [],_=>-1
  | x :: r,s=>if x.Name == s then 0 else if getS r s < 0 then -1 else getS r s + 1
theorem getS_ge:∀ (l:List Tref19_Name) (s:List UInt8),-1 ≤ getS l s∧getS l s < l.length
  | [],s=>by simp [getS]
  | x :: r,s=>by
    have:=getS_ge r s
    unfold getS
    split
    · simp
    · split <;> simp <;> omega
theorem get_ev (l:List Tref19_Name) (hl:l.length ≤ 10000000) (s:List UInt8):Ev (fun k=>ref19_Get k l s) (getS l s):=by
  simp only [ref19_Get,joinK]
  refine Ev.loop (EvL.cast (forI l (fun r i=>if getS r s < 0 then -1 else getS r s + (i:Int)) (fun i hi=>?_) ?_) ?_)
  · have hw:=w_succ (show i ≤ 1000000000 by omega)
    cases h1:(l[i].Name == s)
    · refine .inr ⟨by simp only [qR,↓reduceIte,Int.reduceBEq,Int.reduceBNe,Int.reduceLT,Int.reduceLE,Int.reduceGT,Int.reduceGE,lt_t hi,ix_nat hi,h1,hw],?_⟩
      have:=(getS_ge (l.drop (i + 1)) s).1
      have e:getS (l[i] :: l.drop (i + 1)) s = if getS (l.drop (i + 1)) s < 0 then -1 else getS (l.drop (i + 1)) s + 1:=by rw [getS,h1,if_neg (by simp)]
      by_cases h:getS (l.drop (i + 1)) s < 0
      · rw [if_pos h] at e
        rw [e,if_pos (by omega),if_pos h]
      · rw [if_neg h] at e
        rw [e,if_neg (by omega),if_neg h]; omega
    · exact .inl ⟨(i:Int),by simp only [qR,↓reduceIte,Int.reduceBEq,Int.reduceBNe,Int.reduceLT,Int.reduceLE,Int.reduceGT,Int.reduceGE,lt_t hi,ix_nat hi,h1],by
        have e:getS (l[i] :: l.drop (i + 1)) s = 0:=by rw [getS,h1]; rfl
        rw [e,if_neg (by omega)]; omega⟩
  · simp only [qR,↓reduceIte,Int.reduceBEq,Int.reduceBNe,Int.reduceLT,Int.reduceLE,Int.reduceGT,Int.reduceGE,lt_f (Nat.le_refl l.length)]; rfl
  · have:=(getS_ge l s).1
    by_cases h:getS l s < 0
    · rw [if_pos h]; omega
    · rw [if_neg h]; omega
def parNs:List TNode→List Tref19_Name→List Tref19_Name
  | [],o=>o
  | p :: r,o=>parNs r (if getS o p.Name < 0 then o ++ [Tref19_Name.mk p.Name (tyOf p) 1] else o)
theorem parns_loop (ps rest:List TNode) (hl:(ps ++ rest).length ≤ 10000000) (hp:∀ x ∈ ps,PaS x) (n:Int) (hn:n = (ps.length:Int)) (t:TNode):EvL (fun k ((l3_4,l3_7):List Tref19_Name × Int)=>
    if (decide (l3_7 < n)) then
    (ix (ps ++ rest) l3_7).bind fun x13_4=>
    (ref19_Get k l3_4 x13_4.Name).bind fun x13_7=>
    if (decide (x13_7 < 0)) then
    (ix (ps ++ rest) l3_7).bind fun x14_4=>
    (ix (ps ++ rest) l3_7).bind fun x14_10=>
    (ix x14_10.Kids 0).bind fun x14_13=>
    if (room 88 (l3_4.length + [(Tref19_Name.mk x14_4.Name x14_13 1)].length)) then
    some (.inl ((l3_4 ++ [(Tref19_Name.mk x14_4.Name x14_13 1)]),(IntKind.i64.wrap (l3_7 + 1))))
    else none
    else
    some (.inl (l3_4,(IntKind.i64.wrap (l3_7 + 1))))
    else
    some (.inr (l3_4,t))) ([],0) (parNs ps [],t):=by
  subst hn
  have hlp:ps.length ≤ 10000000:=by simp at hl; omega
  refine forS (σ:=List Tref19_Name) ps (fun i s=>(s,(i:Int))) (fun r _ s=>(parNs r s,t)) (fun i s=>s.length ≤ i) (fun i hi s hs=>?_) (fun s hs=>?_) [] (by simp)
  · have hr:∀ z:Tref19_Name,room 88 (s.length + [z].length) = true:=fun z=>room_of (by omega) (by simp; omega)
    have hw:=w_succ (show i ≤ 1000000000 by omega)
    have hix:ix (ps ++ rest) (i:Int) = some ps[i]:=by rw [ix_nat (by simp; omega),List.getElem_append_left hi]
    have qg:=get_ev s (by omega) ps[i].Name
    have hty:=(hp ps[i] (List.getElem_mem hi)).ty
    cases h1:decide (getS s ps[i].Name < 0)
    · exact .inr ⟨s,by simp only [qR,↓reduceIte,Int.reduceBEq,Int.reduceBNe,Int.reduceLT,Int.reduceLE,Int.reduceGT,Int.reduceGE,lt_t hi,hix,Ev.bnd qg,h1,hw],by omega,by rw [parNs,if_neg (by simpa using h1)]⟩
    · exact .inr ⟨s ++ [Tref19_Name.mk ps[i].Name (tyOf ps[i]) 1],by simp only [qR,↓reduceIte,Int.reduceBEq,Int.reduceBNe,Int.reduceLT,Int.reduceLE,Int.reduceGT,Int.reduceGE,lt_t hi,hix,Ev.bnd qg,h1,hty.1,hr,hw],by simp; omega,by rw [parNs,if_pos (by simpa using h1)]⟩
  · simp only [qR,↓reduceIte,Int.reduceBEq,Int.reduceBNe,Int.reduceLT,Int.reduceLE,Int.reduceGT,Int.reduceGE,lt_f (Nat.le_refl ps.length)]; rfl
theorem params_ev2 {n:TNode} (h:BoS n) (hb:Bd n):∃ ns,Ev (fun k=>ref20_Params k n) (ns,ansS n):=by
  cases h with
  | fn a s l t b hp ht hbk=>
    have hlen:(l ++ [t,b]).length ≤ 10000000:=hb.len
    have hw:=w_len2 hlen
    have hix:ix (l ++ [t,b]) (l.length:Int) = some t:=ix_mid l t [b]
    have ea:ansS (TNode.mk 53 a 0 s (l ++ [t,b])) = t:=by unfold ansS; simp
    refine ⟨parNs l [],?_⟩
    rw [ea]
    simp only [qR,↓reduceIte,Int.reduceBEq,Int.reduceBNe,Int.reduceLT,Int.reduceLE,Int.reduceGT,Int.reduceGE,ref20_Params,hw,hix]
    have:=parns_loop l [t,b] hlen hp (l.length:Int) rfl
    exact Ev.loop (this t)
  | mrg a s x y z b hx hy hz hbk=>
    refine ⟨parNs [x,y,z] [],?_⟩
    have ea:ansS (TNode.mk 54 a 0 s [x,y,z,b]) = tyOf x:=rfl
    rw [ea]
    simp only [qR,↓reduceIte,Int.reduceBEq,Int.reduceBNe,Int.reduceLT,Int.reduceLE,Int.reduceGT,Int.reduceGE,ref20_Params,hx.ty.1]
    exact Ev.loop (parns_loop [x,y,z] [b] hb.len (by simp [hx,hy,hz]) 3 rfl (tyOf x))
  | main n hk=>
    have k1:(n.Kind == 53) = false:=by rw [hk]; rfl
    have k2:(n.Kind == 54) = false:=by rw [hk]; rfl
    have ea:ansS n = TNode.mk 0 0 0 [] []:=by unfold ansS; rw [hk]; rfl
    refine ⟨parNs [] [],?_⟩
    rw [ea]
    simp only [qR,↓reduceIte,Int.reduceBEq,Int.reduceBNe,Int.reduceLT,Int.reduceLE,Int.reduceGT,Int.reduceGE,ref20_Params,k1,k2]
    exact Ev.loop (EvL.done (by simp only [qR,↓reduceIte,Int.reduceBEq,Int.reduceBNe,Int.reduceLT,Int.reduceLE,Int.reduceGT,Int.reduceGE,parNs]))
theorem block_ix {n:TNode} (h:BoS n) (hb:Bd n) (k:Nat):ref20_Block k n = some (blkS n)∧Bd (blkS n)∧(blkS n).Kind = 30:=by
  cases h with
  | fn a s l t b hp ht hbk=>
    have hlen:(l ++ [t,b]).length ≤ 10000000:=hb.len
    have e:blkS (TNode.mk 53 a 0 s (l ++ [t,b])) = b:=by unfold blkS; simp
    rw [e]
    refine ⟨?_,hb.kid b (by simp),hbk⟩
    unfold ref20_Block
    rw [if_neg (by simp)]
    show (ix (l ++ [t,b]) (IntKind.i64.wrap (((l ++ [t,b]).length:Int) - 1))).bind (fun x=>some x) = some b
    rw [w_len21 hlen,ix_mid1 l t b []]; rfl
  | mrg a s x y z b hx hy hz hbk=>exact ⟨rfl,hb.kid b (by simp),hbk⟩
  | main n hk=>
    have e:blkS n = n:=by unfold blkS; rw [if_pos hk]
    rw [e]
    refine ⟨?_,hb,hk⟩
    unfold ref20_Block
    rw [if_pos (by simpa using hk)]
def endB (n:TNode):Bool:=((ansS n).Kind == 0) || enS (blkS n)
theorem TyS.kind {n:TNode} (h:TyS n):(n.Kind == 0) = false:=by
  cases h with
  | base kd a h=>rcases h with rfl | rfl | rfl <;> rfl
  | nam a s=>rfl
  | arr a x h=>rfl
theorem body_ev {n:TNode} (h:BoS n) (hb:Bd n):Ev (fun k=>ends_Body k n) (endB n):=by
  have hbl:=(block_ix h hb 0).2.1
  have qe:=ends_ev hbl
  unfold endB
  cases h with
  | fn a s l t b hp ht hbk=>
    have hlen:(l ++ [t,b]).length ≤ 10000000:=hb.len
    have e:blkS (TNode.mk 53 a 0 s (l ++ [t,b])) = b:=by unfold blkS; simp
    have ea:ansS (TNode.mk 53 a 0 s (l ++ [t,b])) = t:=by unfold ansS; simp
    rw [e] at qe
    rw [e,ea]
    have hx1:ix (l ++ [t,b]) ((l.length + 1:Nat):Int) = some b:=ix_mid1 l t b []
    have hll:l.length ≤ 10000000:=by simp at hlen; omega
    have hx2:ix (l ++ [t,b]) (l.length:Int) = some t:=ix_mid l t [b]
    have e3:decide (((l.length + 1:Nat):Int) ≥ 1) = true:=by simp; omega
    have hbn:(t.Kind != 0) = !(t.Kind == 0):=rfl
    cases hk:(t.Kind == 0) with
    | true=>simp only [qR,↓reduceIte,Int.reduceBEq,Int.reduceBNe,Int.reduceLT,Int.reduceLE,Int.reduceGT,Int.reduceGE,ends_Body,w_len21 hlen,e3,w_back hll,hx2,hbn,hk]
    | false=>simp only [qR,↓reduceIte,Int.reduceBEq,Int.reduceBNe,Int.reduceLT,Int.reduceLE,Int.reduceGT,Int.reduceGE,ends_Body,w_len21 hlen,e3,w_back hll,hx2,hbn,hk,hx1,Ev.bnd qe]
  | mrg a s x y z b hx hy hz hbk=>
    have e:blkS (TNode.mk 54 a 0 s [x,y,z,b]) = b:=rfl
    have ea:ansS (TNode.mk 54 a 0 s [x,y,z,b]) = tyOf x:=rfl
    rw [e] at qe
    rw [e,ea,hx.ty.2.kind]
    have hw:IntKind.i64.wrap ((4:Int) - 1) = 3:=rfl
    simp only [qR,↓reduceIte,Int.reduceBEq,Int.reduceBNe,Int.reduceLT,Int.reduceLE,Int.reduceGT,Int.reduceGE,ends_Body,hw,Ev.bnd qe]
  | main n hk=>
    have k1:(n.Kind == 53) = false:=by rw [hk]; rfl
    have k2:(n.Kind == 54) = false:=by rw [hk]; rfl
    have ea:ansS n = TNode.mk 0 0 0 [] []:=by unfold ansS; rw [hk]; rfl
    rw [ea]
    simp only [qR,↓reduceIte,Int.reduceBEq,Int.reduceBNe,Int.reduceLT,Int.reduceLE,Int.reduceGT,Int.reduceGE,ends_Body,k1,k2]
def endAll:List TNode→Int × Int
  | []=>(0,0)
  | n :: r=>if endB n = false then (n.At,9) else endAll r
theorem ends_all {t:Tdecl_Table} (hl:t.prog.Kids.length ≤ 10000000) (h:∀ x ∈ bod t.prog.Kids,BoS x∧Bd x):Ev (fun k=>ends_All k (some t)) (endAll (bod t.prog.Kids)):=by
  have hbl:=bod_len t.prog.Kids
  generalize hB:bod t.prog.Kids = B at h hbl
  have qb:=bodies_imp hl
  rw [hB] at qb
  simp only [ends_All,joinK]
  refine Ev.bind qb (Ev.loop (forI B (fun r _=>endAll r) (fun i hi=>?_) ?_))
  · obtain ⟨h1,h2⟩:=h B[i] (List.getElem_mem hi)
    have q:=body_ev h1 h2
    have hw:=w_succ (show i ≤ 1000000000 by omega)
    cases he:endB B[i]
    · exact .inl ⟨_,by simp only [qR,↓reduceIte,Int.reduceBEq,Int.reduceBNe,Int.reduceLT,Int.reduceLE,Int.reduceGT,Int.reduceGE,lt_t hi,ix_nat hi,Ev.bnd q,he]; rfl,by rw [endAll,if_pos he]⟩
    · exact .inr ⟨by simp only [qR,↓reduceIte,Int.reduceBEq,Int.reduceBNe,Int.reduceLT,Int.reduceLE,Int.reduceGT,Int.reduceGE,lt_t hi,ix_nat hi,Ev.bnd q,he,hw],by rw [endAll,if_neg (by rw [he]; simp)]⟩
  · simp only [qR,↓reduceIte,Int.reduceBEq,Int.reduceBNe,Int.reduceLT,Int.reduceLE,Int.reduceGT,Int.reduceGE,lt_f (Nat.le_refl B.length)]; rfl
theorem ref_all {p:TNode} (hl:p.Kids.length ≤ 10000000) (h:∀ x ∈ bod p.Kids,BoS x∧Bd x):Ev (fun k=>ref21_All k p) (Tref18_Fault.mk (endAll (bod p.Kids)).1 (endAll (bod p.Kids)).2):=by
  have hbl:=bod_len p.Kids
  have qb:=bodies_ref hl
  generalize hB:bod p.Kids = B at h hbl qb
  simp only [ref21_All,joinK]
  refine Ev.bind qb (Ev.loop (forI B (fun r _=>Tref18_Fault.mk (endAll r).1 (endAll r).2) (fun i hi=>?_) ?_))
  · obtain ⟨h1,h2⟩:=h B[i] (List.getElem_mem hi)
    obtain ⟨ns,q⟩:=params_ev2 h1 h2
    have qk:=fun k=>(block_ix h1 h2 k).1
    have qe:=ref21_ev (block_ix h1 h2 0).2.1
    have hw:=w_succ (show i ≤ 1000000000 by omega)
    have hbn:((ansS B[i]).Kind != 0) = !((ansS B[i]).Kind == 0):=rfl
    cases he:endB B[i]
    · have he2:=he
      unfold endB at he2
      simp only [Bool.or_eq_false_iff] at he2
      exact .inl ⟨Tref18_Fault.mk B[i].At 9,by simp only [qR,↓reduceIte,Int.reduceBEq,Int.reduceBNe,Int.reduceLT,Int.reduceLE,Int.reduceGT,Int.reduceGE,lt_t hi,ix_nat hi,Ev.bnd q,hbn,he2.1,qk,Ev.bnd qe,he2.2],by rw [endAll,if_pos he]⟩
    · have he2:=he
      unfold endB at he2
      refine .inr ⟨?_,by rw [endAll,if_neg (by rw [he]; simp)]⟩
      cases hz:((ansS B[i]).Kind == 0) with
      | true=>simp only [qR,↓reduceIte,Int.reduceBEq,Int.reduceBNe,Int.reduceLT,Int.reduceLE,Int.reduceGT,Int.reduceGE,lt_t hi,ix_nat hi,Ev.bnd q,hbn,hz,hw]
      | false=>
        rw [hz,Bool.false_or] at he2
        simp only [qR,↓reduceIte,Int.reduceBEq,Int.reduceBNe,Int.reduceLT,Int.reduceLE,Int.reduceGT,Int.reduceGE,lt_t hi,ix_nat hi,Ev.bnd q,hbn,hz,qk,Ev.bnd qe,he2,hw]
  · simp only [qR,↓reduceIte,Int.reduceBEq,Int.reduceBNe,Int.reduceLT,Int.reduceLE,Int.reduceGT,Int.reduceGE,lt_f (Nat.le_refl B.length)]; rfl
theorem works21 (k:Nat):law21_works (k + 100) = some true:=by kernel_rfl
theorem works21_ev:Ev (fun k=>law21_works k) true:=Ev.at 100 works21
theorem tell_ev (p:TNode) (hsz:(walkS p).length ≤ 10000000):Ev (fun k=>law21_EndsTell k p) true:=by
  have hb:=bd_of p hsz
  have qw:=works21_ev
  have qk:=walk_ev hb hsz
  have hlen:=hb.len
  cases hf:decide (((walkS p).length:Int) > 2500) with
  | true=>
    have qf:Ev (fun k=>law20_Fits k p) 0:=by simp only [qR,↓reduceIte,Int.reduceBEq,Int.reduceBNe,Int.reduceLT,Int.reduceLE,Int.reduceGT,Int.reduceGE,law20_Fits,Ev.bnd qk,hf]
    simp only [qR,↓reduceIte,Int.reduceBEq,Int.reduceBNe,Int.reduceLT,Int.reduceLE,Int.reduceGT,Int.reduceGE,law21_EndsTell,Ev.bnd qw,Ev.bnd qf]
  | false=>
  have qf:Ev (fun k=>law20_Fits k p) 1:=by simp only [qR,↓reduceIte,Int.reduceBEq,Int.reduceBNe,Int.reduceLT,Int.reduceLE,Int.reduceGT,Int.reduceGE,law20_Fits,Ev.bnd qk,hf]
  obtain ⟨b,qp,hp⟩:=prog_ok hb
  cases b with
  | false=>simp only [qR,↓reduceIte,Int.reduceBEq,Int.reduceBNe,Int.reduceLT,Int.reduceLE,Int.reduceGT,Int.reduceGE,law21_EndsTell,Ev.bnd qw,Ev.bnd qf,Ev.bnd qp]
  | true=>
  obtain ⟨ht,ds,m,hs⟩:=hp rfl
  have hds:DsOk ds:=by
    have hk:=hs.kids
    rw [hk] at hlen
    refine ⟨by simp at hlen; omega,hs.decl,fun d hd=>hb.kid d (by rw [hk]; simp [hd])⟩
  have hbm:Bd m:=hb.kid m (by rw [hs.kids]; simp)
  have hbod:=bod_s hds hs.blk hbm
  rw [← hs.kids] at hbod
  have qc:=check_ev hs.kids hds
  have qo:=of_ev hs.kids hlen hds ht
  have qb:=bodies_ref hlen
  have qr:=ref_all hlen hbod
  simp only [qR,↓reduceIte,Int.reduceBEq,Int.reduceBNe,Int.reduceLT,Int.reduceLE,Int.reduceGT,Int.reduceGE,law21_EndsTell,Ev.bnd qw,Ev.bnd qf,Ev.bnd qp,Ev.bnd qk]
  -- the rounds over all nodes
  have hW:∀ x ∈ walkS p,Bd x:=walk_bd hb
  refine Ev.loop (EvL.cast (forI (ρ:=Bool) (walkS p) (fun _ _=>true) (fun i hi=>?_) ?_) rfl)
  · have hbi:=hW _ (List.getElem_mem hi)
    have q1:=(stmt_ok hbi).ev
    have q2:=ends_ev hbi
    have q3:=ref21_ev hbi
    have hw:=w_succ (show i ≤ 1000000000 by omega)
    refine .inr ⟨?_,rfl⟩
    cases hc:ch ref11_Stmt (walkS p)[i] with
    | true=>simp only [qR,↓reduceIte,Int.reduceBEq,Int.reduceBNe,Int.reduceLT,Int.reduceLE,Int.reduceGT,Int.reduceGE,lt_t hi,ix_nat hi,Ev.bnd q1,hc,Ev.bnd q2,Ev.bnd q3,hw]
    | false=>simp only [qR,↓reduceIte,Int.reduceBEq,Int.reduceBNe,Int.reduceLT,Int.reduceLE,Int.reduceGT,Int.reduceGE,lt_t hi,ix_nat hi,Ev.bnd q1,hc,hw]
  · refine Ev.ite_f (lt_f (Nat.le_refl _)) (Ev.map ?_)
    by_cases hz:(chkS ds).2 = 0
    rotate_left
    · have e:((chkS ds).2 != 0) = true:=by simpa using hz
      simp only [qR,↓reduceIte,Int.reduceBEq,Int.reduceBNe,Int.reduceLT,Int.reduceLE,Int.reduceGT,Int.reduceGE,Ev.bnd qc,e]
    have e:((chkS ds).2 != 0) = false:=by simpa using hz
    rw [if_pos hz] at qo
    obtain ⟨t,qt,_,htp,_,_⟩:=qo
    have qa:=ends_all (t:=t) (by rw [htp]; exact hlen) (by rw [htp]; exact hbod)
    rw [htp] at qa
    simp only [qR,↓reduceIte,Int.reduceBEq,Int.reduceBNe,Int.reduceLT,Int.reduceLE,Int.reduceGT,Int.reduceGE,Ev.bnd qc,e,Ev.bnd qt,Ev.bnd qa,Ev.bnd qr,Ev.bnd qb]
    generalize hB:bod p.Kids = B at hbod
    have hbl:B.length ≤ 10000000:=by
      have:=bod_len p.Kids
      rw [hB] at this; omega
    refine Ev.loop (EvL.cast (forI (ρ:=Bool) B (fun _ _=>true) (fun i hi=>?_) ?_) rfl)
    · obtain ⟨h1,h2⟩:=hbod B[i] (List.getElem_mem hi)
      obtain ⟨ns,q⟩:=params_ev2 h1 h2
      have qk:=fun k=>(block_ix h1 h2 k).1
      have qe:=ref21_ev (block_ix h1 h2 0).2.1
      have q4:=body_ev h1 h2
      have hw:=w_succ (show i ≤ 1000000000 by omega)
      refine .inr ⟨?_,rfl⟩
      unfold endB at q4
      cases hz:((ansS B[i]).Kind == 0) with
      | true=>
        rw [hz,Bool.true_or] at q4
        simp only [qR,↓reduceIte,Int.reduceBEq,Int.reduceBNe,Int.reduceLT,Int.reduceLE,Int.reduceGT,Int.reduceGE,lt_t hi,ix_nat hi,Ev.bnd q,Ev.bnd q4,hz,hw]
      | false=>
        rw [hz,Bool.false_or] at q4
        simp only [qR,↓reduceIte,Int.reduceBEq,Int.reduceBNe,Int.reduceLT,Int.reduceLE,Int.reduceGT,Int.reduceGE,lt_t hi,ix_nat hi,Ev.bnd q,Ev.bnd q4,hz,qk,Ev.bnd qe,hw]
    · simp only [qR,↓reduceIte,Int.reduceBEq,Int.reduceBNe,Int.reduceLT,Int.reduceLE,Int.reduceGT,Int.reduceGE,lt_f (Nat.le_refl B.length)]
theorem tell_ex (p:TNode) (hsz:(walkS p).length ≤ 10000000):∃ k,law21_EndsTell k p = some true:=by
  obtain ⟨k,h⟩:=tell_ev p hsz
  exact ⟨k,h k (Nat.le_refl k)⟩
end Go.Proofs.YtjojaiomgdjhfaaGreatDoor.F
namespace Go.Proofs.YtjojaiomgdjhfaaGreatDoor.AE
open Go
section
variable {H:Type}
theorem Dwf.inv_int {tb:List TI} {t:TypeId} {d:DataW H} {k:IntKind} (h:Dwf tb t d) (hd:descOf tb t = some (.int k)):∃ n,d = .lit (.int k n)∧(Lit.int k n).wf = true:=by
  cases h with
  | int h hw=>rw [hd] at h; cases h; exact ⟨_,rfl,hw⟩
  | bool h=>rw [hd] at h; cases h
  | str h _=>rw [hd] at h; cases h
  | nilp h=>rw [hd] at h; cases h
  | nils h=>rw [hd] at h; cases h
  | ptr h _=>rw [hd] at h; cases h
  | slice h _ _=>rw [hd] at h; cases h
  | struct h _ _=>rw [hd] at h; cases h
  | array h _ _=>rw [hd] at h; cases h
def dI:DataW H→Int
  | .lit (.int _ n)=>n
  | _=>0
theorem t3:descOf tab 3 = some (.int .i64):=by kernel_rfl
theorem s3:sizeD tab 3 = 1:=by kernel_rfl
theorem p3 (cs:List AV):pack tab 3 cs = cs.headD .undef:=by kernel_rfl
end
end Go.Proofs.YtjojaiomgdjhfaaGreatDoor.AE
namespace Go.Proofs.YtjojaiomgdjhfaaGreatDoor.AE
open Go F
section
variable {H:Type}
theorem Dwf.inv_str {tb:List TI} {t:TypeId} {d:DataW H} (h:Dwf tb t d) (hd:descOf tb t = some .string):∃ s,d = .lit (.string s)∧s.length ≤ maxLen:=by
  cases h with
  | int h hw=>rw [hd] at h; cases h
  | bool h=>rw [hd] at h; cases h
  | str h hl=>exact ⟨_,rfl,hl⟩
  | nilp h=>rw [hd] at h; cases h
  | nils h=>rw [hd] at h; cases h
  | ptr h _=>rw [hd] at h; cases h
  | slice h _ _=>rw [hd] at h; cases h
  | struct h _ _=>rw [hd] at h; cases h
  | array h _ _=>rw [hd] at h; cases h
def dS:DataW H→List UInt8
  | .lit (.string s)=>s
  | _=>[]
mutual
def dN:DataW H→TNode
  | .agg ds=>dN5 ds
  | _=>⟨0,0,0,[],[]⟩
def dN5:List (DataW H)→TNode
  | [a,b,c,s,l]=>⟨dI a,dI b,dI c,dS s,dNs l⟩
  | _=>⟨0,0,0,[],[]⟩
def dNs:DataW H→List TNode
  | .slice es _=>dNl es
  | _=>[]
def dNl:List (DataW H)→List TNode
  | []=>[]
  | d :: r=>dN d :: dNl r
end
theorem tN:descOf tab 26 = some (.struct [(0,3),(1,3),(2,3),(3,9),(4,24)]):=by kernel_rfl
theorem tL:descOf tab 24 = some (.slice 26):=by kernel_rfl
theorem tS:descOf tab 9 = some .string:=by kernel_rfl
theorem sN:sizeD tab 26 = 5:=by kernel_rfl
theorem pN (cs:List AV):pack tab 26 cs = .agg cs:=by kernel_rfl
theorem avN_int {d:DataW H} (h:Dwf tab 3 d):avs tab 3 d = [.int .i64 (dI d)]:=by
  obtain ⟨n,rfl,_⟩:=h.inv_int t3
  rfl
theorem avN_str {d:DataW H} (h:Dwf tab 9 d):avs tab 9 d = [.str (dS d)]:=by
  obtain ⟨s,rfl,_⟩:=h.inv_str tS
  rfl
theorem fiveN {α:Type} {l:List α} (h:l.length = 5):∃ a b c d e,l = [a,b,c,d,e]:=by
  match l,h with
  | [a,b,c,d,e],_=>exact ⟨a,b,c,d,e,rfl⟩
def cN (n:TNode):List AV:=[.int .i64 n.Kind,.int .i64 n.At,.int .i64 n.N,.str n.Name,.slice .none 5 (SY.E0 n.Kids)]
theorem eN (n:TNode):SY.e0 n = .agg (cN n):=by obtain ⟨a,b,c,d,e⟩:=n; rfl
theorem dN_ok {t:TypeId} {d:DataW H} (h:Dwf tab t d):(t = 26→avs tab 26 d = cN (dN d))∧(t = 24→avs tab 24 d = [.slice .none 5 (SY.E0 (dNs d))]):=by
  induction h with
  | bool h=>exact ⟨(fun e=>by subst e; rw [tN] at h; cases h),(fun e=>by subst e; rw [tL] at h; cases h)⟩
  | int h hw=>exact ⟨(fun e=>by subst e; rw [tN] at h; cases h),(fun e=>by subst e; rw [tL] at h; cases h)⟩
  | str h hw=>exact ⟨(fun e=>by subst e; rw [tN] at h; cases h),(fun e=>by subst e; rw [tL] at h; cases h)⟩
  | nilp h=>exact ⟨(fun e=>by subst e; rw [tN] at h; cases h),(fun e=>by subst e; rw [tL] at h; cases h)⟩
  | ptr h _ _=>exact ⟨(fun e=>by subst e; rw [tN] at h; cases h),(fun e=>by subst e; rw [tL] at h; cases h)⟩
  | array h _ _ _=>exact ⟨(fun e=>by subst e; rw [tN] at h; cases h),(fun e=>by subst e; rw [tL] at h; cases h)⟩
  | nils h=>
    refine ⟨(fun e=>by subst e; rw [tN] at h; cases h),fun e=>?_⟩
    subst e
    simp only [avs,tL,nilA,sN,dNs]
    rfl
  | @slice t e es rest h hl he ih=>
    refine ⟨(fun e=>by subst e; rw [tN] at h; cases h),fun e=>?_⟩
    subst e
    rw [tL] at h; cases h
    have key:∀ l:List (DataW H),(∀ d ∈ l,d ∈ es)→packs tab 26 l = SY.E0 (dNl l):=by
      intro l
      induction l with
      | nil=>intro _; rfl
      | cons d r ihl=>
        intro hm
        have k1:=ihl (fun d hd=>hm d (by simp [hd]))
        have q1:=(ih d (hm d (by simp))).1 rfl
        simp only [packs,dNl,k1,q1,pN]
        rw [SY.E0,eN]
    simp only [avs,tL,sN,dNs,key es (fun d h=>h)]
  | @struct t fs ds h hl he ih=>
    refine ⟨fun e=>?_,(fun e=>by subst e; rw [tL] at h; cases h)⟩
    subst e
    rw [tN] at h; cases h
    obtain ⟨a,b,c,s,l,rfl⟩:=fiveN hl
    have ha:=he 0 (0,3) a rfl rfl
    have hb:=he 1 (1,3) b rfl rfl
    have hc:=he 2 (2,3) c rfl rfl
    have hs:=he 3 (3,9) s rfl rfl
    have q1:=(ih 4 (4,24) l rfl rfl).2 rfl
    simp only [avs,tN,fieldsA,avN_int ha,avN_int hb,avN_int hc,avN_str hs,q1,dN,dN5]
    rfl
theorem node_av {d:DataW H} (h:Dwf tab 26 d):av tab 26 d = SY.e0 (dN d):=by
  unfold av
  rw [pN,(dN_ok h).1 rfl,eN]
end
end Go.Proofs.YtjojaiomgdjhfaaGreatDoor.AE
