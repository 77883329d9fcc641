/- A symbolic executor of the code, and that it is sound. No condition. -/
import Derived.Test.YtjojaiomgdjhfaaGreatDoorZS0
set_option linter.unusedVariables false
set_option linter.unusedSimpArgs false
set_option linter.unusedSectionVars false
namespace Go.Proofs.YtjojaiomgdjhfaaGreatDoor.SY
open Go AE F
section
variable {Z:Seat} {n:Nat}
theorem sfWeakF {f:FuncId} {args args':List AV} {H H1:Heap} {r:AV} {H':Heap} (h:SF Z f args' H1 r H') (ha:WkL args args') (hh:∀ b ob',find H1 b = some ob'→∃ ob,find H b = some ob∧ObWk ob ob') (hp:Pers H H1):SF Z f args H r H':=by
  refine ⟨h.1,fun g vs w hw hv hgl=>?_⟩
  obtain ⟨l1,l2,l3⟩:=hw.weak hh
  refine (h.2 (g.heap H1) vs w l1 (l2.VL (OffL.none _) (ha.vl hv)) fun x hx=>(hgl x hx).mono l2.gam).mono ?_
  rintro e w' ⟨v,g',rfl,ret⟩
  exact ⟨v,g',rfl,⟨ret.val,ret.wc,(l2.wider fun _ h=>h.elim).trans ret.keep,l3.trans ret.ctx,hp.trans ret.pers⟩⟩
theorem soCallF {kt:Bool} {ops:Array Oper} {k e:Nat} {S S0 S1:St} {K:St→Prop} (p:Pre) {r:AV} {H2:Heap} (hk:k < e) (hp:callPre kt Z.gl ops k S = some p) (hc:SF Z p.f p.args p.H r H2) (hs:callPost n S p r H2 = some S0) (hw:SWf S0 S1) (hn:SO Z n ops (k + 1) e S1 K):SO Z n ops k e S K:=by
  unfold callPre at hp
  split at hp
  · cases hp
  rename_i o ho
  split at hp <;> try cases hp
  rename_i hwt
  split at hp <;> try cases hp
  rename_i c hop
  split at hp <;> try cases hp
  rename_i x hcal
  split at hp <;> try cases hp
  rename_i f first captured hx
  split at hp <;> try cases hp
  rename_i ids hreach
  split at hp <;> try cases hp
  rename_i hcl
  split at hp <;> try cases hp
  rename_i args' H' ha hH
  unfold callPost at hs
  split at hs <;> try cases hs
  rename_i r' ws hr hws
  simp only at hc hr hws hs
  obtain ⟨i1,i2⟩:=callL_ok (Z:=Z) (l:=[(f,argsOf kt args',H',r,H2)]) ⟨hc,trivial⟩
  cases hd:setDst n o.dst (clean r') S.A with
  | none=>rw [hd] at hs; cases hs
  | some A=>
    rw [hd] at hs
    cases hs
    refine soStepF (cfg:={ c0 with keep:=kt }) (f:=0) i1 i2 hk ho (S1:=⟨A,insAll S.H ws⟩) (r:={ v:=clean r',ws:=ws,rd:=ids }) ?_ hw hn
    unfold evStep
    rw [hwt]
    simp only [evOp,hop,hcal,hx]
    unfold evCall
    rw [hreach]
    simp only
    rw [if_neg hcl]
    simp only [ha,hH,c0,Bool.false_eq_true,if_false,callL_hd,hr,hws]
    have:adoptAt { ro:=fun _=>false,acc:=fun _ _=>false,accCells:=fun _ _=>[],kill:=fun _ _=>none,adopt:=fun _ _=>false,plainAp:=fun _ _=>false,keep:=kt } 0 o.dst = none:=by
      unfold adoptAt; split <;> simp
    rw [this,adopt_none]
    simp only [Option.getD_none,Bool.false_eq_true,if_false,Bool.false_and,hd,Option.map_some]
end
section
variable {U:Nat→Type} {ρ:Type} (Y:SZ U)
def objsT (fl:List Fl) (T:SSt U):Nat→Nat→Option (List (SV U))
  | 0,_=>some []
  | m + 1,i=>match find T.H (.ext i),objsT fl T m (i + 1) with
    | some (f,cs),some l=>if f = flAt fl i then some (.agg cs :: l) else none
    | _,_=>none
def callIn (kt:Bool) (s:Sig) (S:SSt U) (as:List (SV U)) (ids:List Oid):Option (SSt U × HT U s.ins) :=
  match renS (toExt ids) S with
  | none=>none
  | some T=>match srenL (toExt ids) S.B as with
    | none=>none
    | some as1=>match (if kt then some as1 else dgSL T.B (fun _=>true) as1),exB T s.bufs [] (),objsT s.fls T s.objs.length 0 with
      | some as2,some zb,some os=>
        if ids.length = s.objs.length∧(T.B.all fun x=>(s.bufs.map (·.1)).contains x.1) = true∧((vtips s.KA ++ vtips s.KO).all fun b=>(s.bufs.map (·.1)).contains b) = true∧((s.ubufs.map (·.1)).all fun b=>(s.bufs.map (·.1)).contains b) = true∧(T.H.all fun x=>!isCl x.1) = true then
          match exl Y.M T.B s.KO (tysB s.bufs []) false os zb with
          | some zo=>match exl Y.M T.B s.KA (tys s.KO (tysB s.bufs [])) false as2 zo with
            | some z=>some (T,z)
            | none=>none
          | none=>none
        else none
      | _,_,_=>none
variable {Y}
theorem objsT_ok {fl:List Fl} {T:SSt U}:∀ {m i:Nat} {os:List (SV U)},objsT fl T m i = some os→os.length = m∧∀ k,k < m→∃ cs,os[k]? = some (.agg cs)∧find T.H (.ext (i + k)) = some (flAt fl (i + k),cs)
  | 0,i,os,h=>by simp only [objsT] at h; cases h; exact ⟨rfl,fun k hk=>by omega⟩
  | m + 1,i,os,h=>by
    simp only [objsT] at h
    split at h
    · rename_i f cs l hf hr
      split at h
      case isFalse=>cases h
      rename_i hfl
      cases h
      subst hfl
      obtain ⟨h1,h2⟩:=objsT_ok hr
      refine ⟨by simp [h1],fun k hk=>?_⟩
      cases k with
      | zero=>exact ⟨cs,rfl,by simpa using hf⟩
      | succ k=>
        obtain ⟨cs',k1,k2⟩:=h2 k (by omega)
        have e:i + (k + 1) = i + 1 + k:=by omega
        exact ⟨cs',by simpa using k1,by rw [e]; exact k2⟩
    · cases h
theorem objs_in {B B':Bufs U}:∀ {l:List (List VK)} {os:List (SV U)} {ts:List Ty0} {y:HT U ts} {z:HT U (tys (objK l) ts)},(∀ b ∈ vtips (objK l),find B b = find B' b)→exl Y.M B (objK l) ts false os y = some z →
    os.length = l.length∧(inj (objK l) ts z).1.length = l.length∧∀ (k:Nat) (cs:List (SV U)),os[k]? = some (.agg cs)→∃ cs' kk,(inj (objK l) ts z).1[k]? = some (.agg cs')∧l[k]? = some kk∧WkL (flat Y.M B cs) (flat Y.M B' cs')∧(exactL Y (VK.L kk) cs = true→cs' = cs)
  | [],os,ts,y,z,hb,h=>by
    have h:exl Y.M B .nil ts false os y = some (z:HT U (tys .nil ts)):=h
    unfold exl at h
    split at h
    · exact ⟨rfl,rfl,fun k cs h=>by simp at h⟩
    · cases h
  | kk :: r,os,ts,y,z,hb,h=>by
    have h:exl Y.M B (.cons (.agg (VK.L kk)) (objK r)) ts false os y = some (z:HT U (tys (.cons (.agg (VK.L kk)) (objK r)) ts)):=h
    unfold exl at h
    simp only [Bool.false_eq_true,if_false] at h
    split at h
    · cases h
    rename_i p hp
    split at hp
    · rename_i s l
      cases hp
      split at h
      · rename_i z1 hz1
        obtain ⟨i1,i2,i3⟩:=objs_in (l:=r) (B':=B') (fun b hb'=>hb b (by simp [objK,vtips,hb'])) hz1
        have hq:=(exl_ok Y.ok (B:=B) (B':=B') (.agg (VK.L kk)) _ false [s] z1 (fun b hb'=>hb b (by simp only [objK,vtips]; simp only [vtips] at hb'; exact List.mem_append_left _ hb')) h).1
        have e0:(inj (objK (kk :: r)) ts z).1 = .agg (inj (VK.L kk) (tys (objK r) ts) z).1 :: (inj (objK r) ts z1).1:=by
          show [SV.agg (inj (VK.L kk) (tys (objK r) ts) z).1] ++ (inj (objK r) ts (inj (.agg (VK.L kk)) (tys (objK r) ts) z).2).1 = _
          rw [hq]; rfl
        refine ⟨by simp [i1],by rw [e0]; simp [i2],fun k cs hk=>?_⟩
        rw [e0]
        cases k with
        | zero=>
          simp only [List.getElem?_cons_zero,Option.some.injEq] at hk
          subst hk
          unfold exl at h
          obtain ⟨vs,hvs,h⟩:=(Option.bind_eq_some_iff (b:=(z:HT U (tys (VK.L kk) (tys (objK r) ts))))).1 h
          simp only [unagg,isAgg,if_true,chunk,Option.some.injEq] at hvs
          subst hvs
          have hb2:∀ b ∈ vtips (VK.L kk),find B b = find B' b:=fun b hb'=>hb b (by simp only [objK,vtips]; exact List.mem_append_left _ hb')
          obtain ⟨_,_,w⟩:=exl_ok Y.ok (B':=B') _ _ _ _ _ hb2 h
          exact ⟨_,kk,rfl,rfl,w (.inl rfl),fun he=>exactL_ok he h⟩
        | succ k=>
          obtain ⟨cs',kk',k1,k2,k3⟩:=i3 k cs (by simpa using hk)
          exact ⟨cs',kk',by simpa using k1,by simpa using k2,k3⟩
      · cases h
    · cases hp
theorem objL_find {fl:List Fl}:∀ {l:List (SV U)} {i k:Nat} {v:SV U},l[k]? = some v→find (objL fl i l) (.ext (i + k)) = some (flAt fl (i + k),chunk v)
  | [],i,k,v,h=>by simp at h
  | x :: r,i,0,v,h=>by simp at h; subst h; simp only [objL,find,Nat.add_zero,if_true]
  | x :: r,i,k + 1,v,h=>by
    simp only [objL,find]
    rw [if_neg (by simp),show i + (k + 1) = (i + 1) + k by omega]
    exact objL_find (by simpa using h)
theorem objL_keys {fl:List Fl}:∀ {l:List (SV U)} {i:Nat} {b:Oid} {p:Fl × List (SV U)},find (objL fl i l) b = some p→∃ k v,b = .ext (i + k)∧l[k]? = some v∧p = (flAt fl (i + k),chunk v)
  | [],i,b,p,h=>by cases h
  | x :: r,i,b,p,h=>by
    simp only [objL,find] at h
    split at h
    · rename_i e; cases h; exact ⟨0,x,e.symm,rfl,rfl⟩
    · obtain ⟨k,v,h1,h2,h3⟩:=objL_keys h
      have e:i + 1 + k = i + (k + 1):=by omega
      rw [e] at h1 h3
      exact ⟨k + 1,v,h1,by simpa using h2,h3⟩
structure CallIn (kt:Bool) (s:Sig) (S:SSt U) (as:List (SV U)) (ids:List Oid) (T:SSt U) (z:HT U s.ins):Prop where
  ren:renS (toExt ids) S = some T
  args:∃ as',renL (toExt ids) (denL Y.M S.B as) = some as'∧WkL (argsOf kt as') (denL Y.M (s.st z).B (s.av z))
  len:ids.length = s.objs.length
  bin:∀ b x,find (s.st z).B b = some x→find T.B b = some x∧find T.H b = none
  ball:∀ b x,find T.B b = some x→find (s.st z).B b = some x
  obj:∀ k,k < s.objs.length→∃ fl cs cs' kk,find T.H (AE.Oid.ext k) = some (fl,cs)∧find (s.st z).H (AE.Oid.ext k) = some (fl,cs')∧s.objs[k]? = some kk∧WkL (flat Y.M T.B cs) (flat Y.M (s.st z).B cs')∧(exactL Y (VK.L kk) cs = true→cs' = cs)
  keys:∀ b p,find (s.st z).H b = some p→∃ k,k < s.objs.length∧b = .ext k
  ub:∀ b,b ∈ s.ubufs.map (·.1)→∃ x,find (s.st z).B b = some x
  plain:∀ b p,find T.H b = some p→isCl b = false
theorem callIn_ok {s:Sig} {S:SSt U} {as:List (SV U)} {ids:List Oid} {kt:Bool} (hb:Base ids) {T:SSt U} {z:HT U s.ins} (h:callIn Y kt s S as ids = some (T,z)):CallIn (Y:=Y) kt s S as ids T z:=by
  unfold callIn at h
  split at h
  · cases h
  rename_i T0 hT
  split at h
  · cases h
  rename_i as1 has1
  split at h
  case h_2=>cases h
  rename_i as2 zb os has2 hzb hos
  split at h
  case isFalse=>cases h
  rename_i hc
  obtain ⟨c1,c2,c3,c4,c5⟩:=hc
  split at h
  case h_2=>cases h
  rename_i zo hzo
  split at h
  case h_2=>cases h
  rename_i z0 hz
  cases h
  have hτ:∀ b b',toExt ids b = some b'→ofExt ids b' = some b:=fun b b' h=>(of_toExt ids b b' h).1
  obtain ⟨_,hB⟩:=renS_ok (Y:=Y) hτ hT
  have e1:(inj s.KA (tys s.KO (tysB s.bufs [])) z).2 = zo:=(exl_ok Y.ok (B':=T.B) _ _ _ _ _ (fun _ _=>rfl) hz).1
  have e2:(inj s.KO (tysB s.bufs []) zo).2 = zb:=(exl_ok Y.ok (B':=T.B) _ _ _ _ _ (fun _ _=>rfl) hzo).1
  have hBst:(s.st z).B = (injB s.bufs [] zb).1:=by simp only [Sig.st]; rw [e1,e2]
  obtain ⟨_,b1,b2⟩:=exB_ok hzb
  have hbin:∀ b x,find (s.st z).B b = some x→find T.B b = some x∧find T.H b = none:=fun b x hx=>b1 b x (by rw [← hBst]; exact hx)
  have hnm:∀ b,b ∈ s.bufs.map (·.1)→find T.B b = find (s.st z).B b:=by
    intro b hb'
    have:=b2 b hb'
    rw [← hBst] at this
    cases hq:find (s.st z).B b with
    | none=>rw [hq] at this; cases this
    | some x=>exact (hbin b x hq).1
  have htips:∀ b ∈ vtips s.KA ++ vtips s.KO,find T.B b = find (s.st z).B b:=by
    intro b hb'
    have:=List.all_eq_true.1 c3 b hb'
    rw [List.contains_iff_mem] at this
    exact hnm b this
  obtain ⟨_,wA,_⟩:=exl_ok Y.ok (B:=T.B) (B':=(s.st z).B) _ _ _ _ _ (fun b hb'=>htips b (List.mem_append_left _ hb')) hz
  obtain ⟨o1,o2,o3⟩:=objs_in (B':=(s.st z).B) (fun b hb'=>htips b (List.mem_append_right _ hb')) hzo
  obtain ⟨t1,t2⟩:=objsT_ok hos
  have hHst:(s.st z).H = objL s.fls 0 (inj s.KO (tysB s.bufs []) zo).1:=by simp only [Sig.st]; rw [e1]
  refine ⟨hT,⟨_,srenL_ok Y.ok hB as has1,?_⟩,c1,hbin,fun b x hx=>?_,fun k hk=>?_,fun b p hp=>?_,fun b hb'=>?_,fun b p hp=>by have:=List.all_eq_true.1 c5 _ (find_mem hp); simpa using this⟩
  · cases kt with
    | true=>
      simp only [if_true] at has2
      cases has2
      exact wA (.inl rfl)
    | false=>
      simp only [Bool.false_eq_true,if_false] at has2
      have h1:=dgSL_ok Y.ok (B:=T.B) (B':=T.B) (p:=fun _=>true) (fun _ h=>by cases h) as1 has2
      show WkL (cleanL _) _
      rw [cleanL_dg,← h1]
      exact wA (.inl rfl)
  · have:=List.all_eq_true.1 c2 _ (find_mem hx)
    rw [List.contains_iff_mem] at this
    rw [← hnm b this]; exact hx
  · obtain ⟨cs,k1,k2⟩:=t2 k hk
    obtain ⟨cs',kk,m1,m2,m3,m4⟩:=o3 k cs k1
    refine ⟨flAt s.fls k,cs,cs',kk,by simpa using k2,?_,m2,m3,m4⟩
    rw [hHst]
    have:=objL_find (fl:=s.fls) (i:=0) (l:=(inj s.KO (tysB s.bufs []) zo).1) m1
    simpa [chunk] using this
  · rw [hHst] at hp
    obtain ⟨k,v,h1,h2,_⟩:=objL_keys hp
    refine ⟨k,?_,by simpa using h1⟩
    have:=(List.getElem?_eq_some_iff.1 h2).1
    have o2':(inj s.KO (tysB s.bufs []) zo).1.length = s.objs.length:=o2
    rw [o2'] at this; exact this
  · have h1:=List.all_eq_true.1 c4 b hb'
    rw [List.contains_iff_mem] at h1
    have:=b2 b h1
    rw [← hBst] at this
    cases hq:find (s.st z).B b with
    | none=>rw [hq] at this; cases this
    | some x=>exact ⟨x,rfl⟩
end
end Go.Proofs.YtjojaiomgdjhfaaGreatDoor.SY
namespace Go.Proofs.YtjojaiomgdjhfaaGreatDoor.SY
open Go AE F
def insL {K α:Type} [DecidableEq K] (H:List (K × α)):List (K × α)→List (K × α)
  | []=>H
  | (o,v) :: r=>ins o v (insL H r)
theorem find_insL {K α:Type} [DecidableEq K] {H:List (K × α)}:∀ (ws:List (K × α)) (b:K),find (insL H ws) b = match find ws b with | some ob=>some ob | none=>find H b
  | [],b=>rfl
  | (o,v) :: r,b=>by
    simp only [insL,find_ins,find]
    by_cases e:o = b
    · rw [if_pos e,if_pos e]
    · rw [if_neg e,if_neg e]; exact find_insL r b
section
variable {U:Nat→Type} {ρ:Type} (Y:SZ U)
def markW (S T:SSt U) (ids:List Oid):Nat→List (List VK)→List (Oid × Nat)→Option (List (Oid × Nat))
  | _,[],W=>some W
  | i,kk :: r,W=>match find T.H (.ext i),ids[i]?,markW S T ids (i + 1) r W with
    | some (_,cs),some o,some W'=>match find S.H o with
      | some (_,cs0)=>if exactL Y (VK.L kk) cs && (toksSL cs0).all (fun b=>(toExt ids b).isSome) then some W'
        else match csizeL Y.M cs0 with
          | some m=>some (cellsAt o 0 m W')
          | none=>none
      | none=>none
    | _,_,_=>none
def updR (ids:List Oid):List (Oid × Nat × VK)→Option (List (Oid × Nat × VK))
  | []=>some []
  | (o,off,k) :: r=>match ofExt ids o,updR ids r with
    | some o',some r'=>some ((o',off,k) :: r')
    | _,_=>none
def callOut (S T S1:SSt U) (ids:List Oid) (s:Sig):Option (SV U × SSt U) :=
  match renS (ofExt ids) S1,sren (ofExt ids) S1.B (getS S1.A 0),updR ids s.upd,markW Y S T ids 0 s.objs S.W with
  | some R,some v1,some u,some W=>match dgS R.B (fun _=>true) v1,baseA (s.ubufs.filterMap fun p=>ofExt ids p.1) S.B S.A,baseH (s.ubufs.filterMap fun p=>ofExt ids p.1) S.B S.H with
    | some v,some A,some H=>some (v,⟨A,insL H R.H,insL S.B R.B,addW Y u W,(s.ubufs.filterMap fun p=>ofExt ids p.1) ++ S.X⟩)
    | _,_,_=>none
  | _,_,_,_=>none
mutual
def stk (B:Bufs U):SV U→List Oid
  | .raw a=>toks a
  | .tip b=>match find B b with | some _=>[b] | none=>[]
  | .agg l=>stkL B l
  | .tup l=>stkL B l
  | .fn _ a b=>stkL B a ++ stkL B b
  | _=>[]
def stkL (B:Bufs U):List (SV U)→List Oid
  | []=>[]
  | v :: r=>stk B v ++ stkL B r
end
def sRoots (kt:Bool) (B:Bufs U) (as:List (SV U)):List Oid:=if kt then refsSL as ++ (stkL B as).map Oid.root else refsSL as
def sCall (kt:Bool) (tbl:List (Ent U)) (k:Nat) (S:SSt U) (o:Oper) (v:Nat) (K:SV U→SSt U→Option ρ):Option ρ :=
  match o.op with
  | .call c=>match c.callee with
    | .value g=>match evS Y S.A g with
      | .fn f a b=>
        match sreach S.H 64 (sRoots kt S.B (a ++ c.args.toList.map (evS Y S.A) ++ b)) [] with
        | none=>none
        | some ids=>if ids.any isCl then none else
          match tbl.find? (fun e=>e.f == f && e.v == v) with
          | none=>none
          | some e=>match callIn Y kt e.sig S (a ++ c.args.toList.map (evS Y S.A) ++ b) ids with
            | none=>none
            | some (T,z)=>(e.F k z).bind fun y=>match injSh Y [] e.sig.out y (e.sig.st0 z) with
              | none=>none
              | some S1=>match callOut Y S T S1 ids e.sig with
                | none=>none
                | some (w,S2)=>K w S2
      | _=>none
    | _=>none
  | _=>none
variable {Y}
theorem updR_cov {ids:List Oid}:∀ {l u:List (Oid × Nat × VK)} {b o:Oid} {j:Nat},updR ids l = some u→ofExt ids b = some o→cov (Y:=Y) l b j→cov (Y:=Y) u o j
  | [],u,b,o,j,h,hb,⟨q,hq,_⟩=>by cases hq
  | (b1,off,k) :: r,u,b,o,j,h,hb,⟨q,hq,h1,h2⟩=>by
    simp only [updR] at h
    split at h
    · rename_i o' r' ho hr
      cases h
      rcases List.mem_cons.1 hq with rfl | hq
      · simp only at h1 h2
        subst h1
        rw [hb] at ho; cases ho
        exact ⟨_,List.mem_cons_self,rfl,h2⟩
      · obtain ⟨q',k1,k2⟩:=updR_cov hr hb ⟨q,hq,h1,h2⟩
        exact ⟨q',List.mem_cons_of_mem _ k1,k2⟩
    · cases h
theorem markW_spec {S T:SSt U} {ids:List Oid}:∀ {l:List (List VK)} {i:Nat} {W W':List (Oid × Nat)},markW Y S T ids i l W = some W'→(∀ x ∈ W,x ∈ W')∧∀ (k:Nat) (kk:List VK),l[k]? = some kk→∃ w cs o w0 cs0,find T.H (.ext (i + k)) = some (w,cs)∧ids[i + k]? = some o∧find S.H o = some (w0,cs0) ∧
    ((exactL Y (VK.L kk) cs = true∧∀ b ∈ toksSL cs0,(toExt ids b).isSome = true) ∨ ∀ j,j < (flat Y.M S.B cs0).length→(o,j) ∈ W')
  | [],i,W,W',h=>by simp only [markW] at h; cases h; exact ⟨fun x h=>h,fun k kk h=>by simp at h⟩
  | kk :: r,i,W,W',h=>by
    simp only [markW] at h
    split at h
    · rename_i w cs o W1 hf ho hr
      obtain ⟨r1,r2⟩:=markW_spec hr
      split at h
      · rename_i w0 cs0 hf0
        have go:(∀ x ∈ W1,x ∈ W')→((exactL Y (VK.L kk) cs = true∧∀ b ∈ toksSL cs0,(toExt ids b).isSome = true) ∨ ∀ j,j < (flat Y.M S.B cs0).length→(o,j) ∈ W')→_:=fun hsub hk=>show (∀ x ∈ W,x ∈ W')∧∀ (k:Nat) (kk':List VK),(kk :: r)[k]? = some kk'→∃ w cs o w0 cs0,find T.H (.ext (i + k)) = some (w,cs)∧ids[i + k]? = some o∧find S.H o = some (w0,cs0) ∧
            ((exactL Y (VK.L kk') cs = true∧∀ b ∈ toksSL cs0,(toExt ids b).isSome = true) ∨ ∀ j,j < (flat Y.M S.B cs0).length→(o,j) ∈ W') from by
          refine ⟨fun x hx=>hsub x (r1 x hx),fun k kk' hk'=>?_⟩
          cases k with
          | zero=>
            simp at hk'; subst hk'
            exact ⟨w,cs,o,w0,cs0,hf,ho,hf0,hk⟩
          | succ k=>
            obtain ⟨w,cs,o,w0,cs0,q1,q2,q3,q4⟩:=r2 k kk' (by simpa using hk')
            refine ⟨w,cs,o,w0,cs0,by rw [← q1]; congr 2; omega,by rw [← q2]; congr 1; omega,q3,?_⟩
            rcases q4 with q4 | q4
            · exact .inl q4
            · exact .inr fun j hj=>hsub _ (q4 j hj)
        split at h
        · rename_i hc
          cases h
          simp only [Bool.and_eq_true,List.all_eq_true] at hc
          exact go (fun x h=>h) (.inl hc)
        · split at h
          · rename_i m hm
            cases h
            refine go (fun x hx=>cellsAt_mem.2 (.inr hx)) (.inr fun j hj=>cellsAt_mem.2 (.inl ⟨rfl,Nat.zero_le _,?_⟩))
            rw [csizeL_ok Y.ok S.B _ hm] at hj
            simpa using hj
          · cases h
      · cases h
    · cases h
mutual
theorem sren_den {M:TM U} {σ:Oid→Option Oid} {B B1 B2:Bufs U} (h:∀ e b,σ e = some b→find B1 b = find B2 b):∀ (v:SV U) {v':SV U},sren σ B v = some v'→den M B1 v' = den M B2 v'
  | .raw a,v',hs=>by
    simp only [sren] at hs
    split at hs <;> cases hs
    rfl
  | .typ i x,v',hs=>by simp only [sren] at hs; cases hs; rfl
  | .lst f i l,v',hs=>by simp only [sren] at hs; cases hs; rfl
  | .tip b,v',hs=>by
    simp only [sren] at hs
    split at hs
    · rename_i b' hb; cases hs; simp only [den,h b b' hb]
    · split at hs <;> cases hs <;> rfl
  | .opt i none,v',hs=>by simp only [sren] at hs; cases hs; rfl
  | .opt i (some x),v',hs=>by simp only [sren] at hs; cases hs; rfl
  | .pint _ _ _,v',hs=>by simp only [sren] at hs; cases hs; rfl
  | .arr i l,v',hs=>by simp only [sren] at hs; cases hs; rfl
  | .pin l,v',hs=>by
    simp only [sren] at hs
    split at hs
    · rename_i hn; cases hs; simp only [den]; rw [noTip_flat (B':=B2) l hn]
    · cases hs
  | .agg l,v',hs=>by
    simp only [sren] at hs
    split at hs
    · rename_i l' hl; cases hs; simp only [den,srenF_den h l hl]
    · cases hs
  | .tup l,v',hs=>by
    simp only [sren] at hs
    split at hs
    · rename_i l' hl; cases hs; simp only [den,srenL_den h l hl]
    · cases hs
  | .fn f a b,v',hs=>by
    simp only [sren] at hs
    split at hs
    · rename_i a' b' ha hb; cases hs; simp only [den,srenL_den h a ha,srenL_den h b hb]
    · cases hs
theorem srenL_den {M:TM U} {σ:Oid→Option Oid} {B B1 B2:Bufs U} (h:∀ e b,σ e = some b→find B1 b = find B2 b):∀ (l:List (SV U)) {l':List (SV U)},srenL σ B l = some l'→denL M B1 l' = denL M B2 l'
  | [],l',hs=>by simp only [srenL] at hs; cases hs; rfl
  | v :: r,l',hs=>by
    simp only [srenL] at hs
    split at hs
    · rename_i v' r' hv hr; cases hs; simp only [denL,sren_den h v hv,srenL_den h r hr]
    · cases hs
theorem srenF_den {M:TM U} {σ:Oid→Option Oid} {B B1 B2:Bufs U} (h:∀ e b,σ e = some b→find B1 b = find B2 b):∀ (l:List (SV U)) {l':List (SV U)},srenL σ B l = some l'→flat M B1 l' = flat M B2 l'
  | [],l',hs=>by simp only [srenL] at hs; cases hs; rfl
  | v :: r,l',hs=>by
    simp only [srenL] at hs
    split at hs
    · rename_i v' r' hv hr; cases hs; simp only [flat,sren_den h v hv,srenF_den h r hr]
    · cases hs
end
theorem srenH_den {M:TM U} {σ:Oid→Option Oid} {B B1 B2:Bufs U} (h:∀ e b,σ e = some b→find B1 b = find B2 b):∀ {H H':List (Oid × Fl × List (SV U))} {b:Oid} {p:Fl × List (SV U)},srenH σ B H = some H'→find H' b = some p→flat M B1 p.2 = flat M B2 p.2
  | [],H',b,p,hs,hf=>by simp only [srenH] at hs; cases hs; cases hf
  | (o,w,l) :: r,H',b,p,hs,hf=>by
    simp only [srenH] at hs
    split at hs
    · exact srenH_den h hs hf
    · split at hs
      · rename_i l' r' hl hr
        cases hs
        simp only [find] at hf
        split at hf
        · cases hf; exact srenF_den h l hl
        · exact srenH_den h hr hf
      · cases hs
theorem callOut_ok {kt:Bool} {s:Sig} {S T S1 S2:SSt U} {as:List (SV U)} {ids:List Oid} (hb:Base ids) {z:HT U s.ins} {y:HT U s.out.tys} (hin:CallIn (Y:=Y) kt s S as ids T z) (hi:injSh Y [] s.out y (s.st0 z) = some S1) {w:SV U} (ho:callOut Y S T S1 ids s = some (w,S2)) (dst:Option Nat) :
    ∃ r' ws,ren (ofExt ids) (den Y.M S1.B (getS S1.A 0)) = some r'∧renHeap (ofExt ids) (denS Y S1).H = some ws ∧
      SWf ⟨updO dst (AE.clean r') (denS Y S).A,insAll (denS Y S).H ws⟩ (denS Y (putD dst w S2))∧Fr Y dst.toList S (putD dst w S2):=by
  have hσ:∀ b b',toExt ids b = some b'→ofExt ids b' = some b:=fun b b' h=>(of_toExt ids b b' h).1
  have hτ:∀ b b',ofExt ids b = some b'→toExt ids b' = some b:=fun b b' h=>to_ofExt hb b b' h
  unfold callOut at ho
  split at ho
  case h_2=>cases ho
  rename_i R v1 u W hR hv1 hu hW
  split at ho
  case h_2=>cases ho
  rename_i v A H hv hA hH
  cases ho
  obtain ⟨hR1,hRB⟩:=renS_ok (Y:=Y) hτ hR
  have hT:=hin.ren
  obtain ⟨hT1,hTB⟩:=renS_ok (Y:=Y) hσ hT
  -- what the callee left
  unfold injSh at hi
  split at hi
  case h_2=>cases hi
  rename_i A1 H1 hA1 hH1
  have hH1:baseH s.out.nb (s.st z).B (s.st z).H = some H1:=hH1
  split at hi
  case h_2=>cases hi
  rename_i H1' hH1'
  have hi:=Option.some.inj hi
  have hS1H:S1.H = H1':=by rw [← hi]
  have hS1B:S1.B = s.out.zb y ++ (s.st z).B.filter (fun x=>!s.out.nb.contains x.1):=by rw [← hi]; rfl
  clear hi
  obtain ⟨c1,_⟩:=bufs_ok (sh:=s.out) (z:=y) (B:=(s.st z).B)
  rw [← hS1B] at c1
  have hbH:=baseH_ok (Y:=Y) c1 hH1
  have hkeys1:=setC_keys (Y:=Y) hH1'
  -- the spares
  have hnbm:∀ b,b ∈ (s.ubufs.filterMap fun p=>ofExt ids p.1) ↔ ∃ e,e ∈ s.out.nb∧ofExt ids e = some b:=by
    intro b
    simp only [List.mem_filterMap,Sh.nb,Sig.out,List.mem_map]
    constructor
    · rintro ⟨p,h1,h2⟩; exact ⟨p.1,⟨p,h1,rfl⟩,h2⟩
    · rintro ⟨e,⟨p,h1,rfl⟩,h2⟩; exact ⟨p,h1,h2⟩
  have hpq:∀ b b',toExt ids b = some b'→xp s.out.nb b' = xp (s.ubufs.filterMap fun p=>ofExt ids p.1) b:=by
    intro b b' h
    rw [Bool.eq_iff_iff]
    simp only [xp,List.contains_iff_mem,hnbm]
    constructor
    · intro hm; exact ⟨b',hm,hσ b b' h⟩
    · rintro ⟨e,he,h2⟩
      have:=hτ e b h2
      rw [h] at this; cases this
      exact he
  have hRfind:∀ b,find R.B b = match toExt ids b with | some e=>find S1.B e | none=>find R.B b:=by
    intro b
    cases ht:toExt ids b with
    | none=>rfl
    | some e=>exact hRB e b (hσ b e ht)
  have hsame:∀ b,xp (s.ubufs.filterMap fun p=>ofExt ids p.1) b = false→∀ x,find R.B b = some x→find S.B b = some x:=by
    intro b hxb x hx
    have hk:∃ e,ofExt ids e = some b:=by
      unfold renS at hR
      split at hR
      · cases hR
        exact srenB_keys _ hx
      · cases hR
    obtain ⟨e,he⟩:=hk
    have ht:=hτ e b he
    rw [hRB e b he,c1 e (by rw [hpq b e ht]; exact hxb)] at hx
    rw [← hTB b e ht]
    exact (hin.bin e x hx).1
  have hBnew:∀ b,xp (s.ubufs.filterMap fun p=>ofExt ids p.1) b = false→find (insL S.B R.B) b = find S.B b:=by
    intro b hxb
    rw [find_insL]
    cases hq:find R.B b with
    | none=>rfl
    | some x=>simp only; rw [hsame b hxb x hq]
  have hAb:=fun t=>baseA_ok (Y:=Y) hBnew hA t
  have hHb:=baseH_ok (Y:=Y) hBnew hH
  -- the objects that come back
  have hRH:∀ b p,find R.H b = some p→∃ e q,ofExt ids e = some b∧find S1.H e = some q:=by
    intro b p hp
    unfold renS at hR
    split at hR
    · rename_i H2 hH2
      cases hR
      obtain ⟨e,h1,h2⟩:=srenH_keys hH2 hp
      cases hq:find S1.H e with
      | none=>rw [hq] at h2; cases h2
      | some q=>exact ⟨e,q,h1,hq⟩
    · cases hR
  have hS1st:∀ e q,find S1.H e = some q→∃ q',find (s.st z).H e = some q':=by
    intro e q hq
    have:=hkeys1 e
    rw [← hS1H,hq] at this
    have h2:=hbH e
    cases hz:find (s.st z).H e with
    | some q'=>exact ⟨q',rfl⟩
    | none=>rw [hz] at h2; simp only at h2; rw [h2] at this; cases this
  have hback:∀ k,k < s.objs.length→∃ o,ids[k]? = some o∧ofExt ids (.ext k) = some o∧toExt ids o = some (.ext k):=by
    intro k hk
    have hlt:k < ids.length:=by rw [hin.len]; exact hk
    refine ⟨ids[k],List.getElem?_eq_getElem hlt,by simp only [ofExt]; exact List.getElem?_eq_getElem hlt,?_⟩
    exact hτ _ _ (by simp only [ofExt]; exact List.getElem?_eq_getElem hlt)
  obtain ⟨mk1,mk2⟩:=markW_spec hW
  -- an object that came back: where it was, and its cells
  have hobj:∀ b p,find R.H b = some p→∃ l,find S.H b = some (p.1,l)∧(flat Y.M R.B p.2).length = (flat Y.M S.B l).length∧∀ j,(b,j) ∉ addW Y u W→((flat Y.M S.B l)[j]?).map (dgA (xp (s.ubufs.filterMap fun p=>ofExt ids p.1))) = (flat Y.M R.B p.2)[j]?:=by
    intro b p hp
    obtain ⟨e,q,he,hq⟩:=hRH b p hp
    obtain ⟨q',hq'⟩:=hS1st e q hq
    obtain ⟨k,hk,rfl⟩:=hin.keys e q' hq'
    obtain ⟨fl,cs,cs',kk,t1,t2,t3,t4,t5⟩:=hin.obj k hk
    rw [hq'] at t2; cases t2
    obtain ⟨o,o1,o2,o3⟩:=hback k hk
    rw [he] at o2; cases o2
    obtain ⟨w2,cs2,o',w0,cs0,m1,m2,m3,m4⟩:=mk2 k kk t3
    rw [Nat.zero_add] at m1 m2
    rw [t1] at m1; cases m1
    rw [o1] at m2; cases m2
    -- S → T
    have hfT:find (denS Y T).H (.ext k) = some (.cells fl (flat Y.M T.B cs)):=by rw [findH,t1]
    obtain ⟨b0,ob0,f1,f2,f3⟩:=(find_renHeap hT1 (fun b b' e h h'=>toExt_inj ids h h')).1 _ _ hfT
    have:b0 = b:=by
      have h1:=hσ b0 _ f1
      have h2:=hσ b _ o3
      rw [h1] at h2; cases h2; rfl
    subst this
    rw [findH,m3] at f2
    cases f2
    simp only [renOb] at f3
    obtain ⟨y0,f4,f5⟩:=Option.map_eq_some_iff.1 f3
    cases f5
    obtain ⟨g1,g2⟩:=renL_get f4
    -- st → S1
    have hb1:=hbH (.ext k)
    rw [hq'] at hb1
    obtain ⟨l',h1,h2⟩:=hb1
    obtain ⟨cs3,r1,r2,r3⟩:=setC_rest (Y:=Y) (B:=S1.B) hH1' (.ext k) fl l' h2
    rw [← hS1H] at r1
    -- S1 → R
    have hf1:find (denS Y S1).H (.ext k) = some (.cells fl (flat Y.M S1.B cs3)):=by rw [findH,r1]
    obtain ⟨ob3,v1,v2⟩:=(find_renHeap hR1 (fun b b' e h h'=>by have:=hτ _ _ h; have h2:=hτ _ _ h'; rw [this] at h2; cases h2; rfl)).2 _ _ _ he hf1
    rw [findH,hp] at v1
    simp only [renOb] at v2
    obtain ⟨y1,v3,v4⟩:=Option.map_eq_some_iff.1 v2
    obtain ⟨pw,pl⟩:=p
    simp only [Option.some.injEq] at v1
    rw [← v1] at v4
    simp only [Ob.cells.injEq] at v4
    obtain ⟨rfl,rfl⟩:=v4
    obtain ⟨g3,g4⟩:=renL_get v3
    have hBst:∀ b,find (s.st z).B b = find T.B b:=by
      intro b
      cases hq:find (s.st z).B b with
      | some x=>rw [(hin.bin b x hq).1]
      | none=>
        cases hr:find T.B b with
        | none=>rfl
        | some x=>rw [hin.ball b x hr] at hq; cases hq
    have hl4:=WkL.len t4
    have hl5:(flat Y.M S1.B l').length = (flat Y.M (s.st z).B cs').length:=by rw [h1,dgL_map,List.length_map]
    have hlR:(flat Y.M R.B ((fl,pl):Fl × List (SV U)).2).length = (flat Y.M S.B cs0).length:=by show (flat Y.M R.B pl).length = _; omega
    refine ⟨cs0,m3,hlR,fun j hj=>?_⟩
    rcases m4 with ⟨m4,m5⟩ | m4
    · have e1:=t5 m4
      have e2:flat Y.M (s.st z).B cs' = flat Y.M T.B cs:=by rw [e1]; exact baseA_ok.goF hBst cs
      have hnc:¬ cov (Y:=Y) s.upd (.ext k) j:=fun hc=>hj (addW_mem.2 (.inl (updR_cov hu he hc)))
      cases hx:(flat Y.M S.B cs0)[j]? with
      | none=>
        rw [List.getElem?_eq_none_iff] at hx
        rw [List.getElem?_eq_none_iff.2 (by omega)]; rfl
      | some x=>
        obtain ⟨x',k1,k2⟩:=g2 j x hx
        have k3:(flat Y.M S1.B cs3)[j]? = some (dgA (xp s.out.nb) x'):=by
          rw [r3 j hnc,h1,e2,dgL_map,List.getElem?_map,k1]; rfl
        obtain ⟨x'',k4,k5⟩:=g4 j _ k3
        have hmem:∀ b ∈ toks x,(toExt ids b).isSome = true:=by
          intro b hb
          refine m5 b (toks_flat Y.ok S.B cs0 b ?_)
          have hm:=List.mem_of_getElem? hx
          have:∀ (l:List AV),x ∈ l→b ∈ toksL l:=by
            intro l
            induction l with
            | nil=>intro h; cases h
            | cons a l ih=>
              intro h
              simp only [toksL,List.mem_append]
              rcases List.mem_cons.1 h with rfl | h
              · exact .inl hb
              · exact .inr (ih h)
          exact this _ hm
        have:=ren_dg hσ (p:=xp s.out.nb) (p':=xp (s.ubufs.filterMap fun p=>ofExt ids p.1)) hpq x hmem k2
        rw [this] at k5
        cases k5
        rw [k4]; rfl
    · have hnW:(b0,j) ∉ W:=fun hh=>hj (addW_mem.2 (.inr hh))
      have hjl:¬ j < (flat Y.M S.B cs0).length:=fun hh=>hnW (m4 j hh)
      rw [List.getElem?_eq_none_iff.2 (by omega),List.getElem?_eq_none_iff.2 (by omega)]; rfl
  have hwv:=sren_ok Y.ok hRB _ hv1
  have hnamed:∀ b e,toExt ids b = some e→find (insL S.B R.B) b = find R.B b:=by
    intro b e ht
    rw [find_insL]
    cases hq:find R.B b with
    | some x=>rfl
    | none=>
      simp only
      rw [hRB e b (hσ b e ht)] at hq
      by_cases hm:e ∈ s.out.nb
      · exfalso
        have:(find (s.out.zb y) e).isSome = true:=injB_all hm
        rw [hS1B,find_append] at hq
        cases hz:find (s.out.zb y) e with
        | none=>rw [hz] at this; cases this
        | some x=>rw [hz] at hq; cases hq
      · rw [c1 e (by simp only [xp]; rw [← Bool.not_eq_true,List.contains_iff_mem]; exact hm)] at hq
        rw [← hTB b e ht]
        cases hr:find T.B e with
        | none=>rfl
        | some x=>rw [hin.ball e x hr] at hq; cases hq
  have hfl:∀ b p,find R.H b = some p→flat Y.M (insL S.B R.B) p.2 = flat Y.M R.B p.2:=by
    intro b p hp
    unfold renS at hR
    split at hR
    · rename_i H2 hH2
      cases hR
      exact srenH_den (M:=Y.M) (B1:=insL S.B (srenB (ofExt ids) S1.B)) (B2:=srenB (ofExt ids) S1.B) (fun e b h=>hnamed b e (hτ e b h)) hH2 hp
    · cases hR
  have hRbuf:∀ b x,find R.B b = some x→find S.H b = none∧find R.H b = none∧(find S.B b).isSome = true:=by
    intro b x hx
    have hk:∃ e,ofExt ids e = some b:=by
      unfold renS at hR
      split at hR
      · cases hR
        exact srenB_keys _ hx
      · cases hR
    obtain ⟨e,he⟩:=hk
    have ht:=hτ e b he
    have hst:∃ x',find (s.st z).B e = some x':=by
      by_cases hm:e ∈ s.out.nb
      · exact hin.ub e (by simpa [Sh.nb,Sig.out] using hm)
      · rw [hRB e b he,c1 e (by simp only [xp]; rw [← Bool.not_eq_true,List.contains_iff_mem]; exact hm)] at hx
        exact ⟨x,hx⟩
    obtain ⟨x',hx'⟩:=hst
    obtain ⟨k1,k2⟩:=hin.bin e x' hx'
    have hSH:find S.H b = none:=by
      cases hq:find S.H b with
      | none=>rfl
      | some p=>
        have hf0:find (denS Y S).H b = some (.cells p.1 (flat Y.M S.B p.2)):=by rw [findH,hq]
        obtain ⟨ob',q1,q2⟩:=(find_renHeap hT1 (fun b b' e h h'=>toExt_inj ids h h')).2 _ _ _ ht hf0
        rw [findH,k2] at q1
        simp only at q1
        rw [k1] at q1
        cases q1
        simp only [renOb] at q2
        cases hz:renL (toExt ids) (flat Y.M S.B p.2) <;> rw [hz] at q2 <;> cases q2
    refine ⟨hSH,?_,?_⟩
    · cases hq:find R.H b with
      | none=>rfl
      | some p=>obtain ⟨l,h1,_⟩:=hobj b p hq; rw [hSH] at h1; cases h1
    · rw [← hTB b e ht,k1]; rfl
  have hXsub:∀ (X:List Oid) b,xp (s.ubufs.filterMap fun p=>ofExt ids p.1) b = true→xp ((s.ubufs.filterMap fun p=>ofExt ids p.1) ++ X) b = true:=by
    intro X b h
    simp only [xp,List.contains_iff_mem] at h ⊢
    exact List.mem_append_left _ h
  refine ⟨_,_,hwv,hR1,⟨fun t=>?_,fun b ob' hb'=>?_,fun e he hs=>?_⟩,⟨fun t ht=>?_,fun o wr cs ho=>?_,fun b x hb' h1 h2=>?_,fun x hx=>?_,fun x hx=>?_,fun b hb' hs=>?_⟩⟩
  · rw [getS_ok,getA_upd,getS_putD,putD_B]
    split
    · rw [clean_dg]
      exact Wk.eq (dgS_ok Y.ok (B:=R.B) (p:=fun _=>true) (fun _ h=>by cases h) _ hv).symm
    · rw [getS_ok,hAb t]; exact Wk.dg _ _
  · rw [findH,putD_H,putD_B] at hb'
    simp only at hb'
    rw [find_insL] at hb'
    rw [find_insAll]
    cases hq:find R.H b with
    | some p=>
      rw [hq] at hb'
      simp only at hb'
      cases hb'
      refine ⟨_,by rw [findH,hq],?_⟩
      rw [hfl b p hq]
      exact ObWk.refl _
    | none=>
      rw [hq] at hb'
      simp only at hb'
      have hHb':=hHb b
      cases hz:find S.H b with
      | some p=>
        obtain ⟨w0,l⟩:=p
        rw [hz] at hHb'
        obtain ⟨l',k1,k2⟩:=hHb'
        rw [k2] at hb'
        cases hb'
        have hnR:find R.B b = none:=by
          cases hr:find R.B b with
          | none=>rfl
          | some x=>have:=(hRbuf b x hr).1; rw [hz] at this; cases this
        have:find (denS Y R).H b = none:=by rw [findH,hq]; simp only; rw [hnR]; rfl
        rw [this]
        refine ⟨.cells w0 (flat Y.M S.B l),by rw [findH,hz],rfl,?_⟩
        rw [k1]; exact WkL.dg _ _
      | none=>
        rw [hz] at hHb'
        simp only at hHb'
        rw [hHb'] at hb'
        simp only at hb'
        rw [find_insL] at hb'
        cases hr:find R.B b with
        | some x=>
          rw [hr] at hb'
          have:find (denS Y R).H b = some ob':=by rw [findH,hq]; simp only; rw [hr]; exact hb'
          rw [this]
          exact ⟨ob',rfl,ObWk.refl _⟩
        | none=>
          rw [hr] at hb'
          simp only at hb'
          have:find (denS Y R).H b = none:=by rw [findH,hq]; simp only; rw [hr]; rfl
          rw [this]
          exact ⟨ob',by rw [findH,hz]; exact hb',ObWk.refl _⟩
  · rw [find_insAll] at hs
    rw [findH,putD_H,putD_B]
    simp only
    rw [find_insL]
    cases hq:find R.H e with
    | some p=>rfl
    | none=>
      simp only
      have hHb':=hHb e
      cases hz:find S.H e with
      | some p=>
        obtain ⟨w0,l⟩:=p
        rw [hz] at hHb'
        obtain ⟨l',k1,k2⟩:=hHb'
        rw [k2]; rfl
      | none=>
        rw [hz] at hHb'
        simp only at hHb'
        rw [hHb']
        simp only
        rw [find_insL]
        cases hr:find R.B e with
        | some x=>rfl
        | none=>
          have:find (denS Y R).H e = none:=by rw [findH,hq]; simp only; rw [hr]; rfl
          rw [this] at hs
          simp only at hs
          rw [findH,hz] at hs
          exact hs
  · rw [getS_putD,if_neg (fun e=>ht (by rw [e]; simp)),putD_X,putD_B]
    simp only
    rw [hAb t,dg_dg (hXsub S.X)]
  · rw [putD_H,putD_B,putD_W,putD_X]
    simp only
    rw [find_insL]
    cases hq:find R.H o with
    | some p=>
      obtain ⟨l,h1,h3,h4⟩:=hobj o p hq
      rw [ho] at h1; cases h1
      refine ⟨p.2,rfl,by rw [hfl o p hq]; exact h3,fun j hj=>?_⟩
      rw [hfl o p hq,← h4 j hj,Option.map_map]
      congr 1
      funext u
      simp only [Function.comp,dg_dg (hXsub S.X)]
    | none=>
      simp only
      have hHb':=hHb o
      rw [ho] at hHb'
      obtain ⟨l',k1,k2⟩:=hHb'
      refine ⟨l',k2,by rw [k1,dgL_map,List.length_map],fun j _=>?_⟩
      rw [k1,dgL_map,List.getElem?_map,Option.map_map]
      congr 1
      funext u
      simp only [Function.comp,dg_dg (hXsub S.X)]
  · rw [putD_X] at hb'
    simp only at hb'
    rw [putD_H,putD_B]
    simp only
    have hnb:xp (s.ubufs.filterMap fun p=>ofExt ids p.1) b = false:=by
      simp only [xp]
      rw [← Bool.not_eq_true,List.contains_iff_mem]
      exact fun h=>hb' (List.mem_append_left _ h)
    refine ⟨?_,by rw [hBnew b hnb]; exact h2⟩
    rw [find_insL]
    cases hq:find R.H b with
    | some p=>obtain ⟨l,k1,_⟩:=hobj b p hq; rw [h1] at k1; cases k1
    | none=>
      have hHb':=hHb b
      rw [h1] at hHb'
      exact hHb'
  · rw [putD_W]
    obtain ⟨o,j⟩:=x
    exact addW_mem.2 (.inr (mk1 _ hx))
  · rw [putD_X]
    exact List.mem_append_right _ hx
  · rw [findH,putD_H,putD_B] at hs
    simp only at hs
    rw [find_insL] at hs
    rw [findH]
    cases hz:find S.H b with
    | some p=>rfl
    | none=>
      cases hq:find R.H b with
      | some p=>obtain ⟨l,k1,_⟩:=hobj b p hq; rw [hz] at k1; cases k1
      | none=>
        rw [hq] at hs
        simp only at hs
        have hHb':=hHb b
        rw [hz] at hHb'
        simp only at hHb'
        rw [hHb'] at hs
        simp only [Option.isSome_map] at hs ⊢
        rw [find_insL] at hs
        cases hr:find R.B b with
        | some x=>exact (hRbuf b x hr).2.2
        | none=>rw [hr] at hs; exact hs
variable (Y)
def sIds (kt:Bool) (S:SSt U) (o:Oper):List Oid :=
  match o.op with
  | .call c=>match c.callee with
    | .value g=>match evS Y S.A g with
      | .fn _ a b=>(sreach S.H 64 (sRoots kt S.B (a ++ c.args.toList.map (evS Y S.A) ++ b)) []).getD []
      | _=>[]
    | _=>[]
  | _=>[]
variable {Y}
section
variable {M:TM U} {tb:List TI} (hM:TMOk M tb) {B:Bufs U}
include hM
mutual
theorem stk_den:∀ v:SV U,toks (den M B v) = stk B v
  | .raw a=>rfl
  | .typ i x=>by simp [den,hM.toks,stk]
  | .lst f _ _=>by cases f <;> simp [den,toks,stk]
  | .tip b=>by simp only [den,stk]; split <;> simp_all [toks]
  | .opt _ none=>by simp [den,toks,stk]
  | .opt _ (some _)=>by simp [den,toks,stk]
  | .pint _ _ _=>by simp [den,toks,stk]
  | .arr i l=>by simp [den,toks,members_toks hM,stk]
  | .pin _=>by simp [den,toks,stk]
  | .agg l=>by simp only [den,toks,stk]; exact stk_flat l
  | .tup l=>by simp only [den,toks,stk]; exact stk_denL l
  | .fn f a b=>by simp only [den,toks,stk,stk_denL a,stk_denL b]
theorem stk_denL:∀ l:List (SV U),toksL (denL M B l) = stkL B l
  | []=>rfl
  | v :: r=>by simp only [denL,toksL,stkL,stk_den v,stk_denL r]
theorem stk_flat:∀ l:List (SV U),toksL (flat M B l) = stkL B l
  | []=>rfl
  | v :: r=>by simp only [flat,toksL_append,toksL_cells,stkL,stk_den v,stk_flat r]
end
end
theorem sRoots_ok {kt:Bool} {S:SSt U} {as:List (SV U)}:argRoots kt (denL Y.M S.B as) = sRoots kt S.B as:=by
  unfold argRoots sRoots
  rw [refs_denL Y.ok,stk_denL Y.ok]
theorem sCall_ok {kt:Bool} {tbl:List (Ent U)} {fu n k:Nat} (ht:∀ x ∈ tbl,OkE Y fu x) {S:SSt U} {ops:Array Oper} {o:Oper} (ho:ops[k]? = some o) (hw:evWanted ops (denS Y S).A o = some true) (hd:∀ d,o.dst = some d→d < n) {v:Nat} {K:SV U→SSt U→Option ρ} {r:ρ} (h:sCall Y kt tbl fu S o v K = some r) :
    ∃ w S2 p r0 H2 S0,callPre kt Y.Z.gl ops k (denS Y S) = some p∧SF Y.Z p.f p.args p.H r0 H2∧callPost n (denS Y S) p r0 H2 = some S0∧SWf S0 (denS Y (putD o.dst w S2))∧Fr Y o.dst.toList S (putD o.dst w S2)∧K w S2 = some r∧p.ids = sIds Y kt S o:=by
  unfold sCall at h
  split at h
  case h_2=>cases h
  rename_i c hop
  split at h
  case h_2=>cases h
  rename_i g hcal
  split at h
  case h_2=>cases h
  rename_i f a b hg
  split at h
  case h_1=>cases h
  rename_i ids hids
  split at h
  case isTrue=>cases h
  rename_i hcl
  split at h
  case h_1=>cases h
  rename_i en hen
  split at h
  case h_1=>cases h
  rename_i T z hci
  obtain ⟨y,hF,h⟩:=Option.bind_eq_some_iff.1 h
  split at h
  case h_1=>cases h
  rename_i S1 hi
  split at h
  case h_1=>cases h
  rename_i w S2 hco
  have hreach:=sreach_ok (Y:=Y) _ _ _ hids
  have hb:Base ids:=by
    refine ⟨reach_nodup _ _ _ _ _ hreach List.nodup_nil,fun o ho b j e=>?_⟩
    subst e
    apply hcl
    rw [List.any_eq_true]
    exact ⟨_,ho,rfl⟩
  have hin:=callIn_ok hb hci
  obtain ⟨r',ws,q1,q2,q3,q4⟩:=callOut_ok hb hin hi hco o.dst
  obtain ⟨as',a1,a2⟩:=hin.args
  obtain ⟨hT1,hTB⟩:=renS_ok (Y:=Y) (fun b b' h=>(of_toExt ids b b' h).1) hin.ren
  have hf:en.f = f:=by
    have:=List.find?_some hen
    simp only [Bool.and_eq_true,beq_iff_eq] at this
    exact this.1
  have hmem:=List.mem_of_find?_eq_some hen
  have hSF:=ht en hmem z y S1 hF hi
  rw [hf] at hSF
  have hargs:a ++ c.args.toList.map (evS Y S.A) ++ b = a ++ c.args.toList.map (evS Y S.A) ++ b:=rfl
  have hmap:denL Y.M S.B (a ++ c.args.toList.map (evS Y S.A) ++ b) = denL Y.M S.B a ++ c.args.toList.map (evalA Y.Z.gl (denS Y S).A) ++ denL Y.M S.B b:=by
    rw [denL_map,denL_map,denL_map,List.map_append,List.map_append,List.map_map]
    congr 2
    exact List.map_congr_left fun x _=>(evS_ok Y S x).symm
  refine ⟨w,S2,⟨f,argsOf kt as',(denS Y T).H,ids,o.dst⟩,den Y.M S1.B (getS S1.A 0),(denS Y S1).H,⟨updO o.dst (AE.clean r') (denS Y S).A,insAll (denS Y S).H ws⟩,?_,?_,?_,q3,q4,h,by simp only [sIds,hop,hcal,hg,hids,Option.getD_some]⟩
  · unfold callPre
    rw [ho]
    simp only [hw,hop,hcal,evS_ok,hg,den]
    have hr1:reach (denS Y S).H 64 (argRoots kt (denL Y.M S.B a ++ c.args.toList.map (evalA Y.Z.gl (denS Y S).A) ++ denL Y.M S.B b)) [] = some ids:=by
      rw [← hmap,sRoots_ok]; exact hreach
    rw [hr1]
    simp only
    rw [if_neg hcl,← hmap,a1,hT1]
  · refine sfWeakF hSF a2 (fun b ob' hb'=>?_) (fun x hx hs=>?_)
    · rw [findH] at hb'
      cases hq:find (en.sig.st z).H b with
      | some p=>
        obtain ⟨k',hk',rfl⟩:=hin.keys b p hq
        obtain ⟨fl,cs,cs',kk,t1,t2,t3,t4,t5⟩:=hin.obj k' hk'
        rw [hq] at t2 hb'
        cases t2
        cases hb'
        simp only
        rw [findH,t1]
        exact ⟨.cells fl _,rfl,rfl,t4⟩
      | none=>
        rw [hq] at hb'
        simp only at hb'
        cases hz:find (en.sig.st z).B b with
        | none=>rw [hz] at hb'; cases hb'
        | some x=>
          obtain ⟨k1,k2⟩:=hin.bin b x hz
          rw [hz] at hb'
          simp only
          rw [findH,k2]
          simp only
          rw [k1]
          exact ⟨ob',hb',ObWk.refl _⟩
    · simp only at hs
      rw [findH] at hs ⊢
      cases hq:find T.H x with
      | some p=>
        have hren:=hin.ren
        unfold renS at hren
        split at hren
        · rename_i H2 hH2
          cases hren
          obtain ⟨b0,h1,h2⟩:=srenH_keys hH2 hq
          -- an object: one of those that are told
          have hx':∃ k',k' < en.sig.objs.length∧x = .ext k':=by
            cases b0 with
            | cl o' j=>
              exfalso
              have:=hin.plain x p hq
              simp only [toExt] at h1
              split at h1
              · cases h1; cases this
              · cases h1
            | loc d=>
              simp only [toExt] at h1
              cases hidx:idx ids (.loc d) 0 with
              | none=>rw [hidx] at h1; cases h1
              | some i=>
                rw [hidx] at h1; cases h1
                obtain ⟨_,k2⟩:=idx_spec _ _ _ _ hidx
                have:=(List.getElem?_eq_some_iff.1 k2).1
                rw [hin.len] at this
                exact ⟨i,by simpa using this,rfl⟩
            | ext d=>
              simp only [toExt] at h1
              cases hidx:idx ids (.ext d) 0 with
              | none=>rw [hidx] at h1; cases h1
              | some i=>
                rw [hidx] at h1; cases h1
                obtain ⟨_,k2⟩:=idx_spec _ _ _ _ hidx
                have:=(List.getElem?_eq_some_iff.1 k2).1
                rw [hin.len] at this
                exact ⟨i,by simpa using this,rfl⟩
          obtain ⟨k',hk',rfl⟩:=hx'
          obtain ⟨fl,cs,cs',kk,t1,t2,t3,t4,t5⟩:=hin.obj k' hk'
          rw [t2]; rfl
        · cases hren
      | none=>
        rw [hq] at hs
        simp only [Option.isSome_map] at hs
        cases hz:find T.B x with
        | none=>rw [hz] at hs; cases hs
        | some y=>
          have:=hin.ball x y hz
          cases hu:find (en.sig.st z).H x with
          | some p=>rfl
          | none=>simp only [this]; rfl
  · unfold callPost
    simp only [q1,q2]
    cases hdst:o.dst with
    | none=>rfl
    | some d=>simp only [setDst,if_pos (hd d hdst),Option.map_some]; rfl
end
end Go.Proofs.YtjojaiomgdjhfaaGreatDoor.SY
namespace Go.Proofs.YtjojaiomgdjhfaaGreatDoor.SY
open Go AE F
inductive RH where
  | done
  | run (m:Nat) (r:RH)
  | pl (r:RH)
  | call (v:Nat) (r:RH)
  | keep (v:Nat) (r:RH)
  | typ (t i:Nat) (r:RH)
  | begin (b:Oid) (i t:Nat) (j:Option Nat) (r:RH)
  | bego (b:Oid) (i:Nat) (o:Oid) (j:Nat) (r:RH)
  | split (t p:Nat) (sh:Sh) (h h' r:RH)
  | mux (t p:Nat) (sh:Sh) (h h' r:RH)
section
variable {U:Nat→Type} {ρ:Type} (Y:SZ U) (tbl:List (Ent U)) (fu n:Nat) (ops:Array Oper)
def dstOk (n:Nat) (o:Oper):Bool:=match o.dst with | some d=>decide (d < n) | none=>true
def symStep (pl:Bool) (v:Nat) (o:Oper) (S:SSt U) (K:SSt U→Option ρ):Option ρ :=
  if dstOk n o then
    match swanted ops S.A o with
    | none=>none
    | some false=>K (putD o.dst (.raw (.tuple [])) S)
    | some true=>match o.op with
      | .store t a x=>sStore Y pl S t a x fun v S1=>K (putD o.dst v S1)
      | .alloc e=>sAlloc Y S o e fun v S1=>K (putD o.dst v S1)
      | .box e x=>sBox Y pl S o e x fun v S1=>K (putD o.dst v S1)
      | .mapUpdate t m k x=>sMapSet Y S t m k x fun v S1=>K (putD o.dst v S1)
      | .call c=>match c.callee with
        | .value _=>sCall Y pl tbl fu S o v fun w S2=>K (putD o.dst w S2)
        | .builtin .append=>match c.argTypes.toList,c.args.toList with
          | t :: u :: _,s :: x :: _=>sAppend Y pl (v == 1) S o t u s x fun v S1=>K (putD o.dst v S1)
          | _,_=>none
        | _=>symE Y S o fun v=>K (putD o.dst v S)
      | _=>symE Y S o fun v=>K (putD o.dst v S)
  else none
def symRun:Nat→Nat→SSt U→(SSt U→Option ρ)→Option ρ
  | 0,_,S,K=>K S
  | m + 1,k,S,K=>match ops[k]? with
    | none=>none
    | some o=>symStep Y tbl fu n ops false 0 o S fun S'=>symRun m (k + 1) S' K
def sTyp (t i:Nat) (S:SSt U):Option (SSt U) :=
  match exl Y.M S.B (.typ i) [] false [getS S.A t] () with
  | some z=>some { S with A:=ins t (.typ i (show U i from z)) S.A }
  | none=>none
def fullAs (i:Nat):SV U→Option (List (U i))
  | .raw .nils=>some []
  | .lst true j l=>if h:j = i then some (h ▸ l) else none
  | _=>none
def sBegO (b:Oid) (i:Nat) (o:Oid) (j:Nat) (S:SSt U):Option (SSt U) :=
  if noTok b S then
    match find S.H o with
    | some (f,cs)=>if f = .mw then none else match takeS Y.M j 1 false cs with
      | some v=>match fullAs i v,setS Y.M j (.tip b) cs with
        | some l,some cs'=>some { S with H:=ins o (f,cs') S.H,B:=ins b ⟨i,l⟩ S.B,W:=(o,j) :: S.W }
        | _,_=>none
      | none=>none
    | none=>none
  else none
def sBegin (b:Oid) (i t:Nat) (j:Option Nat) (S:SSt U):Option (SSt U) :=
  if noTok b S then
    match j with
    | none=>match fullAs i (getS S.A t) with
      | some l=>some { S with A:=ins t (.tip b) S.A,B:=ins b ⟨i,l⟩ S.B }
      | none=>none
    | some j=>match getS S.A t with
      | .raw (.ptr o 0)=>sBegO Y b i o j S
      | _=>none
  else none
def dstsR:Nat→Nat→List Nat
  | 0,_=>[]
  | m + 1,k=>(match ops[k]? with | some o=>o.dst.toList | none=>[]) ++ dstsR m (k + 1)
def dsH:RH→Nat→Nat→List Nat
  | .done,k,e=>dstsR ops (e - k) k
  | .run m r,k,e=>dstsR ops m k ++ dsH r (k + m) e
  | .pl r,k,e=>dstsR ops 1 k ++ dsH r (k + 1) e
  | .call _ r,k,e=>dstsR ops 1 k ++ dsH r (k + 1) e
  | .keep _ r,k,e=>dstsR ops 1 k ++ dsH r (k + 1) e
  | .typ t _ r,k,e=>t :: dsH r k e
  | .begin _ _ t _ r,k,e=>t :: dsH r k e
  | .bego _ _ _ _ r,k,e=>dsH r k e
  | .split _ p sh h h' r,k,e=>((dsH h k p ++ dsH h' k p) ++ sh.a.map (·.1)) ++ dsH r p e
  | .mux _ p sh h h' r,k,e=>((dsH h k p ++ dsH h' k p) ++ sh.a.map (·.1)) ++ dsH r p e
def fresh0 (S:SSt U):SSt U:={ S with W:=[],X:=[] }
def restore (S S':SSt U):SSt U:={ S' with W:=S'.W ++ S.W,X:=S'.X ++ S.X }
def setB (t:Nat) (b:Bool) (S:SSt U):SSt U:={ S with A:=ins t (.raw (.bool b)) S.A }
def condH {α:Type} (b:Bool) (x y:α):α:=bif b then x else y
def symOps {ρ:Type}:RH→Nat→Nat→SSt U→(SSt U→Option ρ)→Option ρ
  | .done,k,e,S,K=>if k ≤ e then symRun Y tbl fu n ops (e - k) k S K else none
  | .run m r,k,e,S,K=>if k + m ≤ e then symRun Y tbl fu n ops m k S (fun S'=>symOps r (k + m) e S' K) else none
  | .pl r,k,e,S,K=>match ops[k]? with
    | none=>none
    | some o=>if k < e then symStep Y tbl fu n ops true 0 o S (fun S'=>symOps r (k + 1) e S' K) else none
  | .call v r,k,e,S,K=>match ops[k]? with
    | none=>none
    | some o=>if k < e then symStep Y tbl fu n ops false v o S (fun S'=>symOps r (k + 1) e S' K) else none
  | .keep v r,k,e,S,K=>match ops[k]? with
    | none=>none
    | some o=>if k < e then symStep Y tbl fu n ops true v o S (fun S'=>symOps r (k + 1) e S' K) else none
  | .typ t i r,k,e,S,K=>match sTyp Y t i S with
    | some S1=>symOps r k e S1 K
    | none=>none
  | .begin b i t j r,k,e,S,K=>match sBegin Y b i t j S with
    | some S1=>symOps r k e S1 K
    | none=>none
  | .bego b i o j r,k,e,S,K=>match sBegO Y b i o j S with
    | some S1=>symOps r k e S1 K
    | none=>none
  | .split t p sh h h' r,k,e,S,K=>match getS S.A t with
    | .raw (.bool b)=>if k ≤ p∧p ≤ e then
      joinK (fun z:HT U sh.tys=>match injSh Y (dsH ops h k p ++ dsH ops h' k p) sh z (fresh0 S) with
        | some S1=>symOps r p e (restore S S1) K
        | none=>none) fun j=>
      if b then symOps h k p (setB t true (fresh0 S)) (fun S'=>match extSh Y sh (fresh0 S) S' with | some z=>j z | none=>none)
      else symOps h' k p (setB t false (fresh0 S)) (fun S'=>match extSh Y sh (fresh0 S) S' with | some z=>j z | none=>none)
      else none
    | _=>none
  | .mux t p sh h h' r,k,e,S,K=>match getS S.A t with
    | .raw (.bool b)=>match symOps h k p (setB t true (fresh0 S)) (extSh Y sh (fresh0 S)),symOps h' k p (setB t false (fresh0 S)) (extSh Y sh (fresh0 S)) with
      | some x,some y=>if k ≤ p∧p ≤ e then (match injSh Y (dsH ops h k p ++ dsH ops h' k p) sh (condH b x y) (fresh0 S) with
        | some S1=>symOps r p e (restore S S1) K
        | none=>none) else none
      | _,_=>none
    | _=>none
variable {Y tbl fu n ops}
theorem symStep_ok (ht:∀ x ∈ tbl,OkE Y fu x) {pl:Bool} {v:Nat} {o:Oper} {k e:Nat} (hke:k < e) (ho:ops[k]? = some o) {S:SSt U} {K:SSt U→Option ρ} {r:ρ} (h:symStep Y tbl fu n ops pl v o S K = some r) {Q:St→Prop}
    (hn:∀ S',K S' = some r→Fr Y o.dst.toList S S'→SO Y.Z n ops (k + 1) e (denS Y S') Q):SO Y.Z n ops k e (denS Y S) Q:=by
  unfold symStep at h
  split at h
  case isFalse=>cases h
  rename_i hd0
  have hd:∀ d,o.dst = some d→d < n:=by
    intro d hd
    unfold dstOk at hd0
    rw [hd] at hd0
    simpa using hd0
  split at h
  · cases h
  · rename_i hw
    exact step_not hke ho (swanted_ok hw) hd (hn _ h (Fr.put _ _))
  · rename_i hw
    have hw':=swanted_ok (Y:=Y) hw
    have fin:∀ {σ:Sm} {w:SV U} {S1:SSt U},HFact Y S o σ w S1→K (putD o.dst w S1) = some r→SO Y.Z n ops k e (denS Y S) Q:=fun hf hk=>step_ok hke ho hw' hf hd (hn _ hk (by obtain ⟨_,_,_,_,_,_,_,h⟩:=hf; exact h))
    have finE:symE Y S o (fun v=>K (putD o.dst v S)) = some r→SO Y.Z n ops k e (denS Y S) Q:=fun h=>by
      obtain ⟨w,hf,hk⟩:=symE_ok h
      exact fin hf.step hk
    split at h
    · rename_i hop; obtain ⟨w,S1,hf,hk⟩:=sStore_ok hop h; exact fin hf hk
    · rename_i hop; obtain ⟨w,S1,hf,hk⟩:=sAlloc_ok hop h; exact fin hf hk
    · rename_i hop; obtain ⟨w,S1,hf,hk⟩:=sBox_ok hop h; exact fin hf hk
    · rename_i hop; obtain ⟨w,S1,hf,hk⟩:=sMapSet_ok hop h; exact fin hf hk
    · rename_i c hop
      split at h
      · obtain ⟨w,S2,p,r0,H2,S0,k1,k2,k3,k4,k5,k6,_⟩:=sCall_ok ht ho hw' hd h
        exact soCallF p hke k1 k2 k3 k4 (hn _ k6 k5)
      · rename_i hcal
        split at h
        · rename_i hts hxs
          obtain ⟨w,S1,hf,hk⟩:=sAppend_ok hop hcal hts hxs h
          exact fin hf hk
        · cases h
      · exact finE h
    · exact finE h
theorem symRun_ok (ht:∀ x ∈ tbl,OkE Y fu x) {e:Nat}:∀ (m k:Nat) {S:SSt U} {K:SSt U→Option ρ} {r:ρ},k + m ≤ e→symRun Y tbl fu n ops m k S K = some r→∀ {Q:St→Prop},
    (∀ S',K S' = some r→Fr Y (dstsR ops m k) S S'→SO Y.Z n ops (k + m) e (denS Y S') Q)→SO Y.Z n ops k e (denS Y S) Q
  | 0,k,S,K,r,hk,h,Q,hn=>hn S h (Fr.refl S)
  | m + 1,k,S,K,r,hk,h,Q,hn=>by
    simp only [symRun] at h
    split at h
    · cases h
    · rename_i o ho
      refine symStep_ok ht (by omega) ho h fun S' h' hf=>?_
      refine symRun_ok ht m (k + 1) (by omega) h' fun S2 h2 hf2=>?_
      have:=hn S2 h2 (by simp only [dstsR,ho]; exact hf.trans hf2)
      rw [show k + 1 + m = k + (m + 1) by omega]; exact this
theorem Fr.restore {D:List Nat} {S S':SSt U} (h:Fr Y D (fresh0 S) S'):Fr Y D S (restore S S'):=by
  have hm:∀ b,xp S'.X b = true→xp (S'.X ++ S.X) b = true:=by
    intro b hb
    simp only [xp,List.contains_iff_mem] at hb ⊢
    exact List.mem_append_left _ hb
  refine ⟨fun t ht=>?_,fun o wr cs hf=>?_,fun b x hb h1 h2=>?_,fun x hx=>List.mem_append_right _ hx,fun x hx=>List.mem_append_right _ hx,h.e⟩
  · have:=h.a t ht
    simp only [SY.restore]
    rw [← dg_dg hm,← dg_dg hm (den Y.M S'.B (getS S'.A t))]
    exact congrArg _ this
  · obtain ⟨cs',f1,f2,f3⟩:=h.h o wr cs hf
    refine ⟨cs',f1,f2,fun j hj=>?_⟩
    have:=f3 j fun hh=>hj (List.mem_append_left _ hh)
    have:=congrArg (Option.map (dgA (xp (S'.X ++ S.X)))) this
    simp only [Option.map_map,Function.comp_def,dg_dg hm] at this
    exact this
  · exact h.b b x (fun hh=>hb (List.mem_append_left _ hh)) h1 h2
theorem Fr.setB {t:Nat} {b:Bool} {S:SSt U} (h:getS S.A t = .raw (.bool b)):Fr Y [] S (SY.setB t b S):=by
  refine ⟨fun t' _=>?_,fun o wr cs hf=>⟨cs,hf,rfl,fun _ _=>rfl⟩,fun b x _ h1 h2=>⟨h1,h2⟩,fun _ h=>h,fun _ h=>h,fun _ _ h=>h⟩
  simp only [SY.setB,getS_ins]
  split
  · rename_i e; subst e; rw [h]
  · rfl
theorem setB_den {t:Nat} {b:Bool} {S:SSt U} (h:getS S.A t = .raw (.bool b)):SWf (denS Y S) (denS Y (SY.setB t b S)):=by
  refine ⟨fun t'=>?_,fun b' ob' hb=>⟨ob',?_,ObWk.refl _⟩,fun e he hs=>?_⟩
  · rw [getS_ok,getS_ok]
    simp only [SY.setB,getS_ins]
    split
    · rename_i e; subst e; rw [h]; exact Wk.refl _
    · exact Wk.refl _
  · rw [findH] at hb ⊢; exact hb
  · rw [findH] at hs ⊢; exact hs
theorem sTyp_ok {t i:Nat} {S S1:SSt U} (h:sTyp Y t i S = some S1):SWf (denS Y S) (denS Y S1)∧Fr Y [t] S S1:=by
  unfold sTyp at h
  split at h
  · rename_i z hz
    cases h
    obtain ⟨_,h2,_⟩:=exl_ok Y.ok (B':=S.B) _ _ _ _ _ (fun _ _=>rfl) hz
    have h2:=(h2 (.inl rfl)).1
    refine ⟨⟨fun t'=>?_,fun b' ob' hb=>⟨ob',by rw [findH] at hb ⊢; exact hb,ObWk.refl _⟩,fun e he hs=>by rw [findH] at hs ⊢; exact hs⟩,
      ⟨fun t' ht=>?_,fun o wr cs hf=>⟨cs,hf,rfl,fun _ _=>rfl⟩,fun b x _ h1 h2=>⟨h1,h2⟩,fun _ h=>h,fun _ h=>h,fun _ _ h=>h⟩⟩
    · rw [getS_ok,getS_ok]
      simp only [getS_ins]
      split
      · rename_i e; subst e; exact h2
      · exact Wk.refl _
    · simp only [getS_ins]
      rw [if_neg (by simp at ht; exact fun e=>ht e.symm)]
  · cases h
theorem fullAs_ok {B:Bufs U} {i:Nat} {v:SV U} {l:List (U i)} (h:fullAs i v = some l):emptyAt (Y.M.size i) (den Y.M B v) = true∧(∀ b,grows b (Y.M.size i) (den Y.M B v) = .slice (.buf b) (Y.M.size i) (l.map (Y.M.enc i)))∧members (den Y.M B v) = l.length:=by
  unfold fullAs at h
  split at h
  · cases h; exact ⟨rfl,fun _=>rfl,rfl⟩
  · split at h
    · rename_i e
      subst e
      cases h
      refine ⟨by simp [den,emptyAt],fun b=>rfl,by simp [den,members]⟩
    · cases h
  · cases h
theorem noTok_ok {b:Oid} {S:SSt U} (h:noTok b S = true):(find (denS Y S).H b).isNone = true∧tokFree b (denS Y S) = true∧isExtB b = false∧(∀ t,b ∉ tipsS (getS S.A t))∧find S.H b = none∧find S.B b = none∧(∀ o p,find S.H o = some p→b ∉ tipsSL p.2):=by
  simp only [noTok,Bool.and_eq_true,Bool.not_eq_true',List.all_eq_true,Option.isNone_iff_eq_none] at h
  obtain ⟨⟨⟨⟨h1,h2⟩,h3⟩,h4⟩,h5⟩:=h
  refine ⟨by rw [findH,h1]; simp only; rw [h2]; rfl,?_,h3,fun t hm=>?_,h1,h2,fun o p hp=>?_⟩
  · simp only [tokFree,denS,Bool.and_eq_true,List.all_eq_true,List.mem_map,List.mem_append,Bool.not_eq_true']
    refine ⟨?_,?_⟩
    · rintro x ⟨y,hy,rfl⟩
      have:=h4 y hy
      rw [← Bool.not_eq_true,List.contains_iff_mem] at this ⊢
      exact fun hh=>this (toks_tips y.2 b (toks_den Y.ok S.B y.2 b hh))
    · rintro x (⟨y,hy,rfl⟩ | ⟨y,hy,rfl⟩)
      · have:=h5 y hy
        rw [← Bool.not_eq_true,List.contains_iff_mem] at this ⊢
        exact fun hh=>this (toks_tipsL y.2.2 b (toks_flat Y.ok S.B y.2.2 b hh))
      · rfl
  · unfold getS at hm
    cases hf:find S.A t with
    | none=>rw [hf] at hm; simp [tipsS,toks] at hm
    | some v=>
      rw [hf] at hm
      have:=h4 _ (find_mem hf)
      rw [← Bool.not_eq_true,List.contains_iff_mem] at this
      exact this hm
  · have:=h5 _ (find_mem hp)
    rw [← Bool.not_eq_true,List.contains_iff_mem] at this
    exact this
theorem Fr.more {D:List Nat} {S S1:SSt U} (h:Fr Y D S S1) (t:Nat):Fr Y (t :: D) S S1 :=
  ⟨fun u hu=>h.a u fun hd=>hu (List.mem_cons_of_mem _ hd),h.h,h.b,h.w,h.x,h.e⟩
theorem sBegO_ok {b:Oid} {i:Nat} {o:Oid} {j:Nat} {S S1:SSt U} (h:sBegO Y b i o j S = some S1):∃ T,beginOb (denS Y S) b (Y.M.size i) o j = some T∧SWf T (denS Y S1)∧Fr Y [] S S1:=by
  unfold sBegO at h
  split at h
  case isFalse=>cases h
  rename_i hno
  obtain ⟨n1,n2,n3,n4,n5,n6,n7⟩:=noTok_ok (Y:=Y) hno
  have hext:¬ IsExt b:=fun hh=>by rw [(isExtB_iff b).2 hh] at n3; cases n3
  split at h
  · rename_i f cs hcs
    split at h
    · cases h
    rename_i hfm
    split at h
    · rename_i v hv
      split at h
      · rename_i l cs' hl hset
        cases h
        obtain ⟨f1,f2,f3⟩:=fullAs_ok (Y:=Y) (B:=S.B) hl
        have hne:b ≠ o:=by rintro rfl; rw [n5] at hcs; cases hcs
        have htk:=takeS_ok Y.ok S.B (ti:={ size:=1,agg:=false,bytes:=0,zero:=[],desc:=.other,eqOk:=false }) hv
        unfold takeCells at htk
        rw [if_neg (by simp)] at htk
        have hjl:=(List.getElem?_eq_some_iff.1 htk).1
        obtain ⟨s1,s2,s3⟩:=setS_ok Y.ok (ins b ⟨i,l⟩ S.B) hset
        have hden:den Y.M (ins b ⟨i,l⟩ S.B) (.tip b) = .slice (.buf b) (Y.M.size i) (l.map (Y.M.enc i)):=by simp only [den,find_ins,if_true]
        rw [hden] at s1
        simp only [cellsOf,setRange] at s1
        rw [flat_new _ (n7 o _ hcs)] at s1 s3
        have hgd:(flat Y.M S.B cs).getD j .undef = den Y.M S.B v:=by rw [List.getD_eq_getElem?_getD,htk]; rfl
        refine ⟨⟨(denS Y S).A,ins b (.buf (Y.M.size i) l.length) (ins o (.cells f (flat Y.M (ins b ⟨i,l⟩ S.B) cs')) (denS Y S).H)⟩,?_,⟨fun t'=>?_,fun b' ob' hb=>⟨ob',?_,ObWk.refl _⟩,fun e he hs=>?_⟩,
          ⟨fun t' ht=>?_,fun o' wr cs0 hf=>?_,fun b' x hb h1 h2=>⟨?_,?_⟩,fun _ h=>List.mem_cons_of_mem _ h,fun _ h=>h,fun b' hb' hs=>?_⟩⟩
        · unfold beginOb
          simp only [findH,hcs,hgd]
          rw [findH] at n1
          rw [if_pos (by simp only [n1,n2,n3,f1,Bool.not_false,Bool.and_self,Bool.true_and,hjl,decide_true,Bool.and_true,bne_iff_ne,ne_eq,hfm,not_false_eq_true]),f2,f3,s1]
        · rw [getS_ok,getS_ok,den_new _ (n4 t')]; exact Wk.refl _
        · rw [findH] at hb
          simp only [find_ins] at hb ⊢
          by_cases e:b = b'
          · subst e
            rw [if_neg hne.symm,n5] at hb
            simp only [if_true,Option.map_some] at hb
            rw [if_pos rfl]; exact hb
          · rw [if_neg e]
            by_cases e2:o = b'
            · subst e2
              rw [if_pos rfl] at hb ⊢; exact hb
            · rw [if_neg e2] at hb ⊢
              rw [findH]
              cases hq:find S.H b' with
              | some p=>
                rw [hq] at hb
                simp only at hb ⊢
                rw [flat_new _ (n7 b' p hq)] at hb; exact hb
              | none=>rw [hq,if_neg e] at hb; exact hb
        · rw [findH]
          simp only [find_ins] at hs ⊢
          by_cases e':b = e
          · subst e'; exact (hext he).elim
          · rw [if_neg e'] at hs
            by_cases e2:o = e
            · subst e2; rw [if_pos rfl]; rfl
            · rw [if_neg e2] at hs ⊢
              rw [findH] at hs
              cases hq:find S.H e with
              | some p=>rfl
              | none=>rw [hq] at hs; simp only [if_neg e']; exact hs
        · rw [den_new _ (n4 t')]
        · rw [find_ins]
          by_cases e2:o = o'
          · subst e2
            rw [hcs] at hf; cases hf
            refine ⟨cs',by rw [if_pos rfl],s3,fun k hk=>?_⟩
            rw [← s1,List.getElem?_set_ne]
            intro e; subst e; exact hk List.mem_cons_self
          · refine ⟨cs0,by rw [if_neg e2]; exact hf,?_,fun k _=>?_⟩ <;> rw [flat_new _ (n7 o' _ hf)]
        · rw [find_ins,if_neg]
          · exact h1
          · intro e; subst e; rw [hcs] at h1; cases h1
        · rw [find_ins,if_neg]
          · exact h2
          · intro e; subst e; rw [n6] at h2; cases h2
        · rw [findH] at hs ⊢
          simp only [find_ins] at hs
          by_cases e:b = b'
          · subst e; exact (hext hb').elim
          · by_cases e2:o = b'
            · subst e2; rw [hcs]; rfl
            · rw [if_neg e2] at hs
              cases hq:find S.H b' with
              | some p=>rfl
              | none=>rw [hq,if_neg e] at hs; exact hs
      · cases h
    · cases h
  · cases h
theorem sBegin_ok {b:Oid} {i t:Nat} {j:Option Nat} {S S1:SSt U} (h:sBegin Y b i t j S = some S1):∃ T,beginSt (denS Y S) b (Y.M.size i) t j = some T∧SWf T (denS Y S1)∧Fr Y [t] S S1:=by
  unfold sBegin at h
  split at h
  case isFalse=>cases h
  rename_i hno
  obtain ⟨n1,n2,n3,n4,n5,n6,n7⟩:=noTok_ok (Y:=Y) hno
  have hext:¬ IsExt b:=fun hh=>by rw [(isExtB_iff b).2 hh] at n3; cases n3
  split at h
  · split at h
    · rename_i l hl
      cases h
      obtain ⟨f1,f2,f3⟩:=fullAs_ok (Y:=Y) (B:=S.B) hl
      refine ⟨_,by simp only [beginSt,getS_ok,n1,n2,n3,f1,Bool.not_false,Bool.and_self,if_true,f2,f3]; rfl,⟨fun t'=>?_,fun b' ob' hb=>⟨ob',?_,ObWk.refl _⟩,fun e he hs=>?_⟩,
        ⟨fun t' ht=>?_,fun o wr cs hf=>⟨cs,hf,?_,fun _ _=>?_⟩,fun b' x hb h1 h2=>⟨h1,?_⟩,fun _ h=>h,fun _ h=>h,fun b' hb' hs=>?_⟩⟩
      · rw [getA_put]
        by_cases e:t = t'
        · rw [if_pos e,getS_ok]
          simp only [getS_ins,if_pos e,den,find_ins,if_true]; exact Wk.refl _
        · rw [if_neg e,getS_ok,getS_ok]
          simp only [getS_ins,if_neg e]
          rw [den_new _ (n4 t')]; exact Wk.refl _
      · rw [findH] at hb
        rw [find_ins]
        simp only [find_ins] at hb
        by_cases e:b = b'
        · subst e
          rw [n5] at hb
          simp only [if_true,Option.map_some] at hb
          rw [if_pos rfl]; exact hb
        · rw [if_neg e,findH]
          cases hq:find S.H b' with
          | some p=>
            rw [hq] at hb
            simp only at hb ⊢
            rw [flat_new _ (n7 b' p hq)] at hb; exact hb
          | none=>rw [hq,if_neg e] at hb; exact hb
      · rw [find_ins] at hs
        rw [findH]
        simp only [find_ins]
        by_cases e':b = e
        · subst e'; exact (hext he).elim
        · rw [if_neg e',findH] at hs
          cases hq:find S.H e with
          | some p=>rfl
          | none=>rw [hq] at hs; simp only [if_neg e']; exact hs
      · simp only [getS_ins]
        rw [if_neg (by simp at ht; exact fun e=>ht e.symm),den_new _ (n4 t')]
      · rw [flat_new _ (n7 o _ hf)]
      · rw [flat_new _ (n7 o _ hf)]
      · simp only [find_ins]
        rw [if_neg]
        · exact h2
        · intro e; subst e; rw [n6] at h2; cases h2
      · rw [findH] at hs ⊢
        simp only [find_ins] at hs
        by_cases e:b = b'
        · subst e; exact (hext hb').elim
        · cases hq:find S.H b' with
          | some p=>rfl
          | none=>rw [hq,if_neg e] at hs; exact hs
    · cases h
  · rename_i j
    split at h
    · rename_i o ho
      obtain ⟨T,h1,h2,h3⟩:=sBegO_ok h
      refine ⟨T,?_,h2,h3.more t⟩
      simp only [beginSt,getS_ok,ho,den]
      exact h1
    · cases h
end
end Go.Proofs.YtjojaiomgdjhfaaGreatDoor.SY
namespace Go.Proofs.YtjojaiomgdjhfaaGreatDoor.SY
open Go AE F
structure Dm where
  rd:List Oid
  ks:List Oid
  fr:Bool
  vr:List Oid
  wr:List Oid
def rk (ks:List Oid) (b:Oid):Bool:=ks.any fun k=>decide (k.root = b.root)
theorem rk_iff {ks:List Oid} {b:Oid}:rk ks b = true ↔ b.root ∈ ks.map Oid.root:=by
  simp only [rk,List.any_eq_true,decide_eq_true_eq,List.mem_map]
def dOff (ks bs:List Oid):Bool:=ks.all fun w=>bs.all fun u=>u.root != w.root
def dApart (p q:Dm):Bool:=dOff p.ks q.rd && dOff p.ks q.ks && dOff q.ks p.rd
def dOffFresh (x:Oper) (p q:Dm):Bool :=
  !p.fr || match x.dst with
    | some d=>offS d q.vr && q.ks.all (fun w=>!rooted d w) && offS d q.wr
    | none=>false
def dPairOk (ops:Array Oper) (bs:List (List Nat)) (rs:List Dm) (i j:Nat):Bool :=
  match ops[i]?,ops[j]?,rs[i]?,rs[j]? with
  | some x,some y,some p,some q=>dOffFresh y q p && ((bs.getD j []).contains i || (apartB ops x y && dApart p q && dOffFresh x p q))
  | _,_,_,_=>false
structure LeD (r:OpR) (m:Dm):Prop where
  rd:∀ b ∈ r.rd,b ∈ m.rd
  ks:∀ x ∈ r.ws,x.1.root ∈ m.ks.map Oid.root
  fr:r.fresh = m.fr
  vr:∀ b ∈ refs r.v ++ toks r.v,b ∈ m.vr
  wr:∀ x ∈ r.ws,∀ b ∈ x.2.refs ++ x.2.toks,b ∈ m.wr
def LeL:List OpR→List Dm→Prop
  | [],[]=>True
  | r :: R,m :: M=>LeD r m∧LeL R M
  | _,_=>False
theorem LeL.get:∀ {R:List OpR} {M:List Dm},LeL R M→∀ {i:Nat} {m:Dm},M[i]? = some m→∃ r,R[i]? = some r∧LeD r m
  | [],[],_,i,m,h=>by simp at h
  | r :: R,m0 :: M,h,0,m,hm=>by simp at hm; subst hm; exact ⟨r,rfl,h.1⟩
  | r :: R,m0 :: M,h,i + 1,m,hm=>by
    obtain ⟨r',h1,h2⟩:=LeL.get h.2 (i:=i) (by simpa using hm)
    exact ⟨r',by simpa using h1,h2⟩
theorem LeL.snoc:∀ {R:List OpR} {M:List Dm} {r:OpR} {m:Dm},LeL R M→LeD r m→LeL (R ++ [r]) (M ++ [m])
  | [],[],_,_,_,h=>⟨h,trivial⟩
  | _ :: _,_ :: _,_,_,h,k=>⟨h.1,LeL.snoc h.2 k⟩
  | [],_ :: _,_,_,h,_=>h.elim
  | _ :: _,[],_,_,h,_=>h.elim
theorem rooted_root {d:Nat} {b c:Oid} (h:b.root = c.root):rooted d b = rooted d c:=by unfold rooted; rw [h]
theorem dOff_ok {ks bs:List Oid} {ws:List (Oid × Ob)} (hk:∀ x ∈ ws,x.1.root ∈ ks.map Oid.root) (h:dOff ks bs = true) {cs:List Oid} (hc:∀ u ∈ cs,u.root ∈ bs.map Oid.root):offRoots ws cs = true:=by
  simp only [dOff,offRoots,List.all_eq_true,bne_iff_ne,ne_eq] at h ⊢
  intro w hw u hu e
  obtain ⟨k,k1,k2⟩:=List.mem_map.1 (hk w hw)
  obtain ⟨v,v1,v2⟩:=List.mem_map.1 (hc u hu)
  exact h k k1 v v1 (by rw [k2,v2,e])
theorem dApart_ok {p q:OpR} {m m':Dm} (h1:LeD p m) (h2:LeD q m') (h:dApart m m' = true):apartR p q = true:=by
  simp only [dApart,Bool.and_eq_true] at h
  simp only [apartR,Bool.and_eq_true]
  refine ⟨⟨dOff_ok h1.ks h.1.1 fun u hu=>List.mem_map_of_mem (h2.rd u hu),dOff_ok h1.ks h.1.2 fun u hu=>?_⟩,dOff_ok h2.ks h.2 fun u hu=>List.mem_map_of_mem (h1.rd u hu)⟩
  obtain ⟨x,x1,rfl⟩:=List.mem_map.1 hu
  exact h2.ks x x1
theorem dOffFresh_ok {x:Oper} {p q:OpR} {m m':Dm} (h1:LeD p m) (h2:LeD q m') (h:dOffFresh x m m' = true):offFresh x p q = true:=by
  unfold dOffFresh at h
  unfold offFresh
  rw [h1.fr]
  cases hf:m.fr with
  | false=>rfl
  | true=>
    rw [hf] at h
    simp only [Bool.not_true,Bool.false_or] at h ⊢
    cases hd:x.dst with
    | none=>rw [hd] at h; cases h
    | some d=>
      rw [hd] at h
      simp only [Bool.and_eq_true,List.all_eq_true,Bool.not_eq_true'] at h ⊢
      obtain ⟨⟨k1,k2⟩,k3⟩:=h
      refine ⟨⟨off_sub (fun b hb=>h2.vr b (List.mem_append_left _ hb)) k1,off_sub (fun b hb=>h2.vr b (List.mem_append_right _ hb)) k1⟩,fun w hw=>⟨⟨?_,off_sub (fun b hb=>h2.wr w hw b (List.mem_append_left _ hb)) k3⟩,off_sub (fun b hb=>h2.wr w hw b (List.mem_append_right _ hb)) k3⟩⟩
      obtain ⟨k,q1,q2⟩:=List.mem_map.1 (h2.ks w hw)
      rw [← rooted_root q2]; exact k2 k q1
section
variable {U:Nat→Type} {ρ:Type} (Y:SZ U) (tbl:List (Ent U)) (fu n:Nat) (ops:Array Oper)
def dFreshOk (S:SSt U) (rs:List Dm) (i:Nat):Bool :=
  match ops[i]?,rs[i]? with
  | some x,some p=>!p.fr || match x.dst with | some d=>sclear S d | none=>false
  | _,_=>false
def dOrderOk (S:SSt U) (rs:List Dm) (bs:List (List Nat)):Bool :=
  (List.range ops.size).all fun j=>edgesOk ops j && dFreshOk ops S rs j && (List.range j).all fun i=>dPairOk ops bs rs i j
variable {Y ops}
theorem dOrder_ok {S:SSt U} {R:List OpR} {rs:List Dm} (hl:LeL R rs) (h:dOrderOk ops S rs (befores ops.toList []) = true):orderOk (denS Y S) ops R = true:=by
  unfold dOrderOk at h
  unfold orderOk
  simp only [List.all_eq_true,List.mem_range,Bool.and_eq_true] at h ⊢
  intro j hj
  obtain ⟨⟨h1,h2⟩,h3⟩:=h j hj
  refine ⟨⟨h1,?_⟩,fun i hi=>?_⟩
  · unfold dFreshOk at h2
    unfold freshOk
    split at h2
    · rename_i x p hx hp
      obtain ⟨r,hr,hle⟩:=hl.get hp
      rw [hx,hr]
      simp only
      rw [hle.fr]
      cases hf:p.fr with
      | false=>rfl
      | true=>
        rw [hf] at h2
        simp only [Bool.not_true,Bool.false_or] at h2 ⊢
        cases hd:x.dst with
        | none=>rw [hd] at h2; cases h2
        | some d=>rw [hd] at h2; exact sclear_ok h2
    · cases h2
  · have:=h3 i hi
    unfold dPairOk at this
    unfold pairOk
    split at this
    · rename_i x y p q hx hy hp hq
      obtain ⟨r,hr,hle⟩:=hl.get hp
      obtain ⟨r',hr',hle'⟩:=hl.get hq
      rw [hx,hy,hr,hr']
      simp only [Bool.and_eq_true,Bool.or_eq_true] at this ⊢
      exact ⟨dOffFresh_ok hle' hle this.1,this.2.imp id fun k=>⟨⟨k.1.1,dApart_ok hle hle' k.1.2⟩,dOffFresh_ok hle hle' k.2⟩⟩
    · cases this
variable (Y ops)
def dchk (σ:Sm) (dst:Option Nat) (S S':SSt U):Bool :=
  (if σ.fr then (match dst with | some d=>σ.ks.all (rooted d) && sclear S d | none=>false) else σ.ks.all fun k=>rk σ.rd k) &&
  (S'.W.all fun x=>rk σ.ks x.1) && (S'.X.all fun b=>rk σ.ks b && ((find S'.H b).isSome || (find S'.B b).isSome)) &&
  (S.H.all fun x=>rk σ.ks x.1 || (toksSL x.2.2).all fun b=>!S'.X.contains b) && (S'.H.all fun x=>rk σ.ks x.1 || (toksSL x.2.2).all fun b=>!S'.X.contains b)
def dmOf (σ:Sm) (dst:Option Nat) (S':SSt U):Dm :=
  ⟨σ.rd,σ.ks,σ.fr,(match dst with | some d=>refsS (getS S'.A d) ++ toksS (getS S'.A d) | none=>[]),
    (S'.H.filter fun x=>rk σ.ks x.1).flatMap fun x=>refsSL x.2.2 ++ toksSL x.2.2⟩
structure DR (T:St) (S:SSt U):Prop where
  a:∀ t,Wk (getA T.A t) (den Y.M S.B (getS S.A t))
  h:∀ b,find T.H b = find (denS Y S).H b
def noNew (S S':SSt U):Bool:=(S'.H.all fun x=>(find S.H x.1).isSome || (find S.B x.1).isSome) && (S'.B.all fun x=>(find S.H x.1).isSome || (find S.B x.1).isSome)
variable {Y n ops}
structure SmC (σ:Sm) (R:OpR) (S S':SSt U):Prop where
  rd:R.rd = σ.rd
  ks:∀ x ∈ R.ws,x.1.root ∈ σ.ks.map Oid.root ∨ ((∃ u ∈ R.rd,u.root = x.1.root)∧noNew S S' = true)
  fr:R.fresh = σ.fr
theorem dstepC {T:St} {S S':SSt U} {o:Oper} {σ:Sm} {cfg:Cfg} {call:CallF} {R:OpR} (hcall:CallOk Y.Z.P Y.Z.gl call) (hent:Enters Y.Z.P call) (hT:DR Y T S) (hd:∀ d,o.dst = some d→d < n)
    (hev:evStep0 Y.Z.tb cfg Y.Z.gl call 0 ops (denS Y S) o = some R) (hle:SmC σ R S S') (hsw:SWf ⟨updO o.dst R.v (denS Y S).A,insAll (denS Y S).H R.ws⟩ (denS Y S')) (hfr:Fr Y o.dst.toList S S') (hc:dchk σ o.dst S S' = true) :
    ∃ r T1,StepX Y.Z.P Y.Z.tb Y.Z.gl 0 ops T o r∧putO n o r T = some T1∧LeD r (dmOf σ o.dst S')∧DR Y T1 S':=by
  obtain ⟨l1,l2,l3⟩:=hle
  simp only [dchk,Bool.and_eq_true,List.all_eq_true,Bool.or_eq_true,Bool.not_eq_true'] at hc
  obtain ⟨⟨⟨⟨c1,c2⟩,c3⟩,c4⟩,c5⟩:=hc
  -- what is there stays there
  have hstay:∀ b,(find (denS Y S).H b).isSome = true→(find (denS Y S').H b).isSome = true:=by
    intro b hb
    rw [findH] at hb ⊢
    cases hq:find S.H b with
    | some p=>
      obtain ⟨wr,cs⟩:=p
      obtain ⟨cs',f1,_⟩:=hfr.h b wr cs hq
      rw [f1]; rfl
    | none=>
      rw [hq] at hb
      cases hz:find S.B b with
      | none=>rw [hz] at hb; cases hb
      | some x=>
        by_cases hx:b ∈ S'.X
        · rcases (c3 b hx).2 with h | h
          · cases hw:find S'.H b with
            | some _=>rfl
            | none=>rw [hw] at h; cases h
          · cases hw:find S'.H b with
            | some _=>rfl
            | none=>
              cases hw2:find S'.B b with
              | some _=>rfl
              | none=>rw [hw2] at h; cases h
        · obtain ⟨q1,q2⟩:=hfr.b b x hx hq hz
          rw [q1,q2]; rfl
  -- elsewhere nothing changes
  have helse:∀ b,rk σ.ks b = false→find (denS Y S').H b = find (denS Y S).H b:=by
    intro b hb
    rw [findH,findH]
    cases hq:find S.H b with
    | some p=>
      obtain ⟨wr,cs⟩:=p
      obtain ⟨cs',f1,f2,f3⟩:=hfr.h b wr cs hq
      rw [f1]
      simp only
      congr 2
      refine List.ext_getElem? fun j=>?_
      have hj:(b,j) ∉ S'.W:=fun hm=>by have:=c2 _ hm; rw [hb] at this; cases this
      have e:=f3 j hj
      have hfree:∀ (l:List (SV U)) (B:Bufs U),(∀ y ∈ toksSL l,S'.X.contains y = false)→dgL (xp S'.X) (flat Y.M B l) = flat Y.M B l:=fun l B hl=>dgL_free _ fun y hy=>hl y (toks_flat Y.ok B l y hy)
      have k1:=hfree cs S.B ((c4 _ (find_mem hq)).resolve_left (by rw [hb]; simp))
      have k2:=hfree cs' S'.B ((c5 _ (find_mem f1)).resolve_left (by rw [hb]; simp))
      rw [dgL_map] at k1 k2
      rw [← k1,← k2,List.getElem?_map,List.getElem?_map]
      exact e.symm
    | none=>
      cases hz:find S.B b with
      | some x=>
        have hx:b ∉ S'.X:=fun hm=>by have:=(c3 b hm).1; rw [hb] at this; cases this
        obtain ⟨q1,q2⟩:=hfr.b b x hx hq hz
        rw [q1,q2]
      | none=>
        simp only [Option.map_none]
        cases hw:find (denS Y S').H b with
        | none=>rw [← findH]; exact hw
        | some ob'=>
          exfalso
          obtain ⟨ob,h1,_⟩:=hsw.h b ob' hw
          simp only [find_insAll,findH,hq,hz,Option.map_none] at h1
          cases hr:find R.ws b with
          | none=>rw [hr] at h1; cases h1
          | some _=>
            rcases l2 _ (find_mem hr) with this | ⟨_,hnn⟩
            · rw [← rk_iff,hb] at this; cases this
            · simp only [noNew,Bool.and_eq_true,List.all_eq_true,Bool.or_eq_true] at hnn
              rw [findH] at hw
              cases hw1:find S'.H b with
              | some p=>
                have:=hnn.1 _ (find_mem hw1)
                simp only [hq,hz,Option.isSome_none,Bool.false_eq_true,or_self] at this
              | none=>
                rw [hw1] at hw
                cases hw2:find S'.B b with
                | none=>rw [hw2] at hw; cases hw
                | some x=>
                  have:=hnn.2 _ (find_mem hw2)
                  simp only [hq,hz,Option.isSome_none,Bool.false_eq_true,or_self] at this
  -- of the new object nothing was there
  have hnew:∀ b,rk σ.ks b = true→(∃ u ∈ R.rd,u.root = b.root) ∨ ((R.fresh = true∧∃ d,o.dst = some d∧rooted d b = true)∧find (denS Y S).H b = none):=by
    intro b hb
    rw [rk,List.any_eq_true] at hb
    obtain ⟨k,k1,k2⟩:=hb
    have k2:=of_decide_eq_true k2
    cases hf:σ.fr with
    | true=>
      right
      rw [hf] at c1
      simp only [if_true] at c1
      cases hdst:o.dst with
      | none=>rw [hdst] at c1; cases c1
      | some d=>
        rw [hdst] at c1
        simp only [Bool.and_eq_true,List.all_eq_true] at c1
        have hr:rooted d b = true:=by rw [← rooted_root k2]; exact c1.1 k k1
        refine ⟨⟨by rw [l3,hf],d,rfl,hr⟩,?_⟩
        obtain ⟨q1,q2⟩:=find_clear c1.2
        rw [findH,q1 b hr,q2 b hr]; rfl
    | false=>
      left
      rw [hf] at c1
      simp only [Bool.false_eq_true,if_false] at c1
      have:=List.all_eq_true.1 c1 k k1
      rw [rk,List.any_eq_true] at this
      obtain ⟨u,u1,u2⟩:=this
      exact ⟨u,by rw [l1]; exact u1,(of_decide_eq_true u2).trans k2⟩
  have hfw:∀ b,find ((denS Y S').H.filter fun x=>rk σ.ks x.1) b = if rk σ.ks b then find (denS Y S').H b else none:=fun b=>find_filter (fun x:Oid × Ob=>rk σ.ks x.1) (fun b=>rk σ.ks b) (fun _=>rfl) b _
  let r:OpR:={ v:=(match o.dst with | some d=>den Y.M S'.B (getS S'.A d) | none=>.undef),ws:=(denS Y S').H.filter fun x=>rk σ.ks x.1,rd:=R.rd,fresh:=R.fresh }
  have hput:∃ T1,putO n o r T = some T1∧T1.A = updO o.dst r.v T.A∧T1.H = insAll T.H r.ws:=by
    unfold putO setDst
    cases hdst:o.dst with
    | none=>exact ⟨_,rfl,rfl,rfl⟩
    | some d=>simp only [if_pos (hd d hdst)]; exact ⟨_,rfl,rfl,rfl⟩
  obtain ⟨T1,p1,p2,p3⟩:=hput
  refine ⟨r,T1,⟨cfg,call,denS Y S,R,hcall,hent,fun t _=>by rw [getS_ok]; exact hT.a t,fun b=>(hT.h b).symm,hev,?_⟩,p1,?_,?_⟩
  · refine ⟨?_,rfl,rfl,fun b ob' hb=>?_,fun b hb=>?_⟩
    · show Wk R.v (match o.dst with | some d=>den Y.M S'.B (getS S'.A d) | none=>AV.undef)
      cases hdst:o.dst with
      | none=>exact Wk.undef _
      | some d=>
        have:=hsw.a d
        rw [getS_ok] at this
        simp only [hdst,getA_upd,if_true] at this
        exact this
    · have hb:find ((denS Y S').H.filter fun x=>rk σ.ks x.1) b = some ob':=hb
      rw [hfw] at hb
      cases hk:rk σ.ks b with
      | false=>rw [hk] at hb; cases hb
      | true=>
        rw [hk] at hb
        simp only [if_true] at hb
        obtain ⟨ob,h1,h2⟩:=hsw.h b ob' hb
        refine ⟨ob,h2,?_⟩
        simp only [find_insAll] at h1
        cases hr:find R.ws b with
        | some ob1=>rw [hr] at h1; exact .inl h1
        | none=>
          rw [hr] at h1
          simp only at h1
          refine .inr ⟨rfl,h1,?_⟩
          rcases hnew b hk with h | ⟨_,h⟩
          · exact h
          · rw [h] at h1; cases h1
    · have hb:find ((denS Y S').H.filter fun x=>rk σ.ks x.1) b = none:=hb
      rw [hfw] at hb
      cases hr:find R.ws b with
      | none=>exact .inl rfl
      | some ob=>
        cases hk:rk σ.ks b with
        | true=>
          rw [hk] at hb
          simp only [if_true] at hb
          have hn:find (denS Y S).H b = none:=by
            cases hq:find (denS Y S).H b with
            | none=>rfl
            | some _=>have:=hstay b (by rw [hq]; rfl); rw [hb] at this; cases this
          refine .inr (.inr ⟨hn,fun he=>?_,(hnew b hk).imp id fun h=>h.1⟩)
          have:=hsw.p b he (by simp only [find_insAll,hr]; rfl)
          rw [hb] at this; cases this
        | false=>
          have hu:∃ u ∈ R.rd,u.root = b.root:=by
            rcases l2 _ (find_mem hr) with this | ⟨hu,_⟩
            · rw [← rk_iff,hk] at this; cases this
            · exact hu
          cases hq:find (denS Y S).H b with
          | some obS=>
            refine .inr (.inl ⟨ob,obS,rfl,rfl,?_,hu⟩)
            obtain ⟨ob1,h1,h2⟩:=hsw.h b obS (by rw [helse b hk]; exact hq)
            simp only [find_insAll,hr] at h1
            cases h1; exact h2
          | none=>
            refine .inr (.inr ⟨rfl,fun he=>?_,.inl hu⟩)
            have:=hsw.p b he (by simp only [find_insAll,hr]; rfl)
            rw [helse b hk,hq] at this; cases this
  · refine ⟨fun b hb=>by show b ∈ σ.rd; rw [← l1]; exact hb,fun x hx=>?_,l3,fun b hb=>?_,fun x hx b hb=>?_⟩
    · have hx:=(List.mem_filter.1 hx).2
      exact rk_iff.1 hx
    · show b ∈ (match o.dst with | some d=>refsS (getS S'.A d) ++ toksS (getS S'.A d) | none=>[])
      have hb:b ∈ refs (match o.dst with | some d=>den Y.M S'.B (getS S'.A d) | none=>AV.undef) ++ toks (match o.dst with | some d=>den Y.M S'.B (getS S'.A d) | none=>AV.undef):=hb
      cases hdst:o.dst with
      | none=>rw [hdst] at hb; simp [refs,toks] at hb
      | some d=>
        rw [hdst] at hb
        rcases List.mem_append.1 hb with h | h
        · rw [refs_den Y.ok] at h; exact List.mem_append_left _ h
        · exact List.mem_append_right _ (toks_den Y.ok S'.B _ b h)
    · obtain ⟨x1,x2⟩:=List.mem_filter.1 hx
      show b ∈ (S'.H.filter fun x=>rk σ.ks x.1).flatMap fun x=>refsSL x.2.2 ++ toksSL x.2.2
      rw [List.mem_flatMap]
      simp only [denS,List.mem_append,List.mem_map] at x1
      rcases x1 with ⟨y,y1,rfl⟩ | ⟨y,y1,rfl⟩
      · refine ⟨y,List.mem_filter.2 ⟨y1,x2⟩,?_⟩
        rcases List.mem_append.1 hb with h | h
        · simp only [Ob.refs,refs_flat Y.ok] at h; exact List.mem_append_left _ h
        · exact List.mem_append_right _ (toks_flat Y.ok S'.B _ b h)
      · simp [Ob.refs,Ob.toks] at hb
  · refine ⟨fun t=>?_,fun b=>?_⟩
    · rw [p2,getA_upd]
      split
      · rename_i e
        show Wk (match o.dst with | some d=>den Y.M S'.B (getS S'.A d) | none=>AV.undef) _
        rw [e]; exact Wk.refl _
      · rename_i e
        have:=hsw.a t
        rw [getS_ok] at this
        simp only [getA_upd,if_neg e,getS_ok] at this
        exact (hT.a t).trans this
    · rw [p3,find_insAll]
      show (match find ((denS Y S').H.filter fun x=>rk σ.ks x.1) b with | some ob=>some ob | none=>find T.H b) = _
      rw [hfw]
      cases hk:rk σ.ks b with
      | false=>simp only [Bool.false_eq_true,if_false]; rw [hT.h,helse b hk]
      | true=>
        simp only [if_true]
        cases hq:find (denS Y S').H b with
        | some ob=>rfl
        | none=>
          simp only
          rw [hT.h]
          cases hw:find (denS Y S).H b with
          | none=>rfl
          | some _=>have:=hstay b (by rw [hw]; rfl); rw [hq] at this; cases this
theorem dstep {T:St} {S S':SSt U} {o:Oper} {σ:Sm} {cfg:Cfg} {call:CallF} {R:OpR} (hcall:CallOk Y.Z.P Y.Z.gl call) (hent:Enters Y.Z.P call) (hT:DR Y T S) (hd:∀ d,o.dst = some d→d < n)
    (hev:evStep0 Y.Z.tb cfg Y.Z.gl call 0 ops (denS Y S) o = some R) (hle:SmLe σ R) (hsw:SWf ⟨updO o.dst R.v (denS Y S).A,insAll (denS Y S).H R.ws⟩ (denS Y S')) (hfr:Fr Y o.dst.toList S S') (hc:dchk σ o.dst S S' = true) :
    ∃ r T1,StepX Y.Z.P Y.Z.tb Y.Z.gl 0 ops T o r∧putO n o r T = some T1∧LeD r (dmOf σ o.dst S')∧DR Y T1 S' :=
  dstepC hcall hent hT hd hev ⟨hle.1,fun x hx=>.inl (hle.2.1 x hx),hle.2.2⟩ hsw hfr hc
end
end Go.Proofs.YtjojaiomgdjhfaaGreatDoor.SY
namespace Go.Proofs.YtjojaiomgdjhfaaGreatDoor.SY
open Go AE F
section
variable {U:Nat→Type} {ρ:Type} (Y:SZ U) (tbl:List (Ent U)) (fu n:Nat) (ops:Array Oper)
def dFin (σ:Sm) (dst:Option Nat) (S S':SSt U) (K:SSt U→Dm→Option ρ):Option ρ :=
  if dchk σ dst S S' then K S' (dmOf σ dst S') else none
def smCall (ids:List Oid) (S S':SSt U):Sm:=⟨ids,if S'.W.isEmpty && S'.X.isEmpty && noNew S S' then [] else ids,false⟩
def symStepD (pl:Bool) (v:Nat) (o:Oper) (S:SSt U) (K:SSt U→Dm→Option ρ):Option ρ :=
  if dstOk n o then
    match swanted ops S.A o with
    | none=>none
    | some false=>dFin ⟨[],[],false⟩ o.dst S (putD o.dst (.raw (.tuple [])) S) K
    | some true=>match o.op with
      | .store t a x=>sStore Y pl S t a x fun v S1=>dFin (smAt (evS Y S.A a)) o.dst S (putD o.dst v S1) K
      | .alloc e=>sAlloc Y S o e fun v S1=>dFin (smNew o) o.dst S (putD o.dst v S1) K
      | .box e x=>sBox Y pl S o e x fun v S1=>dFin (smNew o) o.dst S (putD o.dst v S1) K
      | .mapUpdate t m k x=>sMapSet Y S t m k x fun v S1=>dFin (smMap (evS Y S.A m)) o.dst S (putD o.dst v S1) K
      | .call c=>match c.callee with
        | .value _=>sCall Y pl tbl fu S o v fun w S2=>dFin (smCall (sIds Y pl S o) S (putD o.dst w S2)) o.dst S (putD o.dst w S2) K
        | .builtin .append=>match c.argTypes.toList,c.args.toList with
          | t :: u :: _,s :: x :: _=>sAppend Y pl (v == 1) S o t u s x fun v S1=>dFin (smAp o (evS Y S.A s) v) o.dst S (putD o.dst v S1) K
          | _,_=>none
        | _=>symE Y S o fun v=>dFin ⟨symRd Y S o,[],false⟩ o.dst S (putD o.dst v S) K
      | _=>symE Y S o fun v=>dFin ⟨symRd Y S o,[],false⟩ o.dst S (putD o.dst v S) K
  else none
def dNext (pl:Bool) (v k:Nat) (S:SSt U) (R:List Dm) (K:SSt U→List Dm→Option ρ):Option ρ :=
  match ops[k]? with
  | none=>none
  | some o=>symStepD Y tbl fu n ops pl v o (fresh0 S) fun S' m=>K (restore S S') (R ++ [m])
def symRunD:Nat→Nat→SSt U→List Dm→(SSt U→List Dm→Option ρ)→Option ρ
  | 0,_,S,R,K=>K S R
  | m + 1,k,S,R,K=>dNext Y tbl fu n ops false 0 k S R fun S' R'=>symRunD m (k + 1) S' R' K
def qObs (S:SSt U):List Oid:=S.H.map (·.1) ++ S.B.map (·.1)
def qOk (l:List Oid) (m:Dm):Bool:=m.ks.isEmpty && !m.fr && m.rd.all (fun b=>l.contains b) && m.vr.all (fun b=>l.contains b)
def qDm (l:List Oid):Dm:=⟨l,[],false,l,[]⟩
def qK {σ:Type} (S:SSt U) (m:Nat) (sh:Sh) (j:HT U sh.tys→Option σ) (S':SSt U) (R':List Dm):Option σ :=
  if R'.length = m∧R'.all (qOk (qObs S)) = true then (match extSh Y sh (fresh0 S) S' with | some z=>j z | none=>none) else none
def symD {ρ:Type}:RH→Nat→Nat→SSt U→List Dm→(SSt U→List Dm→Option ρ)→Option ρ
  | .done,k,e,S,R,K=>if k ≤ e then symRunD Y tbl fu n ops (e - k) k S R K else none
  | .run m r,k,e,S,R,K=>if k + m ≤ e then symRunD Y tbl fu n ops m k S R (fun S' R'=>symD r (k + m) e S' R' K) else none
  | .pl r,k,e,S,R,K=>if k < e then dNext Y tbl fu n ops true 0 k S R (fun S' R'=>symD r (k + 1) e S' R' K) else none
  | .call v r,k,e,S,R,K=>if k < e then dNext Y tbl fu n ops false v k S R (fun S' R'=>symD r (k + 1) e S' R' K) else none
  | .keep v r,k,e,S,R,K=>if k < e then dNext Y tbl fu n ops true v k S R (fun S' R'=>symD r (k + 1) e S' R' K) else none
  | .typ t i r,k,e,S,R,K=>match sTyp Y t i S with
    | some S1=>symD r k e S1 R K
    | none=>none
  | .split t p sh h h' r,k,e,S,R,K=>match getS S.A t with
    | .raw (.bool b)=>if k ≤ p∧p ≤ e∧sh.c.isEmpty = true∧sh.b.isEmpty = true then
      joinK (fun z:HT U sh.tys=>match injSh Y (dsH ops h k p ++ dsH ops h' k p) sh z (fresh0 S) with
        | some S1=>symD r p e (restore S S1) (R ++ List.replicate (p - k) (qDm (qObs S))) K
        | none=>none) fun j=>
      if b then symD h k p (setB t true (fresh0 S)) [] (qK Y S (p - k) sh j) else symD h' k p (setB t false (fresh0 S)) [] (qK Y S (p - k) sh j)
      else none
    | _=>none
  | .mux t p sh h h' r,k,e,S,R,K=>match getS S.A t with
    | .raw (.bool b)=>match symD h k p (setB t true (fresh0 S)) [] (qK Y S (p - k) sh some),symD h' k p (setB t false (fresh0 S)) [] (qK Y S (p - k) sh some) with
      | some x,some y=>if k ≤ p∧p ≤ e∧sh.c.isEmpty = true∧sh.b.isEmpty = true then (match injSh Y (dsH ops h k p ++ dsH ops h' k p) sh (condH b x y) (fresh0 S) with
        | some S1=>symD r p e (restore S S1) (R ++ List.replicate (p - k) (qDm (qObs S))) K
        | none=>none) else none
      | _,_=>none
    | _=>none
  | .begin ..,_,_,_,_,_=>none
  | .bego ..,_,_,_,_,_=>none
def dEnd (S0:SSt U) (K:SSt U→Option ρ) (S:SSt U) (R:List Dm):Option ρ:=if dOrderOk ops S0 R (befores ops.toList []) then K S else none
end
section
variable {U:Nat→Type} {ρ:Type} {Y:SZ U} {tbl:List (Ent U)} {fu n:Nat} {ops:Array Oper}
structure DOk (Y:SZ U) (n:Nat) (ops:Array Oper) (o:Oper) (S S':SSt U) (m:Dm):Prop where
  go:∀ T,DR Y T S→∃ r T1,StepX Y.Z.P Y.Z.tb Y.Z.gl 0 ops T o r∧putO n o r T = some T1∧LeD r m∧DR Y T1 S'
  fr:Fr Y o.dst.toList S S'
theorem dFin_ok {σ:Sm} {dst:Option Nat} {S S':SSt U} {K:SSt U→Dm→Option ρ} {r:ρ} (h:dFin σ dst S S' K = some r):dchk σ dst S S' = true∧K S' (dmOf σ dst S') = some r:=by
  unfold dFin at h
  split at h
  · rename_i hc; exact ⟨hc,h⟩
  · cases h
theorem callR_le {p:Pre} {r r':AV} {H2 ws:Heap} (hr:ren (ofExt p.ids) r = some r') (hw:renHeap (ofExt p.ids) H2 = some ws):SmLe ⟨p.ids,p.ids,false⟩ (callR p r H2):=by
    unfold callR
    rw [hr,hw]
    refine ⟨rfl,fun x hx=>?_,rfl⟩
    have hof:∀ b b':Oid,ofExt p.ids b = some b'→b'.root ∈ p.ids.map Oid.root:=by
      intro b
      induction b with
      | loc _=>intro b' h; cases h
      | ext i=>intro b' h; exact List.mem_map_of_mem (List.mem_of_getElem? h)
      | cl o j ih=>
        intro b' h
        simp only [ofExt] at h
        split at h
        · rename_i o' ho; cases h; exact ih o' ho
        · cases h
    have keys:∀ (H ws:Heap),renHeap (ofExt p.ids) H = some ws→∀ x ∈ ws,∃ b,ofExt p.ids b = some x.1:=by
      intro H
      induction H with
      | nil=>intro ws h x hx; simp only [renHeap] at h; cases h; cases hx
      | cons y H ih=>
        obtain ⟨o,ob⟩:=y
        intro ws h x hx
        simp only [renHeap] at h
        split at h
        · exact ih ws h x hx
        · rename_i o' ho
          split at h
          · rename_i ob' r' h1 h2
            cases h
            rcases List.mem_cons.1 hx with rfl | hx
            · exact ⟨o,ho⟩
            · exact ih r' h2 x hx
          · cases h
    obtain ⟨b,hb⟩:=keys H2 ws hw x hx
    exact hof b _ hb
theorem symStepD_ok (ht:∀ x ∈ tbl,OkE Y fu x) {pl:Bool} {v k:Nat} {o:Oper} (ho:ops[k]? = some o) {S:SSt U} {K:SSt U→Dm→Option ρ} {r:ρ} (h:symStepD Y tbl fu n ops pl v o S K = some r) :
    ∃ S' m,K S' m = some r∧DOk Y n ops o S S' m:=by
  unfold symStepD at h
  split at h
  case isFalse=>cases h
  rename_i hd0
  have hd:∀ d,o.dst = some d→d < n:=by
    intro d hd
    unfold dstOk at hd0
    rw [hd] at hd0
    simpa using hd0
  split at h
  · cases h
  · rename_i hw
    obtain ⟨hc,hk⟩:=dFin_ok h
    refine ⟨_,_,hk,fun T hT=>?_,Fr.put _ _⟩
    refine dstep (noCall_ok Y.Z) (noCall_ent Y.Z) (cfg:=c0) (R:={ v:=.tuple [] }) hT hd ?_ ⟨rfl,by simp,rfl⟩ ?_ (Fr.put _ _) hc
    · unfold evStep0
      rw [swanted_ok (Y:=Y) hw]
    · exact put_weak (Wk.refl _)
  · rename_i hw
    have hw':=swanted_ok (Y:=Y) hw
    have fin:∀ {σ:Sm} {w:SV U} {S1:SSt U},HFact Y S o σ w S1→dFin σ o.dst S (putD o.dst w S1) K = some r→∃ S' m,K S' m = some r∧DOk Y n ops o S S' m:=fun hf hk=>by
      obtain ⟨cfg,R,h1,h2,h3,h4,h5,h6⟩:=hf
      obtain ⟨hc,hk⟩:=dFin_ok hk
      refine ⟨_,_,hk,fun T hT=>?_,h6⟩
      refine dstep (noCall_ok Y.Z) (noCall_ent Y.Z) (cfg:=cfg) (R:=R) hT hd ?_ h4 h5 h6 hc
      unfold evStep0
      rw [hw']
      exact h1
    have finE:symE Y S o (fun v=>dFin ⟨symRd Y S o,[],false⟩ o.dst S (putD o.dst v S) K) = some r→∃ S' m,K S' m = some r∧DOk Y n ops o S S' m:=fun h=>by
      obtain ⟨w,hf,hk⟩:=symE_ok h
      exact fin hf.step hk
    split at h
    · rename_i hop; obtain ⟨w,S1,hf,hk⟩:=sStore_ok hop h; exact fin hf hk
    · rename_i hop; obtain ⟨w,S1,hf,hk⟩:=sAlloc_ok hop h; exact fin hf hk
    · rename_i hop; obtain ⟨w,S1,hf,hk⟩:=sBox_ok hop h; exact fin hf hk
    · rename_i hop; obtain ⟨w,S1,hf,hk⟩:=sMapSet_ok hop h; exact fin hf hk
    · rename_i c hop
      split at h
      · obtain ⟨w,S2,p,r0,H2,T0,k1,k2,k3,k4,k5,k6,k7⟩:=sCall_ok ht ho hw' hd h
        obtain ⟨hc,hk⟩:=dFin_ok k6
        obtain ⟨o',cfg,call,q1,q2,q3,q4,q5⟩:=call_step0 p k1 k2 k3
        rw [ho] at q1; cases q1
        have hle:SmLe ⟨sIds Y pl S o,sIds Y pl S o,false⟩ (callR p r0 H2):=by
          rw [← k7]
          unfold callPost at k3
          split at k3
          · rename_i r' ws h1 h2
            exact callR_le h1 h2
          · cases k3
        refine ⟨_,_,hk,fun T hT=>?_,k5⟩
        have hleC:SmC (smCall (sIds Y pl S o) S (putD o.dst w S2)) (callR p r0 H2) S (putD o.dst w S2):=by
          refine ⟨hle.1,fun x hx=>?_,hle.2.2⟩
          have hx2:=hle.2.1 x hx
          unfold smCall
          simp only
          split
          · rename_i hcl
            simp only [Bool.and_eq_true] at hcl
            right
            obtain ⟨u,u1,u2⟩:=List.mem_map.1 hx2
            exact ⟨⟨u,by rw [hle.1]; exact u1,u2⟩,hcl.2⟩
          · exact .inl hx2
        refine dstepC q2 q3 (cfg:=cfg) (R:=callR p r0 H2) hT hd q4 hleC ?_ k5 hc
        have e:(⟨updO o.dst (callR p r0 H2).v (denS Y S).A,insAll (denS Y S).H (callR p r0 H2).ws⟩:St) = T0:=by
          unfold putO setDst at q5
          cases hdst:o.dst with
          | none=>rw [hdst] at q5; cases q5; rfl
          | some d=>rw [hdst] at q5; simp only [if_pos (hd d hdst)] at q5; cases q5; rfl
        rw [e]; exact k4
      · rename_i hcal
        split at h
        · rename_i hts hxs
          obtain ⟨w,S1,hf,hk⟩:=sAppend_ok hop hcal hts hxs h
          exact fin hf hk
        · cases h
      · exact finE h
    · exact finE h
theorem DR.same {T:St} {S S':SSt U} (h:DR Y T S) (e:denS Y S = denS Y S'):DR Y T S' :=
  ⟨fun t=>by rw [← getS_ok,← e,getS_ok]; exact h.a t,fun b=>by rw [← e]; exact h.h b⟩
structure Inc (R R':List Dm) (R0 R0':List OpR) (T T':St) (N:List Dm) (M:List OpR):Prop where
  r:R' = R ++ N
  o:R0' = R0 ++ M
  l:LeL M N
  h:∀ b,(∀ m ∈ N,rk m.ks b = false)→find T'.H b = find T.H b
theorem LeL.append:∀ {A C:List OpR} {B D:List Dm},LeL A B→LeL C D→LeL (A ++ C) (B ++ D)
  | [],_,[],_,_,h=>h
  | _ :: _,_,_ :: _,_,h,k=>⟨h.1,LeL.append h.2 k⟩
  | [],_,_ :: _,_,h,_=>h.elim
  | _ :: _,_,[],_,h,_=>h.elim
theorem Inc.refl (R:List Dm) (R0:List OpR) (T:St):Inc R R R0 R0 T T [] []:=⟨by simp,by simp,trivial,fun _ _=>rfl⟩
theorem Inc.trans {R R1 R2:List Dm} {A A1 A2:List OpR} {T T1 T2:St} {N N':List Dm} {M M':List OpR} (h:Inc R R1 A A1 T T1 N M) (k:Inc R1 R2 A1 A2 T1 T2 N' M'):Inc R R2 A A2 T T2 (N ++ N') (M ++ M') :=
  ⟨by rw [k.r,h.r,List.append_assoc],by rw [k.o,h.o,List.append_assoc],h.l.append k.l,
    fun b hb=>(k.h b fun m hm=>hb m (List.mem_append_right _ hm)).trans (h.h b fun m hm=>hb m (List.mem_append_left _ hm))⟩
theorem dNext_ok (ht:∀ x ∈ tbl,OkE Y fu x) {S0:St} {pl:Bool} {v k:Nat} {S:SSt U} {R:List Dm} {K:SSt U→List Dm→Option ρ} {r:ρ} (h:dNext Y tbl fu n ops pl v k S R K = some r) {T:St} {R0:List OpR} (hT:DR Y T S) {Q:St→Prop}
    (hn:∀ S' R' T' R0' N M,K S' R' = some r→Fr Y (dstsR ops 1 k) S S'→DR Y T' S'→Inc R R' R0 R0' T T' N M→DD Y.Z n ops S0 (k + 1) T' R0' Q):DD Y.Z n ops S0 k T R0 Q:=by
  unfold dNext at h
  split at h
  · cases h
  rename_i o ho
  obtain ⟨S',m,hk,hok⟩:=symStepD_ok ht ho h
  obtain ⟨x,T1,h1,h2,h3,h4⟩:=hok.go T (hT.same rfl)
  refine DD.one ho h1 h2 (hn _ _ _ _ [m] [x] hk ?_ (h4.same rfl) ⟨rfl,rfl,⟨h3,trivial⟩,fun b hb=>?_⟩)
  · simp only [dstsR,ho,List.append_nil]
    exact Fr.restore hok.fr
  · have hb:=hb m List.mem_cons_self
    have hH:T1.H = insAll T.H x.ws:=by
      unfold putO at h2
      split at h2
      · cases h2; rfl
      · cases h2
    rw [hH,find_insAll]
    cases hf:find x.ws b with
    | none=>rfl
    | some ob=>
      have:=h3.ks _ (find_mem hf)
      rw [← rk_iff,hb] at this; cases this
theorem symRunD_ok (ht:∀ x ∈ tbl,OkE Y fu x) {S0:St}:∀ (m k:Nat) {S:SSt U} {R:List Dm} {K:SSt U→List Dm→Option ρ} {r:ρ},symRunD Y tbl fu n ops m k S R K = some r→∀ {T:St} {R0:List OpR},DR Y T S→∀ {Q:St→Prop},
    (∀ S' R' T' R0' N M,K S' R' = some r→Fr Y (dstsR ops m k) S S'→DR Y T' S'→Inc R R' R0 R0' T T' N M→DD Y.Z n ops S0 (k + m) T' R0' Q)→DD Y.Z n ops S0 k T R0 Q
  | 0,k,S,R,K,r,h,T,R0,hT,Q,hn=>hn S R T R0 _ _ h (Fr.refl S) hT (Inc.refl _ _ _)
  | m + 1,k,S,R,K,r,h,T,R0,hT,Q,hn=>by
    simp only [symRunD] at h
    refine dNext_ok ht h hT fun S' R' T' R0' N M h' hf hT' hi'=>?_
    refine symRunD_ok ht m (k + 1) h' hT' fun S2 R2 T2 R02 N2 M2 h2 hf2 hT2 hi2=>?_
    have:=hn S2 R2 T2 R02 _ _ h2 (by
      have:=hf.trans hf2
      simp only [dstsR,List.append_nil] at this ⊢
      exact this) hT2 (hi'.trans hi2)
    rw [show k + 1 + m = k + (m + 1) by omega]; exact this
theorem qOk_le {l:List Oid}:∀ {M:List OpR} {N:List Dm},LeL M N→N.all (qOk l) = true→LeL M (List.replicate N.length (qDm l))
  | [],[],_,_=>trivial
  | r :: M,m :: N,h,hq=>by
    simp only [List.all_cons,Bool.and_eq_true] at hq
    refine ⟨?_,qOk_le h.2 hq.2⟩
    have q:=hq.1
    simp only [qOk,Bool.and_eq_true,List.all_eq_true,Bool.not_eq_true',List.isEmpty_iff,List.contains_iff_mem] at q
    obtain ⟨⟨⟨q1,q2⟩,q3⟩,q4⟩:=q
    have hws:r.ws = []:=by
      cases hw:r.ws with
      | nil=>rfl
      | cons x _=>have:=h.1.ks x (by rw [hw]; exact List.mem_cons_self); rw [q1] at this; cases this
    refine ⟨fun b hb=>q3 b (h.1.rd b hb),fun x hx=>by (rw [hws] at hx; cases hx),by rw [h.1.fr,q2]; rfl,fun b hb=>q4 b (h.1.vr b hb),fun x hx=>by (rw [hws] at hx; cases hx)⟩
  | [],_ :: _,h,_=>h.elim
  | _ :: _,[],h,_=>h.elim
theorem injQ {D:List Nat} {sh:Sh} (hc:sh.c.isEmpty = true) (hb:sh.b.isEmpty = true) {z:HT U sh.tys} {S S1:SSt U} (h:injSh Y D sh z S = some S1):(denS Y S1).H = (denS Y S).H:=by
  obtain ⟨a,c,b⟩:=sh
  simp only [List.isEmpty_iff] at hc hb
  subst hc; subst hb
  unfold injSh at h
  split at h
  · rename_i A H hA hH
    split at h
    · rename_i H' hs
      cases h
      have e1:H = S.H:=by cases hH; rfl
      have e2:H' = H:=by cases hs; rfl
      subst e2; subst e1
      simp only [denS,Sh.zb,injB,Sh.nb,List.map_nil,List.nil_append]
      have e3:S.B.filter (fun x=>!([]:List Oid).contains x.1) = S.B:=List.filter_eq_self.2 fun x _=>rfl
      rw [e3]
    · cases h
  · cases h
theorem qK_some {σ:Type} {S:SSt U} {m:Nat} {sh:Sh} {j:HT U sh.tys→Option σ} {S':SSt U} {R':List Dm} {r:σ} (h:qK Y S m sh j S' R' = some r):R'.length = m∧R'.all (qOk (qObs S)) = true∧∃ z,extSh Y sh (fresh0 S) S' = some z∧j z = some r:=by
  unfold qK at h
  split at h
  · rename_i hc
    split at h
    · rename_i z hz; exact ⟨hc.1,hc.2,z,hz,h⟩
    · cases h
  · cases h
def DOps (Y:SZ U) (tbl:List (Ent U)) (fu n:Nat) (ops:Array Oper) (h:RH):Prop:=∀ (ρ:Type) (S0:St) (k e:Nat) (S:SSt U) (R:List Dm) (K:SSt U→List Dm→Option ρ) (r:ρ),symD Y tbl fu n ops h k e S R K = some r→∀ (T:St) (R0:List OpR),DR Y T S→∀ (Q:St→Prop),
    (∀ S' R' T' R0' N M,K S' R' = some r→Fr Y (dsH ops h k e) S S'→DR Y T' S'→Inc R R' R0 R0' T T' N M→DD Y.Z n ops S0 e T' R0' Q)→DD Y.Z n ops S0 k T R0 Q
theorem dPart {h h1 h2:RH} {S0:St} {t p k:Nat} {c b:Bool} {sh:Sh} {S:SSt U} {R:List Dm} {T:St} {R0:List OpR} {Q:St→Prop} {ρ':Type} {j:HT U sh.tys→Option ρ'} {x:ρ'} (hok:DOps Y tbl fu n ops h) (hb0:getS (fresh0 S).A t = .raw (.bool b)) (hbc:b = c)
    (hsub:∀ t ∈ dsH ops h k p,t ∈ dsH ops h1 k p ++ dsH ops h2 k p) (hc:sh.c.isEmpty = true) (hb:sh.b.isEmpty = true) (hT:DR Y T S) (h1':symD Y tbl fu n ops h k p (SY.setB t c (fresh0 S)) [] (qK Y S (p - k) sh j) = some x)
    (hn:∀ z,j z = some x→∀ S1 T' R0' M,injSh Y (dsH ops h1 k p ++ dsH ops h2 k p) sh z (fresh0 S) = some S1→Fr Y ((dsH ops h1 k p ++ dsH ops h2 k p) ++ sh.a.map (·.1)) S (SY.restore S S1)→DR Y T' (SY.restore S S1)→Inc R (R ++ List.replicate (p - k) (qDm (qObs S))) R0 R0' T T' (List.replicate (p - k) (qDm (qObs S))) M→DD Y.Z n ops S0 p T' R0' Q)
    (hinj:∀ z,j z = some x→∃ S1,injSh Y (dsH ops h1 k p ++ dsH ops h2 k p) sh z (fresh0 S) = some S1):DD Y.Z n ops S0 k T R0 Q:=by
  subst hbc
  have hT1:DR Y T (SY.setB t b (fresh0 S)):=by
    refine ⟨fun t'=>?_,fun b'=>by rw [hT.h]; rfl⟩
    have:=(setB_den (Y:=Y) hb0).a t'
    rw [getS_ok,getS_ok] at this
    exact (hT.a t').trans this
  refine hok _ S0 k p _ _ _ _ h1' T R0 hT1 Q fun S' R' T' R0' N M hk hf hT' hi=>?_
  obtain ⟨q1,q2,z,hz,hj⟩:=qK_some hk
  obtain ⟨S1,hi1⟩:=hinj z hj
  have eN:R' = N:=by rw [hi.r]; rfl
  subst eN
  obtain ⟨w1,w2⟩:=inject_ok (((Fr.setB hb0).trans hf:Fr Y ([] ++ dsH ops h k p) (fresh0 S) S')) hz hi1 (fun t ht=>.inl (hsub t ht))
  have hH:∀ b,find T'.H b = find T.H b:=fun b=>hi.h b fun m hm=>by
    have:=List.all_eq_true.1 q2 m hm
    simp only [qOk,Bool.and_eq_true,List.isEmpty_iff] at this
    rw [this.1.1.1]; rfl
  refine hn z hj S1 T' R0' M hi1 (Fr.restore w2) ⟨fun t'=>?_,fun b'=>?_⟩ ⟨rfl,hi.o,?_,fun b _=>hH b⟩
  · have:=w1.a t'
    rw [getS_ok,getS_ok] at this
    exact (hT'.a t').trans this
  · rw [hH,hT.h]
    have:=injQ hc hb hi1
    show _ = find (denS Y S1).H b'
    rw [this]; rfl
  · have:=qOk_le hi.l q2
    rw [q1] at this; exact this
theorem symD_ok (ht:∀ x ∈ tbl,OkE Y fu x):∀ h:RH,DOps Y tbl fu n ops h
  | .done=>fun ρ S0 k e S R K r h T R0 hT Q hn=>by
    simp only [symD] at h
    split at h
    · rename_i hk
      refine symRunD_ok ht _ k h hT fun S' R' T' R0' N M h' hf hT' hi'=>?_
      rw [show k + (e - k) = e by omega]
      exact hn S' R' T' R0' N M h' hf hT' hi'
    · cases h
  | .run m rr=>fun ρ S0 k e S R K r h T R0 hT Q hn=>by
    simp only [symD] at h
    split at h
    · exact symRunD_ok ht _ k h hT fun S' R' T' R0' N M h' hf hT' hi'=>symD_ok ht rr _ S0 _ e _ _ _ _ h' T' R0' hT' Q fun S2 R2 T2 R02 N2 M2 h2 hf2 hT2 hi2=>hn S2 R2 T2 R02 _ _ h2 (hf.trans hf2) hT2 (hi'.trans hi2)
    · cases h
  | .pl rr=>fun ρ S0 k e S R K r h T R0 hT Q hn=>by
    simp only [symD] at h
    split at h
    · exact dNext_ok ht h hT fun S' R' T' R0' N M h' hf hT' hi'=>symD_ok ht rr _ S0 _ e _ _ _ _ h' T' R0' hT' Q fun S2 R2 T2 R02 N2 M2 h2 hf2 hT2 hi2=>hn S2 R2 T2 R02 _ _ h2 (hf.trans hf2) hT2 (hi'.trans hi2)
    · cases h
  | .call v rr=>fun ρ S0 k e S R K r h T R0 hT Q hn=>by
    simp only [symD] at h
    split at h
    · exact dNext_ok ht h hT fun S' R' T' R0' N M h' hf hT' hi'=>symD_ok ht rr _ S0 _ e _ _ _ _ h' T' R0' hT' Q fun S2 R2 T2 R02 N2 M2 h2 hf2 hT2 hi2=>hn S2 R2 T2 R02 _ _ h2 (hf.trans hf2) hT2 (hi'.trans hi2)
    · cases h
  | .keep v rr=>fun ρ S0 k e S R K r h T R0 hT Q hn=>by
    simp only [symD] at h
    split at h
    · exact dNext_ok ht h hT fun S' R' T' R0' N M h' hf hT' hi'=>symD_ok ht rr _ S0 _ e _ _ _ _ h' T' R0' hT' Q fun S2 R2 T2 R02 N2 M2 h2 hf2 hT2 hi2=>hn S2 R2 T2 R02 _ _ h2 (hf.trans hf2) hT2 (hi'.trans hi2)
    · cases h
  | .typ t i rr=>fun ρ S0 k e S R K r h T R0 hT Q hn=>by
    simp only [symD] at h
    split at h
    · rename_i S1 hs
      obtain ⟨h1,h2⟩:=sTyp_ok hs
      refine symD_ok ht rr _ S0 k e _ _ _ _ h T R0 ⟨fun t'=>?_,fun b=>?_⟩ Q fun S2 R2 T2 R02 N2 M2 h2' hf2 hT2 hi2=>hn S2 R2 T2 R02 _ _ h2' (h2.trans hf2) hT2 hi2
      · have:=h1.a t'
        rw [getS_ok,getS_ok] at this
        exact (hT.a t').trans this
      · rw [hT.h]
        unfold sTyp at hs
        split at hs
        · cases hs; rfl
        · cases hs
    · cases h
  | .split t p sh h1 h2 rr=>fun ρ S0 k e S R K r h T R0 hT Q hn=>by
    simp only [symD] at h
    split at h
    · rename_i b hb
      split at h
      · rename_i hc
        have hb0:getS (fresh0 S).A t = .raw (.bool b):=hb
        unfold joinK at h
        have fin:∀ (c:Bool) (hq:RH),DOps Y tbl fu n ops hq→(∀ t ∈ dsH ops hq k p,t ∈ dsH ops h1 k p ++ dsH ops h2 k p)→b = c →
            symD Y tbl fu n ops hq k p (SY.setB t c (fresh0 S)) [] (qK Y S (p - k) sh fun z=>match injSh Y (dsH ops h1 k p ++ dsH ops h2 k p) sh z (fresh0 S) with
              | some S1=>symD Y tbl fu n ops rr p e (SY.restore S S1) (R ++ List.replicate (p - k) (qDm (qObs S))) K
              | none=>none) = some r→DD Y.Z n ops S0 k T R0 Q:=fun c hq hok hsub hbc h=>by
          refine dPart (R:=R) hok hb0 hbc hsub hc.2.2.1 hc.2.2.2 hT h (fun z hj S1 T' R0' M hi1 hf1 hT1 hinc=>?_) fun z hj=>?_
          · rw [hi1] at hj
            exact symD_ok ht rr _ S0 p e _ _ _ _ hj T' R0' hT1 Q fun S2 R2 T2 R02 N2 M2 h2' hf2 hT2 hi2=>hn S2 R2 T2 R02 _ _ h2' (hf1.trans hf2) hT2 (hinc.trans hi2)
          · split at hj
            · rename_i S1 hS1; exact ⟨S1,hS1⟩
            · cases hj
        split at h
        · rename_i hb1; exact fin true h1 (symD_ok ht h1) (fun t ht=>List.mem_append_left _ ht) hb1 h
        · rename_i hb1; rw [Bool.not_eq_true] at hb1; exact fin false h2 (symD_ok ht h2) (fun t ht=>List.mem_append_right _ ht) hb1 h
      · cases h
    · cases h
  | .mux t p sh h1 h2 rr=>fun ρ S0 k e S R K r h T R0 hT Q hn=>by
    simp only [symD] at h
    split at h
    · rename_i b hb
      split at h
      · rename_i x y hx hy
        split at h
        · rename_i hc
          have hb0:getS (fresh0 S).A t = .raw (.bool b):=hb
          split at h
          · rename_i S1 hi1
            have fin:∀ (c:Bool) (z:HT U sh.tys) (hq:RH),DOps Y tbl fu n ops hq→(∀ t ∈ dsH ops hq k p,t ∈ dsH ops h1 k p ++ dsH ops h2 k p)→b = c→condH b x y = z →
                symD Y tbl fu n ops hq k p (SY.setB t c (fresh0 S)) [] (qK Y S (p - k) sh some) = some z→DD Y.Z n ops S0 k T R0 Q:=fun c z hq hok hsub hbc hz hs=>by
              rw [hz] at hi1
              refine dPart (R:=R) hok hb0 hbc hsub hc.2.2.1 hc.2.2.2 hT hs (fun z' hj S1' T' R0' M hi1' hf1 hT1 hinc=>?_) fun z' hj=>?_
              · cases hj
                rw [hi1] at hi1'; cases hi1'
                exact symD_ok ht rr _ S0 p e _ _ _ _ h T' R0' hT1 Q fun S2 R2 T2 R02 N2 M2 h2' hf2 hT2 hi2=>hn S2 R2 T2 R02 _ _ h2' (hf1.trans hf2) hT2 (hinc.trans hi2)
              · cases hj; exact ⟨S1,hi1⟩
            cases hbb:b with
            | true=>exact fin true x h1 (symD_ok ht h1) (fun t ht=>List.mem_append_left _ ht) hbb (by rw [hbb]; rfl) hx
            | false=>exact fin false y h2 (symD_ok ht h2) (fun t ht=>List.mem_append_right _ ht) hbb (by rw [hbb]; rfl) hy
          · cases h
        · cases h
      · cases h
    · cases h
  | .begin b i t j rr=>fun ρ S0 k e S R K r h T R0 hT Q hn=>by simp only [symD] at h; cases h
  | .bego b i o j rr=>fun ρ S0 k e S R K r h T R0 hT Q hn=>by simp only [symD] at h; cases h
theorem symDraw_ok (ht:∀ x ∈ tbl,OkE Y fu x) {h:RH} {S:SSt U} {K:SSt U→Option ρ} {r:ρ} (hs:symD Y tbl fu n ops h 0 ops.size S [] (dEnd ops S K) = some r) {Q:St→Prop}
    (hn:∀ S',K S' = some r→Fr Y (dsH ops h 0 ops.size) S S'→Q (denS Y S')):DD Y.Z n ops (denS Y S) 0 (denS Y S) [] fun S1=>∃ S3,SWf S1 S3∧Q S3:=by
  refine symD_ok ht h _ _ 0 ops.size _ _ _ _ hs _ _ ⟨fun t=>by rw [getS_ok]; exact Wk.refl _,fun _=>rfl⟩ _ fun S' R' T' R0' N M h' hf hT' hi=>?_
  unfold dEnd at h'
  split at h'
  · rename_i ho
    have hl:LeL R0' R':=by rw [hi.r,hi.o]; exact hi.l
    refine DD.done rfl (dOrder_ok hl ho) ⟨_,⟨fun t=>?_,fun b ob' hb=>⟨ob',by rw [hT'.h]; exact hb,ObWk.rfl' _⟩,fun e he hs=>by rw [← hT'.h]; exact hs⟩,hn S' h' hf⟩
    rw [getS_ok]; exact hT'.a t
  · cases h'
theorem scDraw {id:Nat} {S:St} {Q:Ex→St→Prop} (h:DD Y.Z n ops S 0 S [] fun S1=>∃ S3,SWf S1 S3∧Q .normal S3):SC Y.Z n (.region id ops true) S Q:=by
  obtain ⟨S1,R,h1,h2,S3,hw,hq⟩:=h
  exact fun g a w hS=>drawX_good Y.Z.hP Y.Z.hm hS (by simpa using h1) (by simpa using h2) fun a' w' st=>⟨_,S3,hq,rfl,stepToF st hw⟩
end
end Go.Proofs.YtjojaiomgdjhfaaGreatDoor.SY
namespace Go.Proofs.YtjojaiomgdjhfaaGreatDoor.SY
open Go AE F
section
variable {U:Nat→Type} {ρ:Type} {Y:SZ U} {tbl:List (Ent U)} {fu n:Nat} {ops:Array Oper}
def OpsOk (Y:SZ U) (tbl:List (Ent U)) (fu n:Nat) (ops:Array Oper) (h:RH):Prop:=∀ (ρ:Type) (k e:Nat) (S:SSt U) (K:SSt U→Option ρ) (r:ρ),symOps Y tbl fu n ops h k e S K = some r→∀ (Q:St→Prop),
    (∀ S',K S' = some r→Fr Y (dsH ops h k e) S S'→Q (denS Y S'))→SO Y.Z n ops k e (denS Y S) Q
theorem symOps_ok (ht:∀ x ∈ tbl,OkE Y fu x):∀ (h:RH) {ρ:Type} (k e:Nat) {S:SSt U} {K:SSt U→Option ρ} {r:ρ},symOps Y tbl fu n ops h k e S K = some r→∀ {Q:St→Prop},
    (∀ S',K S' = some r→Fr Y (dsH ops h k e) S S'→Q (denS Y S'))→SO Y.Z n ops k e (denS Y S) Q
  | .done,ρ,k,e,S,K,r,h,Q,hn=>by
    simp only [symOps] at h
    split at h
    · rename_i hk
      refine symRun_ok ht (e - k) k (by omega) h fun S' h' hf=>?_
      rw [show k + (e - k) = e by omega]
      exact SO.done (hn S' h' hf)
    · cases h
  | .run m rr,ρ,k,e,S,K,r,h,Q,hn=>by
    simp only [symOps] at h
    split at h
    · rename_i hk
      exact symRun_ok ht m k hk h fun S' h' hf=>symOps_ok ht rr (k + m) e h' fun S2 h2 hf2=>hn S2 h2 (hf.trans hf2)
    · cases h
  | .pl rr,ρ,k,e,S,K,r,h,Q,hn=>by
    simp only [symOps] at h
    split at h
    · cases h
    rename_i o ho
    split at h
    · rename_i hk
      refine symStep_ok ht hk ho h fun S' h' hf=>symOps_ok ht rr (k + 1) e h' fun S2 h2 hf2=>hn S2 h2 ?_
      have:Fr Y (dstsR ops 1 k) S S':=by simp only [dstsR,ho,List.append_nil]; exact hf
      exact this.trans hf2
    · cases h
  | .call v rr,ρ,k,e,S,K,r,h,Q,hn=>by
    simp only [symOps] at h
    split at h
    · cases h
    rename_i o ho
    split at h
    · rename_i hk
      refine symStep_ok ht hk ho h fun S' h' hf=>symOps_ok ht rr (k + 1) e h' fun S2 h2 hf2=>hn S2 h2 ?_
      have:Fr Y (dstsR ops 1 k) S S':=by simp only [dstsR,ho,List.append_nil]; exact hf
      exact this.trans hf2
    · cases h
  | .keep v rr,ρ,k,e,S,K,r,h,Q,hn=>by
    simp only [symOps] at h
    split at h
    · cases h
    rename_i o ho
    split at h
    · rename_i hk
      refine symStep_ok ht hk ho h fun S' h' hf=>symOps_ok ht rr (k + 1) e h' fun S2 h2 hf2=>hn S2 h2 ?_
      have:Fr Y (dstsR ops 1 k) S S':=by simp only [dstsR,ho,List.append_nil]; exact hf
      exact this.trans hf2
    · cases h
  | .typ t i rr,ρ,k,e,S,K,r,h,Q,hn=>by
    simp only [symOps] at h
    split at h
    · rename_i S1 hs
      obtain ⟨h1,h2⟩:=sTyp_ok hs
      exact soWeakF h1 (symOps_ok ht rr k e h fun S2 h2' hf2=>hn S2 h2' (h2.trans hf2))
    · cases h
  | .begin b i t j rr,ρ,k,e,S,K,r,h,Q,hn=>by
    simp only [symOps] at h
    split at h
    · rename_i S1 hs
      obtain ⟨T,h1,h2,h3⟩:=sBegin_ok hs
      exact SO.begin b _ t j T h1 (soWeakF h2 (symOps_ok ht rr k e h fun S2 h2' hf2=>hn S2 h2' (h3.trans hf2)))
    · cases h
  | .bego b i o j rr,ρ,k,e,S,K,r,h,Q,hn=>by
    simp only [symOps] at h
    split at h
    · rename_i S1 hs
      obtain ⟨T,h1,h2,h3⟩:=sBegO_ok hs
      exact SO.beginO b _ o j T h1 (soWeakF h2 (symOps_ok ht rr k e h fun S2 h2' hf2=>hn S2 h2' (h3.trans hf2)))
    · cases h
  | .split t p sh hh h2 rr,ρ,k,e,S,K,r,h,Q,hn=>by
    simp only [symOps] at h
    split at h
    · rename_i b hb
      split at h
      · rename_i hk
        have hb0:getS (fresh0 S).A t = .raw (.bool b):=hb
        unfold joinK at h
        have goal:∀ (x:Bool) (hq:RH),OpsOk Y tbl fu n ops hq→(∀ t ∈ dsH ops hq k p,t ∈ dsH ops hh k p ++ dsH ops h2 k p)→b = x→symOps Y tbl fu n ops hq k p (setB t x (fresh0 S)) (fun S'=>match extSh Y sh (fresh0 S) S' with | some z=>(match injSh Y (dsH ops hh k p ++ dsH ops h2 k p) sh z (fresh0 S) with | some S1=>symOps Y tbl fu n ops rr p e (SY.restore S S1) K | none=>none) | none=>none) = some r→SO Y.Z n ops k e (denS Y S) Q:=by
          intro x hq hok hsub hx h
          subst hx
          refine SO.cut p hk.1 hk.2 ?_
          show SO Y.Z n ops k p (denS Y (fresh0 S)) _
          refine soWeakF (setB_den hb0) (hok _ k p _ _ _ h _ fun S' h' hf=>?_)
          split at h'
          · rename_i z hz
            split at h'
            · rename_i S1 hi
              obtain ⟨q1,q2⟩:=inject_ok (((Fr.setB hb0).trans hf:Fr Y ([] ++ dsH ops hq k p) (fresh0 S) S')) hz hi (fun t ht=>.inl (hsub t ht))
              exact soWeakF q1 (symOps_ok ht rr p e (S:=SY.restore S S1) h' fun S2 h3 hf2=>hn S2 h3 ((Fr.restore q2).trans hf2))
            · cases h'
          · cases h'
        cases b with
        | true=>exact goal true hh (fun ρ k e S K r h Q hn=>symOps_ok ht hh k e h hn) (fun t ht=>List.mem_append_left _ ht) rfl h
        | false=>exact goal false h2 (fun ρ k e S K r h Q hn=>symOps_ok ht h2 k e h hn) (fun t ht=>List.mem_append_right _ ht) rfl h
      · cases h
    · cases h
  | .mux t p sh hh h2 rr,ρ,k,e,S,K,r,h,Q,hn=>by
    simp only [symOps] at h
    split at h
    · rename_i b hb
      split at h
      · rename_i x y hx hy
        split at h
        · rename_i hk
          have hb0:getS (fresh0 S).A t = .raw (.bool b):=hb
          split at h
          · rename_i S1 hi
            have goal:∀ (c:Bool) (z:HT U sh.tys) (hq:RH),OpsOk Y tbl fu n ops hq→(∀ t ∈ dsH ops hq k p,t ∈ dsH ops hh k p ++ dsH ops h2 k p)→b = c→condH b x y = z→symOps Y tbl fu n ops hq k p (setB t c (fresh0 S)) (extSh Y sh (fresh0 S)) = some z→SO Y.Z n ops k e (denS Y S) Q:=by
              intro c z hq hok hsub hc hz h1
              subst hc
              rw [hz] at hi
              refine SO.cut p hk.1 hk.2 ?_
              show SO Y.Z n ops k p (denS Y (fresh0 S)) _
              refine soWeakF (setB_den hb0) (hok _ k p _ _ _ h1 _ fun S' h' hf=>?_)
              obtain ⟨q1,q2⟩:=inject_ok (((Fr.setB hb0).trans hf:Fr Y ([] ++ dsH ops hq k p) (fresh0 S) S')) h' hi (fun t ht=>.inl (hsub t ht))
              exact soWeakF q1 (symOps_ok ht rr p e (S:=SY.restore S S1) h fun S2 h3 hf2=>hn S2 h3 ((Fr.restore q2).trans hf2))
            cases b with
            | true=>exact goal true x hh (fun ρ k e S K r h Q hn=>symOps_ok ht hh k e h hn) (fun t ht=>List.mem_append_left _ ht) rfl rfl hx
            | false=>exact goal false y h2 (fun ρ k e S K r h Q hn=>symOps_ok ht h2 k e h hn) (fun t ht=>List.mem_append_right _ ht) rfl rfl hy
          · cases h
        · cases h
      · cases h
    · cases h
end
inductive Hc where
  | a
  | s (x y:Hc)
  | c (x y:Hc)
  | b (x:Hc)
  | l (sh:Sh) (x:Hc)
  | j (e:Ex) (sh:Sh) (x:Hc)
  | g (b:Oid) (i t:Nat) (j:Option Nat) (x:Hc)
  | go (b:Oid) (i:Nat) (o:Oid) (j:Nat) (x:Hc)
  | r (h:RH)
def Hc.x1:Hc→Hc
  | .s x _=>x
  | .c x _=>x
  | .b x=>x
  | _=>.a
def Hc.x2:Hc→Hc
  | .s _ y=>y
  | .c _ y=>y
  | _=>.a
def Hc.rh:Hc→RH
  | .r h=>h
  | _=>.done
section
variable {U:Nat→Type} (Y:SZ U) (tbl:List (Ent U)) (fu n:Nat)
def dsC:Nat→Hc→Code→List Nat
  | 0,_,_=>[]
  | f + 1,.j _ sh x,c=>(dsC f x c ++ sh.a.map (·.1)) ++ dsC f x c
  | f + 1,.g _ _ t _ x,c=>t :: dsC f x c
  | f + 1,.go _ _ _ _ x,c=>dsC f x c
  | f + 1,h,.region _ ops _=>dsH ops h.rh 0 ops.size
  | f + 1,h,.seq a b=>dsC f h.x1 a ++ dsC f h.x2 b
  | f + 1,h,.cond _ a b=>dsC f h.x1 a ++ dsC f h.x2 b
  | f + 1,h,.block _ b=>dsC f h.x1 b
  | f + 1,.l sh x,.loop b=>(dsC f x b ++ sh.a.map (·.1)) ++ dsC f x b
  | _,_,_=>[]
def ofSh (sh:Sh) (S0:SSt U) {σ:Type} (j:HT U sh.tys→Option σ) (S:SSt U):Option σ :=
  match extSh Y sh S0 S with
  | some z=>j z
  | none=>none
def intoSh (D:List Nat) (sh:Sh) {σ:Type} (S:SSt U) (K:SSt U→Option σ) (z:HT U sh.tys):Option σ :=
  match injSh Y D sh z S with
  | some S1=>K S1
  | none=>none
def roundK {ρ:Type} (sh:Sh) (S:SSt U) (K:Ex→SSt U→Option ρ):Ex→SSt U→Option (HT U sh.tys ⊕ ρ)
  | .normal,S'=>ofSh Y sh (fresh0 S) (fun z=>some (.inl z)) S'
  | e,S'=>(K e (restore S S')).map .inr
def seqK {ρ:Type} (k:SSt U→Option ρ) (K:Ex→SSt U→Option ρ):Ex→SSt U→Option ρ
  | .normal,S'=>k S'
  | e,S'=>K e S'
def symC {ρ:Type}:Nat→Hc→Code→SSt U→(Ex→SSt U→Option ρ)→Option ρ
  | 0,_,_,_,_=>none
  | f + 1,h,c,S,K=>match h with
    | .j e sh x=>joinK (intoSh Y (dsC f x c) sh (fresh0 S) fun S1=>K e (restore S S1)) fun j=>
      symC f x c (fresh0 S) fun e' S'=>if e' = e then ofSh Y sh (fresh0 S) j S' else K e' (restore S S')
    | .g b i t j x=>match sBegin Y b i t j S with
      | some S1=>symC f x c S1 K
      | none=>none
    | .go b i o j x=>match sBegO Y b i o j S with
      | some S1=>symC f x c S1 K
      | none=>none
    | h=>match c with
      | .skip=>K .normal S
      | .exit id=>K (.exit id) S
      | .ret=>K .ret S
      | .seq a b=>symC f h.x1 a S (seqK (fun S'=>symC f h.x2 b S' K) K)
      | .cond c a b=>match evS Y S.A c with
        | .raw (.bool t)=>if t then symC f h.x1 a S K else symC f h.x2 b S K
        | _=>none
      | .block id b=>symC f h.x1 b S fun e S'=>if e = .exit id then K .normal S' else K e S'
      | .region _ ops draw=>if draw then symD Y tbl fu n ops h.rh 0 ops.size S [] (dEnd ops S (K .normal)) else symOps Y tbl fu n ops h.rh 0 ops.size S (K .normal)
      | .loop b=>match h with
        | .l sh x=>ofSh Y sh (fresh0 S) (loopM fu (intoSh Y (dsC f x b) sh (fresh0 S) fun S1=>symC f x b S1 (roundK Y sh S K))) (fresh0 S)
        | _=>none
      | _=>none
end
section
variable {U:Nat→Type} {Y:SZ U} {tbl:List (Ent U)} {fu n:Nat}
theorem ofSh_some {sh:Sh} {σ:Type} {j:HT U sh.tys→Option σ} {S0 S:SSt U} {r:σ} (h:ofSh Y sh S0 j S = some r):∃ z,extSh Y sh S0 S = some z∧j z = some r:=by
  unfold ofSh at h
  split at h
  · rename_i z hz; exact ⟨z,hz,h⟩
  · cases h
theorem intoSh_some {D:List Nat} {sh:Sh} {σ:Type} {S:SSt U} {K:SSt U→Option σ} {z:HT U sh.tys} {r:σ} (h:intoSh Y D sh S K z = some r):∃ S1,injSh Y D sh z S = some S1∧K S1 = some r:=by
  unfold intoSh at h
  split at h
  · rename_i S1 hi; exact ⟨S1,hi,h⟩
  · cases h
theorem scEnd {c:Code} {S:St} {Q:Ex→St→Prop} (h:SC Y.Z n c S fun e T=>∃ T1,SWf T T1∧Q e T1):SC Y.Z n c S Q:=by
  intro g a w hS
  refine wp_mono (h g a w hS) ?_
  rintro e a' w' ⟨x,S',⟨T1,h1,h2⟩,h3⟩
  refine ⟨x,T1,h2,?_⟩
  cases e with
  | normal=>exact ⟨h3.1,stepToF h3.2 h1⟩
  | exit id=>exact ⟨h3.1,stepToF h3.2 h1⟩
  | ret=>exact ⟨h3.1,stepToF h3.2 h1⟩
  | goto _=>exact h3
  | panic _=>exact h3
  | outgrown=>exact h3
theorem symC_ok (ht:∀ x ∈ tbl,OkE Y fu x):∀ (f:Nat) (h:Hc) (c:Code) {ρ:Type} {S:SSt U} {K:Ex→SSt U→Option ρ} {r:ρ},symC Y tbl fu n f h c S K = some r→∀ {Q:Ex→St→Prop},
    (∀ e S',K e S' = some r→Fr Y (dsC f h c) S S'→∃ T1,SWf (denS Y S') T1∧Q e T1)→SC Y.Z n c (denS Y S) Q
  | 0,h,c,ρ,S,K,r,hs,Q,hn=>by simp [symC] at hs
  | f + 1,h,c,ρ,S,K,r,hs,Q,hn=>by
    simp only [symC] at hs
    split at hs
    · -- ways meet
      rename_i e sh x
      unfold joinK at hs
      refine symC_ok ht f x c (S:=fresh0 S) hs fun e' S' h' hfr=>?_
      split at h'
      · rename_i e1
        subst e1
        obtain ⟨z,hz,h2⟩:=ofSh_some h'
        obtain ⟨S1,hi,h3⟩:=intoSh_some h2
        obtain ⟨q1,q2⟩:=inject_ok hfr hz hi (fun t ht=>.inl ht)
        obtain ⟨T1,k1,k2⟩:=hn e' (SY.restore S S1) h3 ((Fr.restore q2).wider fun t ht=>by cases c <;> simp only [dsC,List.mem_append] at ht ⊢ <;> simp_all)
        exact ⟨T1,q1.trans k1,k2⟩
      · exact hn e' (SY.restore S S') h' ((Fr.restore hfr).wider fun t ht=>by cases c <;> simp only [dsC,List.mem_append] at ht ⊢ <;> simp_all)
    · -- a slice begins to grow
      rename_i b i t j x
      split at hs
      · rename_i S1 hb
        obtain ⟨T,h1,h2,h3⟩:=sBegin_ok hb
        refine SC.begin b _ t j T h1 (scWeakF h2 (symC_ok ht f x c hs fun e' S' h' hfr=>?_))
        have hds:dsC (f + 1) (.g b i t j x) c = t :: dsC f x c:=by cases c <;> rfl
        exact hn e' S' h' (by rw [hds]; exact h3.trans hfr)
      · cases hs
    · -- a slice begins to grow
      rename_i b i o j x
      split at hs
      · rename_i S1 hb
        obtain ⟨T,h1,h2,h3⟩:=sBegO_ok hb
        refine SC.beginO b _ o j T h1 (scWeakF h2 (symC_ok ht f x c hs fun e' S' h' hfr=>?_))
        have hds:dsC (f + 1) (.go b i o j x) c = dsC f x c:=by cases c <;> rfl
        exact hn e' S' h' (by rw [hds]; exact h3.trans hfr)
      · cases hs
    · rename_i hnj hng hgo
      split at hs
      · obtain ⟨T1,k1,k2⟩:=hn _ _ hs ((Fr.refl S).wider fun _ h=>by cases h)
        exact scWeakF k1 (SC.skip k2)
      · obtain ⟨T1,k1,k2⟩:=hn _ _ hs ((Fr.refl S).wider fun _ h=>by cases h)
        exact scWeakF k1 (SC.exit k2)
      · obtain ⟨T1,k1,k2⟩:=hn _ _ hs ((Fr.refl S).wider fun _ h=>by cases h)
        exact scWeakF k1 (SC.ret k2)
      · -- one after the other
        rename_i a b
        have hds:dsC (f + 1) h (.seq a b) = dsC f h.x1 a ++ dsC f h.x2 b:=by cases h <;> first | rfl | exact (hnj _ _ _ rfl).elim | exact (hng _ _ _ _ _ rfl).elim | exact (hgo _ _ _ _ _ rfl).elim
        refine SC.seq (symC_ok ht f h.x1 a hs fun e S' h' hfr=>?_)
        cases e with
        | normal=>
          refine ⟨denS Y S',SWf.refl,?_⟩
          show SC Y.Z n b (denS Y S') Q
          exact symC_ok ht f h.x2 b h' fun e2 S2 h2 hf2=>hn e2 S2 h2 (by rw [hds]; exact hfr.trans hf2)
        | exit id=>exact hn _ S' h' (by rw [hds]; exact hfr.wider fun t ht=>List.mem_append_left _ ht)
        | ret=>exact hn _ S' h' (by rw [hds]; exact hfr.wider fun t ht=>List.mem_append_left _ ht)
      · -- one way or the other
        rename_i c a b
        have hds:dsC (f + 1) h (.cond c a b) = dsC f h.x1 a ++ dsC f h.x2 b:=by cases h <;> first | rfl | exact (hnj _ _ _ rfl).elim | exact (hng _ _ _ _ _ rfl).elim | exact (hgo _ _ _ _ _ rfl).elim
        split at hs
        · rename_i t hc
          refine SC.cond t (by rw [evS_ok,hc]; rfl) (fun hb=>?_) fun hb=>?_
          · rw [if_pos hb] at hs
            exact symC_ok ht f h.x1 a hs fun e S' h' hfr=>hn e S' h' (by rw [hds]; exact hfr.wider fun t ht=>List.mem_append_left _ ht)
          · rw [if_neg (by rw [hb]; simp)] at hs
            exact symC_ok ht f h.x2 b hs fun e S' h' hfr=>hn e S' h' (by rw [hds]; exact hfr.wider fun t ht=>List.mem_append_right _ ht)
        · cases hs
      · rename_i id b
        have hds:dsC (f + 1) h (.block id b) = dsC f h.x1 b:=by cases h <;> first | rfl | exact (hnj _ _ _ rfl).elim | exact (hng _ _ _ _ _ rfl).elim | exact (hgo _ _ _ _ _ rfl).elim
        refine SC.block (symC_ok ht f h.x1 b hs fun e S' h' hfr=>?_)
        rw [← hds] at hfr
        split at h'
        · rename_i he
          subst he
          obtain ⟨T1,k1,k2⟩:=hn _ S' h' hfr
          exact ⟨T1,k1,by simp only [blockK,if_true]; exact k2⟩
        · rename_i he
          obtain ⟨T1,k1,k2⟩:=hn _ S' h' hfr
          refine ⟨T1,k1,?_⟩
          cases e with
          | normal=>exact k2
          | ret=>exact k2
          | exit id'=>
            simp only [blockK]
            rw [if_neg (fun e=>he (by rw [e]))]; exact k2
      · rename_i id ops draw
        have hds:dsC (f + 1) h (.region id ops draw) = dsH ops h.rh 0 ops.size:=by cases h <;> first | rfl | exact (hnj _ _ _ rfl).elim | exact (hng _ _ _ _ _ rfl).elim | exact (hgo _ _ _ _ _ rfl).elim
        cases draw with
        | true=>
          simp only [if_true] at hs
          refine scEnd (scDraw (symDraw_ok ht hs fun S' h' hfr=>?_))
          exact hn _ S' h' (by rw [hds]; exact hfr)
        | false=>
          simp only [Bool.false_eq_true,if_false] at hs
          refine scEnd (SC.region ops.size rfl (symOps_ok ht h.rh 0 ops.size hs fun S' h' hfr=>?_))
          exact hn _ S' h' (by rw [hds]; exact hfr)
      · -- rounds
        rename_i b
        split at hs
        · rename_i sh x
          obtain ⟨z0,hz0,hs⟩:=ofSh_some hs
          refine scEnd ?_
          show SC Y.Z n (.loop b) (denS Y (fresh0 S)) _
          refine SC.loopI fu (fun j T=>∃ z S1,injSh Y (dsC f x b) sh z (fresh0 S) = some S1∧SWf T (denS Y S1)∧Fr Y (dsC f x b ++ sh.a.map (·.1)) (fresh0 S) S1∧loopM j (intoSh Y (dsC f x b) sh (fresh0 S) fun S1=>symC Y tbl fu n f x b S1 (roundK Y sh S K)) z = some r) (fun j T hI=>?_) ?_
          · obtain ⟨z,S1,hi,hw,hfr,hl⟩:=hI
            refine scWeakF hw ?_
            cases j with
            | zero=>cases hl
            | succ i=>
              rw [loopM_step] at hl
              cases hb:intoSh Y (dsC f x b) sh (fresh0 S) (fun S1=>symC Y tbl fu n f x b S1 (roundK Y sh S K)) z with
              | none=>rw [hb] at hl; cases hl
              | some q=>
                obtain ⟨S1',hi',hb'⟩:=intoSh_some hb
                rw [hi] at hi'; cases hi'
                refine symC_ok ht f x b hb' fun e S' h' hf2=>?_
                have hall:=hfr.trans hf2
                have other:(K e (SY.restore S S')).map Sum.inr = some q→K e (SY.restore S S') = some r∧Fr Y (dsC (f + 1) (.l sh x) (.loop b)) S (SY.restore S S'):=fun h2=>by
                  obtain ⟨r',h3,h4⟩:=Option.map_eq_some_iff.1 h2
                  rw [hb,← h4] at hl
                  cases hl
                  exact ⟨h3,Fr.restore hall⟩
                cases e with
                | normal=>
                  obtain ⟨z',hz',h2⟩:=ofSh_some h'
                  cases h2
                  rw [hb] at hl
                  simp only at hl
                  cases i with
                  | zero=>cases hl
                  | succ i=>
                    have hl0:=hl
                    rw [loopM_step] at hl
                    cases hb2:intoSh Y (dsC f x b) sh (fresh0 S) (fun S1=>symC Y tbl fu n f x b S1 (roundK Y sh S K)) z' with
                    | none=>rw [hb2] at hl; cases hl
                    | some q2=>
                      obtain ⟨S2,hi2,_⟩:=intoSh_some hb2
                      obtain ⟨q1,q2⟩:=inject_ok hall hz' hi2 (fun t ht=>by simp only [List.mem_append] at ht; rcases ht with (h | h) | h <;> first | exact .inl h | exact .inr h)
                      exact ⟨denS Y S2,q1,i + 1,rfl,z',S2,hi2,SWf.refl,q2,hl0⟩
                | exit id=>
                  obtain ⟨h3,h4⟩:=other h'
                  obtain ⟨T1,k1,k2⟩:=hn _ _ h3 h4
                  exact ⟨denS Y S',SWf.refl,T1,k1,k2⟩
                | ret=>
                  obtain ⟨h3,h4⟩:=other h'
                  obtain ⟨T1,k1,k2⟩:=hn _ _ h3 h4
                  exact ⟨denS Y S',SWf.refl,T1,k1,k2⟩
          · cases fu with
            | zero=>cases hs
            | succ i=>
              have hs0:=hs
              rw [loopM_step] at hs
              cases hb:intoSh Y (dsC f x b) sh (fresh0 S) (fun S1=>symC Y tbl (i + 1) n f x b S1 (roundK Y sh S K)) z0 with
              | none=>rw [hb] at hs; cases hs
              | some q=>
                obtain ⟨S1,hi,_⟩:=intoSh_some hb
                obtain ⟨q1,q2⟩:=inject_ok (Fr.refl (Y:=Y) (fresh0 S)) hz0 hi (fun t ht=>by cases ht)
                exact ⟨z0,S1,hi,q1,q2,hs0⟩
        · cases hs
      · cases hs
end
end Go.Proofs.YtjojaiomgdjhfaaGreatDoor.SY
namespace Go.Proofs.YtjojaiomgdjhfaaGreatDoor.SY
open Go AE F
def del (b:Oid) (H:Heap):Heap:=H.filter fun x=>!decide (x.1 = b)
theorem find_del (b k:Oid) (H:Heap):find (del b H) k = if k = b then none else find H k:=by
  unfold del
  rw [find_filter (fun x:Oid × Ob=>!decide (x.1 = b)) (fun y=>!decide (y = b)) (fun _=>rfl)]
  by_cases h:k = b <;> simp [h]
theorem freeze {g:Gh} {H:Heap} {w:World} (h:WC g H w) {b:Oid} {cs0 cs:List AV} (hf:find H b = some (.cells .rw cs0)) (hwk:WkL cs0 cs) (hs:stillL cs = true) :
    ∃ g',WC g' (del b H) w∧Keep (fun _=>False) g g'∧Ctx w g H g' (del b H) w∧∀ v,V g (.ptr b 0) v→V g' (.pin cs) v:=by
  obtain ⟨c,m1,⟨us,ty,m2,m3⟩,m4⟩:=h.objs b _ hf
  have m3:VL g cs us.toList:=hwk.vl m3
  have hk:Keep (fun _=>False) g (g.pinAt c cs):=by
    refine ⟨fun c' o x e=>?_,fun _ _ _ h=>h,fun _ _=>.same rfl rfl⟩
    simp only [Gh.pinAt]
    split
    · rename_i e'; subst e'
      rw [m4 o] at e; exact e.elim
    · exact e
  simp only [stillL,Bool.and_eq_true,List.isEmpty_iff,List.all_eq_true] at hs
  obtain ⟨⟨hr,ht⟩,hc⟩:=hs
  have hoff:OffL (fun _=>True) cs:=⟨by simp [hr],by simp [ht]⟩
  have hnil:∀ (i:Nat) a,cs[i]? = some a→refs a = []∧toks a = []:=by
    intro i a ha
    have:=OffL.get hoff ha
    exact ⟨List.eq_nil_iff_forall_not_mem.2 fun b hb=>this.1 b hb trivial,List.eq_nil_iff_forall_not_mem.2 fun b hb=>this.2 b hb trivial⟩
  have hne:∀ b2 ob c2,find (del b H) b2 = some ob→blockOf g b2 ob = some c2→find H b2 = some ob∧c2 ≠ c:=by
    intro b2 ob c2 h1 h2
    rw [find_del] at h1
    split at h1
    · cases h1
    · rename_i hb
      refine ⟨h1,fun e=>?_⟩
      subst e
      exact hb (h.inj b2 b ob _ _ h1 hf h2 m1)
  have hblk:∀ b2 ob,blockOf (g.pinAt c cs) b2 ob = blockOf g b2 ob∧ownOf (g.pinAt c cs) b2 ob = ownOf g b2 ob:=by
    intro b2 ob
    cases ob with
    | cells wr _=>cases wr <;> exact ⟨rfl,rfl⟩
    | buf _ _=>exact ⟨rfl,rfl⟩
  have hsub:∀ b2 ob,find (del b H) b2 = some ob→find H b2 = some ob:=by
    intro b2 ob h1
    rw [find_del] at h1
    split at h1
    · cases h1
    · exact h1
  refine ⟨g.pinAt c cs,⟨fun b2=>?_,fun c' o a ha=>?_,fun b2 ob hb=>?_,fun b1 b2 o1 o2 c' h1 h2 h3 h4=>?_⟩,hk,⟨Nat.le_refl _,fun c' _ hl=>⟨rfl,fun o=>?_⟩,hk.gam,fun c' hl=>.inl ?_,fun c' hl=>.inl ?_,rfl,rfl,rfl⟩,fun v hv=>?_⟩
  · show g.tip b2 = _
    rw [h.tip]
    unfold tipOf
    rw [find_del]
    by_cases e:b2 = b
    · subst e; rw [hf,if_pos rfl]
    · rw [if_neg e]
  · simp only [Gh.pinAt] at ha
    split at ha
    · rename_i e; subst e
      obtain ⟨v,h1,h2⟩:=m3.get o a ha
      obtain ⟨n1,n2⟩:=hnil o a ha
      exact .inl ⟨hc a (List.mem_of_getElem? ha),v,by rw [cell_of_block m2,← Array.getElem?_toList]; exact h1,hk.V (Off.none _) h2,n1,n2⟩
    · exact hk.pinOk (h.pin c' o a ha) rfl
  · have h0:=h.objs b2 ob (hsub _ _ hb)
    cases ob with
    | cells wr cs'=>
      obtain ⟨c2,k1,k2,k4⟩:=h0
      have hn:=(hne b2 _ c2 hb k1).2
      exact ⟨c2,k1,hk.body (OffL.none _) rfl k2,fun o=>by simp only [Gh.pinAt]; rw [if_neg hn]; exact k4 o⟩
    | buf s n=>
      intro c2 cap hcb
      obtain ⟨us2,e2,k2,k3,k5,k4⟩:=h0 c2 cap hcb
      have hn:=(hne b2 _ c2 hb (by simp only [blockOf]; rw [show g.bufc b2 = some (c2,cap) from hcb]; rfl)).2
      exact ⟨us2,e2,k2,k3,k5,fun o ho=>by simp only [Gh.pinAt]; rw [if_neg hn]; exact k4 o ho⟩
  · rw [(hblk _ _).1] at h3 h4
    exact h.inj b1 b2 o1 o2 c' (hsub _ _ h1) (hsub _ _ h2) h3 h4
  · simp only [Gh.pinAt]
    rw [if_neg]
    intro e
    subst e
    exact hl ⟨b,_,hf,m1⟩
  · obtain ⟨b2,ob,h1,h2⟩:=hl
    rw [(hblk _ _).2] at h2
    exact ⟨b2,ob,hsub _ _ h1,h2⟩
  · obtain ⟨b2,ob,h1,h2⟩:=hl
    rw [(hblk _ _).1] at h2
    exact ⟨b2,ob,hsub _ _ h1,h2⟩
  · simp only [V] at hv ⊢
    obtain ⟨c',h1,rfl⟩:=hv
    rw [m1] at h1; cases h1
    refine ⟨c,0,rfl,fun i a ha=>?_⟩
    simp only [Gh.pinAt,if_true,Nat.zero_add]
    exact ⟨ha,hc a (List.mem_of_getElem? ha)⟩
end Go.Proofs.YtjojaiomgdjhfaaGreatDoor.SY
namespace Go.Proofs.YtjojaiomgdjhfaaGreatDoor.SY
open Go AE F
def tupH (a:AV):Option (List AV)→AV
  | none=>a
  | some l=>.tuple (a :: l)
def RetF (tb:List TI) (rs:List ResultVar) (r:AV) (H':Heap):Ex→St→Prop
  | .exit _,_=>False
  | _,S=>∃ vs,evResults tb S rs = some vs∧(∀ b ob',find H' b = some ob'→∃ ob,find S.H b = some ob∧ObWk ob ob')∧Pers S.H H' ∧
      (Wk (oneOr vs) r ∨ ∃ b cs0 cs m,Wk (oneOr vs) (tupH (.ptr b 0) m)∧Wk (tupH (.pin cs) m) r∧find S.H b = some (.cells .rw cs0)∧WkL cs0 cs∧stillL cs = true∧find H' b = none)
theorem sfIntroF {Z:Seat} {f:FuncId} {fn:Func} {c:Code} {args:List AV} {H:Heap} {r:AV} {H':Heap} (hf:Z.P.funcs[f]? = some fn) (hb:fn.body = some c)
    (hn:args.length ≤ fn.ntmps) (hnm:fn.name ≠ "runtime.NumGoroutine") (h:SC Z fn.ntmps c ⟨argSlots 0 args,H⟩ (RetF Z.tb fn.results.toList r H')):SF Z f args H r H':=by
  refine ⟨⟨fn,hf,hnm,by rw [hb]; rfl⟩,fun g vs w hw hv hgl=>?_⟩
  refine calls_of_wp hf hb ?_
  have hlen:vs.size = args.length:=by have:=VL.length hv; simpa using this
  have hS:StOk Z.gl fn.ntmps g ⟨argSlots 0 args,H⟩ { tmps:=vs ++ Array.replicate (fn.ntmps - vs.size) undef,defers:=[] } w:=by
    refine ⟨hw,fun t=>?_,by simp; omega,rfl,hgl⟩
    have:=getA_args args vs.toList 0 t hv
    rw [Nat.zero_add] at this
    show V g (getA (argSlots 0 args) t) _
    rw [Array.getD_eq_getD_getElem?,Array.getElem?_append]
    split
    · rw [Array.getElem?_toList] at this; exact this
    · rename_i hge
      rw [Array.getElem?_toList,Array.getElem?_eq_none (by omega)] at this
      have e:((Array.replicate (fn.ntmps - vs.size) undef)[t - vs.size]?).getD undef = undef:=by
        rw [Array.getElem?_replicate]; split <;> rfl
      rw [e]; exact this
  refine wp_mono (h g _ w hS) ?_
  rintro e a' w' ⟨x,S,h1,h2⟩
  have fin:∀ vs,evResults Z.tb S fn.results.toList = some vs→(∀ b ob',find H' b = some ob'→∃ ob,find S.H b = some ob∧ObWk ob ob')→Pers S.H H' →
      (Wk (oneOr vs) r ∨ ∃ b cs0 cs m,Wk (oneOr vs) (tupH (.ptr b 0) m)∧Wk (tupH (.pin cs) m) r∧find S.H b = some (.cells .rw cs0)∧WkL cs0 cs∧stillL cs = true∧find H' b = none)→StepTo Z.gl fn.ntmps g ⟨argSlots 0 args,H⟩ w S a' w' →
      a'.defers = []∧∃ v,(results fn a'.tmps).run Z.P w' = .ok v w'∧RetPost g H w r H' (.returned v) w':=by
    rintro vs1 hr hh hp hwk ⟨g1,k1,k2,k3,k4⟩
    obtain ⟨v,q1,q2⟩:=results_good Z.hP k1 hr
    rcases hwk with hwk | ⟨b,cs0,cs,m,z1,z2,z3,z4,z5,z6⟩
    · obtain ⟨l1,l2,l3⟩:=k1.wc.weak hh
      exact ⟨k1.defers,v,q1,v,_,rfl,⟨hwk _ _ (l2.V (Off.none _) q2),l1,k3.trans (l2.wider fun _ h=>h.elim),k2.trans l3,k4.trans hp⟩⟩
    · obtain ⟨g2,f1,f2,f3,f5⟩:=freeze k1.wc z3 z4 z5
      have f4:∀ v,V g1 (tupH (.ptr b 0) m) v→V g2 (tupH (.pin cs) m) v:=by
        intro v hv
        cases m with
        | none=>exact f5 v hv
        | some l=>
          obtain ⟨x,rfl,hx⟩:=hv
          obtain ⟨y,ys,e1,e2,e3⟩:=hx
          exact ⟨x,rfl,y,ys,e1,f5 y e2,f2.VL (OffL.none _) e3⟩
      obtain ⟨l1,l2,l3⟩:=f1.weak (H':=H') (fun b2 ob' hb=>by
        rw [find_del,if_neg (fun e=>by subst e; rw [z6] at hb; cases hb)]
        exact hh b2 ob' hb)
      exact ⟨k1.defers,v,q1,v,_,rfl,⟨z2 _ _ (l2.V (Off.none _) (f4 v (z1 _ _ q2))),l1,k3.trans ((f2.trans l2).wider fun _ h=>h.elim),k2.trans (f3.trans l3),k4.trans hp⟩⟩
  cases e with
  | normal=>obtain ⟨rfl,st⟩:=h2; obtain ⟨vs,p1,p3,p4,p2⟩:=h1; exact fin vs p1 p3 p4 p2 st
  | exit id=>obtain ⟨rfl,st⟩:=h2; exact h1.elim
  | ret=>obtain ⟨rfl,st⟩:=h2; obtain ⟨vs,p1,p3,p4,p2⟩:=h1; exact fin vs p1 p3 p4 p2 st
  | goto _=>exact h2.elim
  | panic _=>exact h2.elim
  | outgrown=>exact h2.elim
section
variable {U:Nat→Type} (Y:SZ U)
def sResult (S:SSt U):ResultVar→Option (SV U)
  | .tmp t=>some (getS S.A t)
  | .cell a t=>sLoad Y.M Y.Z.tb S.H t (getS S.A a)
def sResults (S:SSt U):List ResultVar→Option (List (SV U))
  | []=>some []
  | x :: r=>match sResult Y S x,sResults S r with
    | some v,some vs=>some (v :: vs)
    | _,_=>none
def sOne:List (SV U)→SV U
  | [v]=>v
  | []=>.raw (.tuple [])
  | vs=>.tup vs
def frz1 (i:Nat) (S0 S:SSt U) (b:Oid):Option (U i) :=
  match find S.H b,find S0.H b with
  | some (.rw,cs),none=>match dgSL S.B (fun _=>true) cs with
    | some cs'=>Y.M.mkT i cs'
    | none=>none
  | _,_=>none
def frzS (k:VK) (S0 S:SSt U) (v:SV U):Option (SV U) :=
  match k,v with
  | .opt i,.raw (.ptr b 0)=>match frz1 Y i S0 S b with
    | some x=>some (.opt i (some x))
    | none=>none
  | .tup (.cons (.opt i) _),.tup (.raw (.ptr b 0) :: l)=>match frz1 Y i S0 S b with
    | some x=>some (.tup (.opt i (some x) :: l))
    | none=>none
  | _,v=>some v
def finK (s:Sig) (S0:SSt U) (rs:List ResultVar):Ex→SSt U→Option (HT U s.out.tys)
  | .exit _,_=>none
  | _,S=>match sResults Y S rs with
    | some vs=>match frzS Y s.res S0 S (sOne vs) with
      | some v=>extSh Y s.out S0 ⟨[(0,v)],S.H,S.B,S.W,S.X⟩
      | none=>none
    | none=>none
def symF (tbl:List (Ent U)) (fu:Nat) (s:Sig) (h:Hc) (fn:Func) (z:HT U s.ins):Option (HT U s.out.tys) :=
  match fn.body with
  | some c=>if fn.name ≠ "runtime.NumGoroutine"∧(s.av z).length ≤ fn.ntmps then symC Y tbl fu fn.ntmps 200 h c (s.st z) (finK Y s (s.st0 z) fn.results.toList) else none
  | none=>none
variable {Y}
theorem sLoad_ev {S:SSt U} {t:TypeId} {a:SV U} {v:SV U} (h:sLoad Y.M Y.Z.tb S.H t a = some v):(evLoad Y.Z.tb (denS Y S).H t (den Y.M S.B a)).map (·.v) = some (den Y.M S.B v):=by
  unfold sLoad at h
  split at h
  · cases h
  rename_i ti hti
  unfold evLoad
  split at h
  · simp only [hti,den,takeS_ok Y.ok S.B h,Option.map_some]
  · have:=takeS_ok Y.ok S.B h
    simp only [flat,List.append_nil,den] at this
    simp only [hti,den,takeCells_drop ti _ _ this,Option.map_some]
  · rename_i b off
    split at h
    · rename_i wr cs hf
      split at h
      case isFalse=>cases h
      rename_i hrow
      simp only [hti,den,findH,hf,hrow,if_true,takeS_ok Y.ok S.B h,Option.map_some]
    · cases h
  · cases h
theorem sResults_ok {S:SSt U}:∀ {rs:List ResultVar} {vs:List (SV U)},sResults Y S rs = some vs→evResults Y.Z.tb (denS Y S) rs = some (denL Y.M S.B vs)
  | [],vs,h=>by simp only [sResults] at h; cases h; rfl
  | x :: r,vs,h=>by
    simp only [sResults] at h
    split at h
    · rename_i v vs' hv hr
      cases h
      simp only [evResults,sResults_ok hr,denL]
      have:evResult Y.Z.tb (denS Y S) x = some (den Y.M S.B v):=by
        cases x with
        | tmp t=>simp only [sResult] at hv; cases hv; simp only [evResult,getS_ok]
        | cell a t=>simp only [sResult] at hv; simp only [evResult,getS_ok]; exact sLoad_ev hv
      rw [this]
    · cases h
theorem sOne_ok {M:TM U} {B:Bufs U} (vs:List (SV U)):den M B (sOne vs) = oneOr (denL M B vs):=by
  match vs with
  | []=>rfl
  | [v]=>rfl
  | _ :: _ :: _=>rfl
theorem argS_ok {M:TM U} {B:Bufs U}:∀ (l:List (SV U)) (i:Nat),(argS i l).map (fun x=>(x.1,den M B x.2)) = argSlots i (denL M B l)
  | [],i=>rfl
  | v :: r,i=>by simp only [argS,List.map_cons,denL,argSlots,argS_ok r]
theorem setC_none {b:Oid}:∀ {l:List (Oid × Nat × VK)} {vs:List (SV U)} {H H':List (Oid × Fl × List (SV U))},setC Y l vs H = some H'→find H b = none→find H' b = none
  | [],[],H,H',h,h0=>by simp only [setC] at h; cases h; exact h0
  | [],_ :: _,H,H',h,h0=>by simp [setC] at h
  | (o,off,k) :: r,[],H,H',h,h0=>by simp [setC] at h
  | (o,off,k) :: r,v :: vs,H,H',h,h0=>by
    simp only [setC] at h
    split at h
    · rename_i w cs hf
      split at h
      · split at h
        · refine setC_none h ?_
          rw [find_ins]
          split
          · rename_i e; subst e; rw [h0] at hf; cases hf
          · exact h0
        · cases h
      · cases h
    · cases h
theorem dgH'_none {B:Bufs U} {p:Oid→Bool} {b:Oid}:∀ {H H':List (Oid × Fl × List (SV U))},dgH' B p H = some H'→find H b = none→find H' b = none
  | [],H',h,h0=>by simp only [dgH'] at h; cases h; rfl
  | (o,w,l) :: r,H',h,h0=>by
    simp only [dgH'] at h
    split at h
    · rename_i l' r' hl hr
      cases h
      simp only [find] at h0 ⊢
      split at h0
      · cases h0
      · rename_i e
        rw [if_neg e]
        exact dgH'_none hr h0
    · cases h
theorem injSh_none {D:List Nat} {sh:Sh} {z:HT U sh.tys} {S S1:SSt U} {b:Oid} (h:injSh Y D sh z S = some S1) (h0:find S.H b = none):find S1.H b = none:=by
  unfold injSh at h
  split at h
  · rename_i A H hA hH
    split at h
    · rename_i H' hC
      cases h
      refine setC_none hC ?_
      unfold baseH at hH
      split at hH
      · cases hH; exact h0
      · exact dgH'_none hH h0
    · cases h
  · cases h
theorem fin_ok {e:Ent U} {fn:Func} {z:HT U e.sig.ins} {y:HT U e.sig.out.tys} {S1 S':SSt U} {ex:Ex} {D:List Nat} (hi:injSh Y [] e.sig.out y (e.sig.st0 z) = some S1) (h':finK Y e.sig (e.sig.st0 z) fn.results.toList ex S' = some y) (hfr:Fr Y D (e.sig.st z) S') :
    RetF Y.Z.tb fn.results.toList (den Y.M S1.B (getS S1.A 0)) (denS Y S1).H ex (denS Y S'):=by
  have core:∀ (q:(match sResults Y S' fn.results.toList with | some vs=>(match frzS Y e.sig.res (e.sig.st0 z) S' (sOne vs) with | some v=>extSh Y e.sig.out (e.sig.st0 z) ⟨[(0,v)],S'.H,S'.B,S'.W,S'.X⟩ | none=>none) | none=>none) = some y),
      ∃ vs,evResults Y.Z.tb (denS Y S') fn.results.toList = some vs∧(∀ b ob',find (denS Y S1).H b = some ob'→∃ ob,find (denS Y S').H b = some ob∧ObWk ob ob')∧Pers (denS Y S').H (denS Y S1).H ∧
        (Wk (oneOr vs) (den Y.M S1.B (getS S1.A 0)) ∨ ∃ b cs0 cs m,Wk (oneOr vs) (tupH (.ptr b 0) m)∧Wk (tupH (.pin cs) m) (den Y.M S1.B (getS S1.A 0))∧find (denS Y S').H b = some (.cells .rw cs0)∧WkL cs0 cs∧stillL cs = true∧find (denS Y S1).H b = none):=by
    intro q
    split at q
    · rename_i vs hvs
      split at q
      case h_2=>cases q
      rename_i v hv
      have hfr3:Fr Y [0] (e.sig.st0 z) ⟨[(0,v)],S'.H,S'.B,S'.W,S'.X⟩:=by
        refine ⟨fun t ht=>?_,hfr.h,hfr.b,fun x hx=>(by cases hx),fun x hx=>(by cases hx),hfr.e⟩
        simp only [List.mem_singleton] at ht
        simp only [Sig.st0,getS,find]
        rw [if_neg (fun e=>ht e.symm)]
        rfl
      obtain ⟨k1,_⟩:=inject_ok hfr3 q hi (fun t ht=>.inr (by simpa [Sig.out] using ht))
      have ka:=k1.a 0
      rw [getS_ok,getS_ok] at ka
      simp only [getS,find,if_true] at ka
      refine ⟨_,sResults_ok hvs,k1.h,k1.p,?_⟩
      have one:∀ i b x,frz1 Y i (e.sig.st0 z) S' b = some x→∃ cs0:List AV,find (denS Y S').H b = some (.cells .rw cs0)∧WkL cs0 (cellsOf (Y.M.enc i x))∧stillL (cellsOf (Y.M.enc i x)) = true∧find (denS Y S1).H b = none:=by
        intro i b x hx
        unfold frz1 at hx
        split at hx
        case h_2=>cases hx
        rename_i cs h1 h2
        split at hx
        case h_2=>cases hx
        rename_i cs' h3
        refine ⟨flat Y.M S'.B cs,?_,?_,?_,?_⟩
        · rw [findH,h1]
        · refine WkL.trans (WkL.dg (fun _=>true) _) ?_
          rw [← dgSF_ok Y.ok (B':=S'.B) (fun b hb=>by cases hb) cs h3]
          exact Y.ok.mkT _ _ _ _ hx
        · have:=(members_still Y.ok [x]).2
          simpa using this
        · cases hq:find (denS Y S1).H b with
          | none=>rfl
          | some ob'=>
            obtain ⟨ob,o1,o2⟩:=k1.h b ob' hq
            rw [findH] at o1 hq
            simp only [h1] at o1
            rw [injSh_none hi h2] at hq
            simp only at hq
            cases hB:find S1.B b with
            | none=>rw [hB] at hq; cases hq
            | some bf=>
              rw [hB] at hq
              simp only [Option.map_some,Option.some.injEq] at hq o1
              subst hq; subst o1
              exact o2.elim
      unfold frzS at hv
      split at hv
      · rename_i i b hres hone
        split at hv
        case h_2=>cases hv
        rename_i x hx
        cases hv
        obtain ⟨cs0,q1,q2,q3,q4⟩:=one i b x hx
        exact .inr ⟨b,cs0,cellsOf (Y.M.enc i x),none,by rw [← sOne_ok,hone]; exact Wk.refl _,ka,q1,q2,q3,q4⟩
      · rename_i i r b l hres hone
        split at hv
        case h_2=>cases hv
        rename_i x hx
        cases hv
        obtain ⟨cs0,q1,q2,q3,q4⟩:=one i b x hx
        exact .inr ⟨b,cs0,cellsOf (Y.M.enc i x),some (denL Y.M S'.B l),by rw [← sOne_ok,hone]; exact Wk.refl _,ka,q1,q2,q3,q4⟩
      · cases hv
        rw [← sOne_ok]
        exact .inl ka
    · cases q
  cases ex with
  | normal=>exact core h'
  | ret=>exact core h'
  | exit id=>cases h'
theorem fn_ok {tbl:List (Ent U)} {fu k:Nat} {e:Ent U} {fn:Func} (hf:Y.Z.P.funcs[e.f]? = some fn) (ht:∀ x ∈ tbl,OkE Y fu x) (h:Hc) (hF:∀ z,e.F k z = symF Y tbl fu e.sig h fn z):OkE Y k e:=by
  intro z y S1 hy hi
  rw [hF z] at hy
  unfold symF at hy
  split at hy
  case h_2=>cases hy
  rename_i c hc
  split at hy
  case isFalse=>cases hy
  rename_i hcond
  refine sfIntroF hf hc (by rw [denL_map,List.length_map]; exact hcond.2) hcond.1 ?_
  have e0:(⟨argSlots 0 (denL Y.M (e.sig.st z).B (e.sig.av z)),(denS Y (e.sig.st z)).H⟩:St) = denS Y (e.sig.st z):=by
    simp only [denS]
    rw [← argS_ok]
    rfl
  rw [e0]
  exact symC_ok ht 200 h c hy fun ex S' h' hfr=>⟨denS Y S',SWf.refl,fin_ok hi h' hfr⟩
def TblOk (Y:SZ U) (tbl:List (Ent U)):Prop:=∀ k,∀ x ∈ tbl,OkE Y k x
theorem TblOk.nil:TblOk Y []:=fun _ _ h=>by cases h
theorem TblOk.cons {tbl:List (Ent U)} (ht:TblOk Y tbl) {e:Ent U} {fn:Func} (hf:Y.Z.P.funcs[e.f]? = some fn) (h:Hc) (hF:∀ k z,e.F k z = symF Y tbl k e.sig h fn z):TblOk Y (e :: tbl):=by
  intro k x hx
  rcases List.mem_cons.1 hx with rfl | hx
  · exact fn_ok hf (ht k) h (hF k)
  · exact ht k x hx
def Grp (Y:SZ U) (all:List (Ent U)):List (Ent U)→Prop
  | []=>True
  | e :: r=>(∃ fn h,Y.Z.P.funcs[e.f]? = some fn∧(∀ z,e.F 0 z = none)∧∀ k z,e.F (k + 1) z = symF Y all k e.sig h fn z)∧Grp Y all r
theorem Grp.mem {all:List (Ent U)}:∀ {es:List (Ent U)},Grp Y all es→∀ e ∈ es,∃ fn h,Y.Z.P.funcs[e.f]? = some fn∧(∀ z,e.F 0 z = none)∧∀ k z,e.F (k + 1) z = symF Y all k e.sig h fn z
  | [],_,e,h=>by cases h
  | a :: r,hg,e,h=>by
    rcases List.mem_cons.1 h with rfl | h
    · exact hg.1
    · exact Grp.mem hg.2 e h
theorem TblOk.grp {tbl:List (Ent U)} (ht:TblOk Y tbl) {es:List (Ent U)} (hg:Grp Y (es ++ tbl) es):TblOk Y (es ++ tbl):=by
  intro k
  induction k with
  | zero=>
    intro x hx
    rcases List.mem_append.1 hx with hx | hx
    · obtain ⟨fn,h,h1,h2,h3⟩:=hg.mem x hx
      intro z y S1 hy
      rw [h2 z] at hy; cases hy
    · exact ht 0 x hx
  | succ k ih=>
    intro x hx
    rcases List.mem_append.1 hx with hx | hx
    · obtain ⟨fn,h,h1,h2,h3⟩:=hg.mem x hx
      exact fn_ok h1 ih h (h3 k)
    · exact ht _ x hx
end
end Go.Proofs.YtjojaiomgdjhfaaGreatDoor.SY
namespace Go.Proofs.YtjojaiomgdjhfaaGreatDoor.SY
open Go AE F
structure Ds (U:Nat→Type) (i:Nat) where
  size:Nat
  agg:Bool
  k:VK
  to:U i→HT U (tys k [])
  of:HT U (tys k [])→U i
  enc:U i→AV
  byt:Option (List UInt8→List (U i))
  fns:List ((U i→Bool) × FuncId):=[]
  mkf:FuncId→Option (U i):=fun _=>none
  mp:Option (MpD U i):=none
def leafK:VK→Bool
  | .int _=>true
  | .bool=>true
  | .str=>true
  | .lst _=>true
  | .opt _=>true
  | _=>false
theorem leaf_den {U:Nat→Type} {M:TM U} {B:Bufs U} {k:VK} {v:SV U} (hk:leafK k = true) (h:exact1 k v = true):∀ cs,den M B v ≠ .agg cs:=by
  intro cs e
  unfold exact1 at h
  split at h <;> first | (cases h; done) | (simp [leafK] at hk; done) | (simp [den] at e; done) | skip
  rename_i x
  cases x <;> simp [den] at e
section
variable {U:Nat→Type} (d:(i:Nat)→Ds U i) (ty:List (Nat × Nat))
def mkMu (mk:(i:Nat)→List (SV U)→Option (U i)) (one:(i:Nat)→SV U→Option (U i)):TM U:=⟨fun i=>(d i).size,fun i=>(d i).agg,fun i=>(d i).enc,fun i x=>(inj (d i).k [] ((d i).to x)).1,mk,one,ty,fun i=>(d i).byt,fun i=>(d i).fns,fun i=>(d i).mp⟩
def mkM0:TM U:=mkMu d ty (fun _ _=>none) (fun _ _=>none)
def mkC:Nat→(i:Nat)→List (SV U)→Option (U i)
  | 0=>fun _ _=>none
  | n + 1=>fun i cs=>if noTipL cs then (match exl (mkMu d ty (mkC n) (fun _ _=>none)) [] (d i).k [] true cs () with | some z=>some ((d i).of z) | none=>none) else none
def mkM:TM U:=mkMu d ty (mkC d ty 4)
  fun i v=>match v with
    | .typ j x=>if h:j = i then some (h ▸ x) else none
    | .fn f [] []=>(d i).mkf f
    | v=>if exact1 (d i).k v && !(d i).agg && noTip v && leafK (d i).k then (match exl (mkM0 d ty) [] (d i).k [] false [v] () with | some z=>some ((d i).of z) | none=>none) else none
structure DsOk {i:Nat} (M0:TM U) (e:Ds U i):Prop where
  view:∀ B x,flat M0 B (inj e.k [] (e.to x)).1 = cellsOf (e.enc x)
  back:∀ z,e.to (e.of z) = z
  shape:∀ x,if e.agg = true then ∃ cs,e.enc x = .agg cs else cellOk (e.enc x) = true
  size:∀ x,(cellsOf (e.enc x)).length = e.size
  refs:∀ x,refs (e.enc x) = []
  toks:∀ x,toks (e.enc x) = []
  clean:∀ x,AE.clean (e.enc x) = e.enc x
  cells:∀ x,(cellsOf (e.enc x)).all cellOk = true
  byt:∀ f,e.byt = some f→e.size = 1∧∀ l,(f l).map e.enc = l.map fun b=>AV.int .u8 b.toNat
  fns:∀ p f x,(p,f) ∈ e.fns→p x = true→e.enc x = .fn (.func f) [] []
  mkf:∀ f x,e.mkf f = some x→e.enc x = .fn (.func f) [] []
  mp:∀ m,e.mp = some m→(∀ x,e.enc x = .mapf ((m.list x).map fun p=>encK M0 m.kk p.1) ((m.list x).map fun p=>encK M0 m.vk p.2))∧∀ l,m.list (m.back l) = l
variable {d ty}
section
variable {mk:(i:Nat)→List (SV U)→Option (U i)} {one:(i:Nat)→SV U→Option (U i)}
mutual
theorem den_m0 (B:Bufs U):∀ v:SV U,den (mkM0 d ty) B v = den (mkMu d ty mk one) B v
  | .raw _=>rfl
  | .typ _ _=>rfl
  | .lst _ _ _=>rfl
  | .tip _=>rfl
  | .opt _ none=>rfl
  | .opt _ (some _)=>rfl
  | .pint _ _ _=>rfl
  | .arr _ _=>rfl
  | .pin l=>by simp only [den,flat_m0 B l]
  | .agg l=>by simp only [den,flat_m0 B l]
  | .tup l=>by simp only [den,denL_m0 B l]
  | .fn f a b=>by simp only [den,denL_m0 B a,denL_m0 B b]
theorem denL_m0 (B:Bufs U):∀ l:List (SV U),denL (mkM0 d ty) B l = denL (mkMu d ty mk one) B l
  | []=>rfl
  | v :: r=>by simp only [denL,den_m0 B v,denL_m0 B r]
theorem flat_m0 (B:Bufs U):∀ l:List (SV U),flat (mkM0 d ty) B l = flat (mkMu d ty mk one) B l
  | []=>rfl
  | v :: r=>by simp only [flat,den_m0 B v,flat_m0 B r]
end
end
def tyOk (M:TM U) (tb:List TI):Bool:=M.ofTy.all (fun p=>match tb[p.1]? with | some ti=>ti.size == M.size p.2 && ti.agg == M.agg p.2 && decide (0 < M.size p.2) | none=>false)
theorem mkM0_ok {tb:List TI} (h:∀ i,DsOk (mkM0 d ty) (d i)) (ht:tyOk (mkM0 d ty) tb = true):TMOk (mkM0 d ty) tb :=
  ⟨fun B i x=>(h i).view B x,fun i x=>(h i).shape x,fun i x=>(h i).size x,fun i x=>(h i).refs x,fun i x=>(h i).toks x,fun i x=>(h i).clean x,fun i x=>(h i).cells x,fun B i cs x h=>by (cases h),fun B i v x h=>by (cases h),fun i=>(h i).byt,fun i=>(h i).fns,fun i=>(h i).mp,ht⟩
theorem mkC_ok {tb:List TI} (h:∀ i,DsOk (mkM0 d ty) (d i)) (ht:tyOk (mkM0 d ty) tb = true):∀ n (B:Bufs U) i cs x,mkC d ty n i cs = some x→WkL (flat (mkM0 d ty) B cs) (cellsOf ((d i).enc x))
  | 0,B,i,cs,x,hx=>by cases hx
  | n + 1,B,i,cs,x,hx=>by
    have h0:TMOk (mkMu d ty (mkC d ty n) (fun _ _=>none)) tb :=
      ⟨fun B i x=>by rw [← flat_m0]; exact (h i).view B x,fun i x=>(h i).shape x,fun i x=>(h i).size x,fun i x=>(h i).refs x,fun i x=>(h i).toks x,fun i x=>(h i).clean x,fun i x=>(h i).cells x,
        fun B i cs x h'=>by rw [← flat_m0]; exact mkC_ok h ht n B i cs x h',fun B i v x h=>by (cases h),fun i=>(h i).byt,fun i=>(h i).fns,fun i=>(h i).mp,ht⟩
    simp only [mkC] at hx
    split at hx
    · rename_i hn
      split at hx
      · rename_i z hz
        cases hx
        rw [noTip_flat (B':=[]) cs hn]
        obtain ⟨_,_,w⟩:=exl_ok h0 (B':=[]) _ _ _ _ _ (fun _ _=>rfl) hz
        have:=w (.inl rfl)
        have hv:=(h i).view [] ((d i).of z)
        rw [(h i).back] at hv
        rw [← flat_m0,← flat_m0,hv] at this
        exact this
      · cases hx
    · cases hx
theorem mkM_ok {tb:List TI} (h:∀ i,DsOk (mkM0 d ty) (d i)) (ht:tyOk (mkM0 d ty) tb = true):TMOk (mkM d ty) tb:=by
  have h0:=mkM0_ok h ht
  refine ⟨fun B i x=>by unfold mkM; rw [← flat_m0]; exact (h i).view B x,fun i x=>(h i).shape x,fun i x=>(h i).size x,fun i x=>(h i).refs x,fun i x=>(h i).toks x,fun i x=>(h i).clean x,fun i x=>(h i).cells x,fun B i cs x hx=>by unfold mkM; rw [← flat_m0]; exact mkC_ok h ht 4 B i cs x hx,fun B i v x hx=>?_,fun i=>(h i).byt,fun i=>(h i).fns,fun i=>(h i).mp,ht⟩
  · have main:(if (exact1 (d i).k v && !(d i).agg && noTip v && leafK (d i).k) = true then (match exl (mkM0 d ty) [] (d i).k [] false [v] () with | some z=>some ((d i).of z) | none=>none) else none) = some x→den (mkM d ty) B v = (mkM d ty).enc i x:=by
      intro hx
      split at hx
      · rename_i hc
        simp only [Bool.and_eq_true,Bool.not_eq_true'] at hc
        split at hx
        · rename_i z hz
          cases hx
          have he:=exact1_ok hc.1.1.1 hz
          have hv:=(h i).view [] ((d i).of z)
          rw [(h i).back,he] at hv
          have hsh:=(h i).shape ((d i).of z)
          rw [if_neg (by simp [hc.1.1.2])] at hsh
          rw [cellsOf_one hsh] at hv
          show den (mkM d ty) B v = (d i).enc ((d i).of z)
          unfold mkM
          rw [← den_m0,noTip_den (B':=[]) v hc.1.2]
          simp only [flat,List.append_nil] at hv
          rw [cells_nonagg _ (leaf_den hc.2 hc.1.1.1)] at hv
          exact (List.cons.inj hv).1
        · cases hx
      · cases hx
    cases v with
    | typ j y=>
      have hx:(if h:j = i then some (h ▸ y) else none) = some x:=hx
      split at hx
      · rename_i e; subst e; cases hx; rfl
      · cases hx
    | fn f a b=>
      cases a with
      | nil=>cases b with
        | nil=>
          have hx:(d i).mkf f = some x:=hx
          show AV.fn (.func f) [] [] = (d i).enc x
          exact ((h i).mkf f x hx).symm
        | cons _ _=>exact main hx
      | cons _ _=>exact main hx
    | _=>exact main hx
end
end Go.Proofs.YtjojaiomgdjhfaaGreatDoor.SY
namespace Go.Proofs.YtjojaiomgdjhfaaGreatDoor.SY
open Go AE F
theorem TblOk.ext {U:Nat→Type} {Y:SZ U} {tbl:List (Ent U)} (ht:TblOk Y tbl) {e:Ent U} (he:∀ k,OkE Y k e):TblOk Y (e :: tbl):=by
  intro k x hx
  rcases List.mem_cons.1 hx with rfl | hx
  · exact he k
  · exact ht k x hx
theorem sf_same {Z:Seat} {f:FuncId} {args:List AV} {r:AV} (h1:∃ fn,Z.P.funcs[f]? = some fn∧fn.name ≠ "runtime.NumGoroutine"∧fn.body.isSome = true)
    (h:∀ g (vs:Array Value) w,VL g args vs.toList→∃ v,Calls Z.P f vs w (fun e w'=>e = .returned v∧w' = w)∧∀ g',V g' r v):SF Z f args [] r []:=by
  refine ⟨h1,fun g vs w hw hv _=>?_⟩
  obtain ⟨v,hc,hr⟩:=h g vs w hv
  refine hc.mono ?_
  rintro e w' ⟨rfl,rfl⟩
  exact ⟨v,g,rfl,⟨hr g,hw,⟨fun _ _ _ h=>h,fun _ _ _ h=>h,fun _ _=>.same rfl rfl⟩,Ctx.refl _ _ _,fun _ _ h=>h⟩⟩
theorem still_strs:∀ l:List (List UInt8),stillL (l.map fun x=>AV.str x) = true∧(l.map fun x=>AV.str x).flatMap cellsOf = l.map fun x=>AV.str x
  | []=>⟨rfl,rfl⟩
  | b :: r=>by
    obtain ⟨h1,h2⟩:=still_strs r
    simp only [stillL,Bool.and_eq_true,List.isEmpty_iff] at h1 ⊢
    refine ⟨⟨⟨by simp [refsL,refs,h1.1.1],by simp [toksL,toks,h1.1.2]⟩,by simp only [List.map_cons,List.all_cons,h1.2]; rfl⟩,?_⟩
    simp only [List.map_cons,List.flatMap_cons,h2]; rfl
theorem vl_strs (g:Gh):∀ l:List (List UInt8),VL g (l.map fun x=>AV.str x) (l.map fun x=>Value.string ⟨x.toArray⟩)
  | []=>rfl
  | b :: r=>⟨_,_,rfl,rfl,vl_strs g r⟩
theorem sf_strs {Z:Seat} {f:FuncId} {args:List AV} {l:List (List UInt8)} (h1:∃ fn,Z.P.funcs[f]? = some fn∧fn.name ≠ "runtime.NumGoroutine"∧fn.body.isSome = true)
    (h:∀ g (vs:Array Value) w,WC g [] w→VL g args vs.toList→Glob Z.gl g→∃ t,Calls Z.P f vs w fun e w'=>e = .returned (.slice (some ⟨w.heap.size,0,none⟩) l.length l.length)∧w' = w.alloc (.cells (l.map fun x=>Value.string ⟨x.toArray⟩).toArray t)) :
    SF Z f args [] (.slice .none 1 (l.map fun x=>AV.str x)) []:=by
  refine ⟨h1,fun g vs w hw hv hg=>?_⟩
  obtain ⟨t,hc⟩:=h g vs w hw hv hg
  refine hc.mono ?_
  rintro e w' ⟨rfl,rfl⟩
  obtain ⟨st1,st2⟩:=still_strs l
  obtain ⟨n1,n2⟩:=hw.newPin (l.map fun x=>AV.str x) (l.map fun x=>Value.string ⟨x.toArray⟩).toArray t (by rw [List.take_of_length_le (by simp)]; exact vl_strs g l) st1
  refine ⟨_,g.pinAt w.heap.size (l.map fun x=>AV.str x),rfl,⟨?_,n1,Keep.pinAt hw _ _,n2,fun _ _ h=>h⟩⟩
  simp only [V]
  refine .inr ⟨w.heap.size,0,l.length,by simp,by simp,fun x hx=>?_,?_,trivial⟩
  · obtain ⟨b,_,rfl⟩:=List.mem_map.1 hx
    rfl
  · rw [st2]
    intro i x hx
    simp only [Gh.pinAt,if_true,Nat.zero_add]
    exact ⟨hx,(still_nil st1 i x hx).2.2⟩
end Go.Proofs.YtjojaiomgdjhfaaGreatDoor.SY
namespace Go.Proofs.YtjojaiomgdjhfaaGreatDoor.SY
open Go AE F
section
variable {U:Nat→Type} {ρ:Type} (Y:SZ U)
def FrX (S0 S:SSt U):Prop:=∃ D,Fr Y D S0 S
def sclearN (S:SSt U) (d:Nat):Bool :=
  (S.A.all fun x=>offS d (refsS x.2) && offS d (toksS x.2)) &&
  (S.H.all fun x=>!rooted d x.1 && offS d (refsSL x.2.2) && offS d (toksSL x.2.2)) && S.B.all fun x=>!rooted d x.1
def newSV (f:Fl) (i:Nat):Option (List (SV U)) :=
  match f with
  | .mw=>match Y.M.mp i with
    | some p=>some [.typ i (p.back [])]
    | none=>none
  | .mk _ [] _=>some []
  | _=>none
mutual
def sSub (b:Oid) (z:SV U):SV U→Option (SV U)
  | .raw a=>match a with
    | .mapr c=>some (if c = b then z else .raw (.mapr c))
    | a=>if (refs a).contains b then none else some (.raw a)
  | .agg l=>(sSubL b z l).map .agg
  | .tup l=>(sSubL b z l).map .tup
  | .fn f x y=>match sSubL b z x,sSubL b z y with
    | some x',some y'=>some (.fn f x' y')
    | _,_=>none
  | .pin l=>some (.pin l)
  | v=>some v
def sSubL (b:Oid) (z:SV U):List (SV U)→Option (List (SV U))
  | []=>some []
  | v :: r=>match sSub b z v,sSubL b z r with
    | some v',some r'=>some (v' :: r')
    | _,_=>none
end
def sSubA (b:Oid) (z:SV U):List (Nat × SV U)→Option (List (Nat × SV U))
  | []=>some []
  | (t,v) :: r=>match sSub b z v,sSubA b z r with
    | some v',some r'=>some ((t,v') :: r')
    | _,_=>none
def sSubH (b:Oid) (z:SV U):List (Oid × Fl × List (SV U))→Option (List (Oid × Fl × List (SV U)))
  | []=>some []
  | (o,f,l) :: r=>if o = b then sSubH b z r else match sSubL b z l,sSubH b z r with
    | some l',some r'=>some ((o,f,l') :: r')
    | _,_=>none
def sVals (B:Bufs U) (j:Nat) (n:Nat):List Int→List (SV U)→Option (List (Int × U j))
  | [],[]=>some []
  | k :: ks,cs=>match splitS Y.M 300 n cs with
    | some p=>match exl Y.M B (.typ j) [] true [wrap Y.M true p.1] (),sVals B j n ks p.2 with
      | some v,some r=>some ((k,(show U j from v)) :: r)
      | _,_=>none
    | none=>none
  | _,_=>none
def sPlain (S:SSt U) (b:Oid) (i:Nat):Option (U i) :=
  match find S.H b with
  | some (.mw,[.typ j x])=>if h:j = i then some (h ▸ x) else none
  | some (.mk kd ks n,cs)=>match Y.M.mp i with
    | some p=>match p with
      | ⟨.int kd',.typ j,list,back⟩=>if kd' = kd∧Y.M.agg j = true∧Y.M.size j = n then (match dgSL S.B (fun _=>true) cs with
        | some cs'=>match sVals Y S.B j n ks cs' with
          | some l=>some (back l)
          | none=>none
        | none=>none) else none
      | _=>none
    | none=>none
  | _=>none
def sFrz (S0 S:SSt U) (b:Oid) (i:Nat):Option (SSt U) :=
  if (find S0.H b).isNone && (find S.B b).isNone && !isExtB b && (S.H.all fun x=>decide (x.1 = b) || (find S0.H x.1).isNone || !(refsSL x.2.2).contains b) then
    match Y.M.mp i,sPlain Y S b i with
    | some _,some x=>match sSubA b (.typ i x) S.A,sSubH b (.typ i x) S.H with
      | some A,some H=>some { S with A,H }
      | _,_=>none
    | _,_=>none
  else none
end
section
variable {U:Nat→Type} {ρ:Type} {Y:SZ U}
theorem sclearN_ok {S:SSt U} {d:Nat} (h:sclearN S d = true):clearN (denS Y S) d = true∧find S.H (.loc d) = none:=by
  simp only [sclearN,Bool.and_eq_true,List.all_eq_true] at h
  obtain ⟨⟨h1,h2⟩,h3⟩:=h
  refine ⟨?_,?_⟩
  · simp only [clearN,denS,Bool.and_eq_true,List.all_eq_true,List.mem_map,List.mem_append]
    refine ⟨?_,?_⟩
    · rintro x ⟨y,hy,rfl⟩
      obtain ⟨k1,k2⟩:=h1 y hy
      refine ⟨?_,?_⟩
      · rw [Bool.not_eq_true',off_sub (fun b hb=>by rw [refs_den Y.ok] at hb; exact hb) k1]
      · rw [Bool.not_eq_true',off_sub (toks_den Y.ok S.B y.2) k2]
    · rintro x (⟨y,hy,rfl⟩ | ⟨y,hy,rfl⟩)
      · obtain ⟨⟨k0,k1⟩,k2⟩:=h2 y hy
        refine ⟨⟨k0,?_⟩,?_⟩
        · rw [Bool.not_eq_true',off_sub (fun b hb=>by simp only [Ob.refs] at hb; rw [refs_flat Y.ok] at hb; exact hb) k1]
        · show (!(toksL (flat Y.M S.B y.2.2)).any (rooted d)) = true
          rw [Bool.not_eq_true',off_sub (toks_flat Y.ok S.B y.2.2) k2]
      · have:=h3 y hy
        simp only [Ob.refs,Ob.toks,List.any_nil]
        exact ⟨⟨this,rfl⟩,rfl⟩
  · cases hq:find S.H (.loc d) with
    | none=>rfl
    | some p=>
      obtain ⟨⟨k0,_⟩,_⟩:=h2 _ (find_mem hq)
      rw [rooted_loc] at k0; cases k0
theorem newSV_ok {f:Fl} {i:Nat} {cs:List (SV U)} (h:newSV Y f i = some cs) (B:Bufs U):newCs f = some (flat Y.M B cs):=by
  unfold newSV at h
  split at h
  · split at h
    · rename_i p hp
      cases h
      obtain ⟨e1,e2⟩:=Y.ok.mp i p hp
      simp only [newCs,flat,den,e1,e2,List.map_nil,cellsOf,List.append_nil]
    · cases h
  · cases h; rfl
  · cases h
mutual
theorem sub_free {b:Oid} {z:AV}:∀ a:AV,b ∉ refs a→subM b z a = a
  | .mapr c,h=>by simp only [subM]; rw [if_neg]; rintro rfl; exact h (by simp [refs])
  | .fn f x y,h=>by simp only [refs,List.mem_append,not_or] at h; simp only [subM,subL_free x h.1,subL_free y h.2]
  | .iface t v,h=>by simp only [refs] at h; simp only [subM,sub_free v h]
  | .agg cs,h=>by simp only [refs] at h; simp only [subM,subL_free cs h]
  | .tuple cs,h=>by simp only [refs] at h; simp only [subM,subL_free cs h]
  | .undef,_=>rfl
  | .bool _,_=>rfl
  | .int _ _,_=>rfl
  | .str _,_=>rfl
  | .nilp,_=>rfl
  | .ptr _ _,_=>rfl
  | .pin _,_=>rfl
  | .nils,_=>rfl
  | .slice _ _ _,_=>rfl
  | .mref _ _ _ _ _,_=>rfl
  | .nilm,_=>rfl
  | .mapf _ _,_=>rfl
  | .nilf,_=>rfl
  | .nili,_=>rfl
theorem subL_free {b:Oid} {z:AV}:∀ l:List AV,b ∉ refsL l→subML b z l = l
  | [],_=>rfl
  | v :: r,h=>by simp only [refsL,List.mem_append,not_or] at h; simp only [subML,sub_free v h.1,subL_free r h.2]
end
mutual
theorem sSub_ok {B:Bufs U} {b:Oid} {i:Nat} {x:U i} (hz:∃ ks vs,Y.M.enc i x = .mapf ks vs):∀ (v:SV U) {v':SV U},sSub b (.typ i x) v = some v'→den Y.M B v' = subM b (Y.M.enc i x) (den Y.M B v)
  | .raw a,v',h=>by
    unfold sSub at h
    split at h
    · rename_i c
      cases h
      simp only [den,subM]
      by_cases e:c = b
      · rw [if_pos e,if_pos e]; rfl
      · rw [if_neg e,if_neg e]; rfl
    · split at h
      · cases h
      · rename_i hc
        cases h
        simp only [den]
        rw [sub_free _ (by simpa using hc)]
  | .agg l,v',h=>by
    simp only [sSub] at h
    obtain ⟨l',h1,rfl⟩:=Option.map_eq_some_iff.1 h
    simp only [den,subM,sSubF_ok hz l h1]
  | .tup l,v',h=>by
    simp only [sSub] at h
    obtain ⟨l',h1,rfl⟩:=Option.map_eq_some_iff.1 h
    simp only [den,subM,sSubL_ok hz l h1]
  | .fn f p q,v',h=>by
    simp only [sSub] at h
    split at h
    · rename_i p' q' h1 h2
      cases h
      simp only [den,subM,sSubL_ok hz p h1,sSubL_ok hz q h2]
    · cases h
  | .pin l,v',h=>by simp only [sSub] at h; cases h; simp only [den,subM]
  | .typ j y,v',h=>by
    simp only [sSub] at h; cases h
    simp only [den]
    rw [sub_free _ (by rw [Y.ok.refs]; simp)]
  | .lst _ _ _,v',h=>by simp only [sSub] at h; cases h; rfl
  | .tip c,v',h=>by
    simp only [sSub] at h; cases h
    simp only [den]
    split <;> rfl
  | .opt _ none,v',h=>by simp only [sSub] at h; cases h; rfl
  | .opt _ (some _),v',h=>by simp only [sSub] at h; cases h; rfl
  | .pint _ _ _,v',h=>by simp only [sSub] at h; cases h; rfl
  | .arr j l,v',h=>by
    simp only [sSub] at h; cases h
    rw [sub_free]
    rw [refs_den Y.ok]; simp [refsS]
theorem sSubL_ok {B:Bufs U} {b:Oid} {i:Nat} {x:U i} (hz:∃ ks vs,Y.M.enc i x = .mapf ks vs):∀ (l:List (SV U)) {l':List (SV U)},sSubL b (.typ i x) l = some l'→denL Y.M B l' = subML b (Y.M.enc i x) (denL Y.M B l)
  | [],l',h=>by simp only [sSubL] at h; cases h; rfl
  | v :: r,l',h=>by
    simp only [sSubL] at h
    split at h
    · rename_i v' r' h1 h2
      cases h
      simp only [denL,subML,sSub_ok hz v h1,sSubL_ok hz r h2]
    · cases h
theorem sSubF_ok {B:Bufs U} {b:Oid} {i:Nat} {x:U i} (hz:∃ ks vs,Y.M.enc i x = .mapf ks vs):∀ (l:List (SV U)) {l':List (SV U)},sSubL b (.typ i x) l = some l'→flat Y.M B l' = subML b (Y.M.enc i x) (flat Y.M B l)
  | [],l',h=>by simp only [sSubL] at h; cases h; rfl
  | v :: r,l',h=>by
    simp only [sSubL] at h
    split at h
    · rename_i v' r' h1 h2
      cases h
      have hc:cellsOf (subM b (Y.M.enc i x) (den Y.M B v)) = subML b (Y.M.enc i x) (cellsOf (den Y.M B v)):=by
        obtain ⟨ks,vs,e⟩:=hz
        rw [e]
        cases den Y.M B v <;> first | rfl | skip
        rename_i c
        by_cases e2:c = b <;> simp [subM,subML,cellsOf,e2]
      simp only [flat,sSub_ok hz v h1,sSubF_ok hz r h2,hc]
      rw [subML_map,subML_map,subML_map,List.map_append]
    · cases h
end
theorem sSubA_ok {B:Bufs U} {b:Oid} {i:Nat} {x:U i} (hz:∃ ks vs,Y.M.enc i x = .mapf ks vs):∀ {A A':List (Nat × SV U)},sSubA b (.typ i x) A = some A'→∀ t,den Y.M B (getS A' t) = subM b (Y.M.enc i x) (den Y.M B (getS A t))
  | [],A',h,t=>by simp only [sSubA] at h; cases h; rfl
  | (u,v) :: r,A',h,t=>by
    simp only [sSubA] at h
    split at h
    · rename_i v' r' h1 h2
      cases h
      simp only [getS,find]
      by_cases e:u = t
      · rw [if_pos e,if_pos e]; exact sSub_ok hz v h1
      · rw [if_neg e,if_neg e]; exact sSubA_ok hz h2 t
    · cases h
theorem sSubH_ok {B:Bufs U} {b:Oid} {i:Nat} {x:U i} (hz:∃ ks vs,Y.M.enc i x = .mapf ks vs):∀ {H H':List (Oid × Fl × List (SV U))},sSubH b (.typ i x) H = some H'→∀ o,if o = b then find H' o = none else match find H o with
    | none=>find H' o = none
    | some (f,l)=>∃ l',find H' o = some (f,l')∧flat Y.M B l' = subML b (Y.M.enc i x) (flat Y.M B l)
  | [],H',h,o=>by simp only [sSubH] at h; cases h; split <;> rfl
  | (u,f,l) :: r,H',h,o=>by
    simp only [sSubH] at h
    split at h
    · rename_i e
      have:=sSubH_ok (B:=B) hz h o
      split
      · rename_i e2; rw [if_pos e2] at this; exact this
      · rename_i e2
        rw [if_neg e2] at this
        simp only [find]
        rw [if_neg (by rw [e]; exact fun e3=>e2 e3.symm)]
        exact this
    · rename_i e
      split at h
      · rename_i l' r' h1 h2
        cases h
        have:=sSubH_ok (B:=B) hz h2 o
        split
        · rename_i e2
          rw [if_pos e2] at this
          simp only [find]
          rw [if_neg (by rw [e2]; exact e)]
          exact this
        · rename_i e2
          rw [if_neg e2] at this
          simp only [find]
          by_cases e3:u = o
          · rw [if_pos e3]
            exact ⟨l',by rw [if_pos e3],sSubF_ok hz l h1⟩
          · rw [if_neg e3]
            cases hq:find r o with
            | none=>rw [hq] at this; rw [if_neg e3]; exact this
            | some p=>
              rw [hq] at this
              obtain ⟨l2,k1,k2⟩:=this
              exact ⟨l2,by rw [if_neg e3]; exact k1,k2⟩
      · cases h
theorem wrap_agg {B:Bufs U} (l:List (SV U)):den Y.M B (wrap Y.M true l) = .agg (flat Y.M B l):=by
  match l with
  | []=>rfl
  | [c]=>
    simp only [wrap]
    split
    · rename_i h; rw [isAgg_true Y.ok B h]; simp only [flat,List.append_nil]
    · rfl
  | _ :: _ :: _=>rfl
theorem sVals_ok {B:Bufs U} {j n:Nat} (hag:Y.M.agg j = true) (hsz:Y.M.size j = n):∀ {ks:List Int} {cs:List (SV U)} {l:List (Int × U j)},sVals Y B j n ks cs = some l→l.map (·.1) = ks∧WkL (flat Y.M B cs) (l.flatMap fun p=>cellsOf (Y.M.enc j p.2))
  | [],[],l,h=>by simp only [sVals] at h; cases h; exact ⟨rfl,trivial⟩
  | [],_ :: _,l,h=>by simp [sVals] at h
  | k :: ks,cs,l,h=>by
    simp only [sVals] at h
    split at h
    · rename_i p hp
      split at h
      · rename_i v r hv hr
        cases h
        obtain ⟨h1,h2⟩:=splitS_ok Y.ok B _ _ _ hp
        obtain ⟨e1,e2⟩:=sVals_ok hag hsz hr
        obtain ⟨_,_,w⟩:=exl_ok Y.ok (B':=B) _ _ _ _ _ (fun _ _=>rfl) hv
        have w:=w (.inl rfl)
        simp only [inj,flat,List.append_nil,wrap_agg,den,hhd] at w
        refine ⟨by simp [e1],?_⟩
        rw [h1,List.flatMap_cons]
        exact WkL.append w e2
      · cases h
    · cases h
theorem esOf_vals {M:TM U} {tb:List TI} (hM:TMOk M tb) {kd:IntKind} {j n:Nat} (hag:M.agg j = true) (hsz:M.size j = n):∀ l:List (Int × U j),esOf kd n (l.map (·.1)) (l.flatMap fun p=>cellsOf (M.enc j p.2)) = l.map fun p=>(AV.int kd p.1,M.enc j p.2)
  | []=>rfl
  | p :: l=>by
    have h1:=hM.size j p.2
    rw [hsz] at h1
    have h2:=hM.shape j p.2
    rw [if_pos hag] at h2
    obtain ⟨cs,e⟩:=h2
    simp only [List.map_cons,esOf,List.flatMap_cons]
    rw [List.take_left' h1,List.drop_left' h1,esOf_vals hM hag hsz l,e]
    rfl
theorem zip_fst:∀ {ks vs:List AV},ks.length = vs.length→(ks.zip vs).map (·.1) = ks∧(ks.zip vs).map (·.2) = vs
  | [],[],_=>⟨rfl,rfl⟩
  | [],_ :: _,h=>by simp at h
  | _ :: _,[],h=>by simp at h
  | a :: ks,b :: vs,h=>by
    obtain ⟨h1,h2⟩:=zip_fst (ks:=ks) (vs:=vs) (by simpa using h)
    simp only [List.zip_cons_cons,List.map_cons,h1,h2,and_self]
theorem encK_still {M:TM U} {tb:List TI} (hM:TMOk M tb):∀ (k:MK) (x:MT U k),AE.refs (encK M k x) = []∧AE.toks (encK M k x) = []
  | .int _,_=>⟨rfl,rfl⟩
  | .bool,_=>⟨rfl,rfl⟩
  | .str,_=>⟨rfl,rfl⟩
  | .typ j,x=>⟨hM.refs j x,hM.toks j x⟩
theorem sPlain_ok {S:SSt U} {b:Oid} {i:Nat} {x:U i} (h:sPlain Y S b i = some x) {p:MpD U i} (hp:Y.M.mp i = some p):∃ f cs cells es,find S.H b = some (f,cs)∧WkL (flat Y.M S.B cs) cells∧entsOf f cells = some es∧still es = true∧frzOf es = Y.M.enc i x:=by
  obtain ⟨he,hb⟩:=Y.ok.mp i p hp
  have hstill:∀ y:U i,still (((p.list y).map fun q=>encK Y.M p.kk q.1).zip ((p.list y).map fun q=>encK Y.M p.vk q.2)) = true:=by
    intro y
    unfold still
    rw [List.all_eq_true]
    intro e hx
    have hm:=List.of_mem_zip (a:=e.1) (b:=e.2) hx
    obtain ⟨q1,_,h1⟩:=List.mem_map.1 hm.1
    obtain ⟨q2,_,h2⟩:=List.mem_map.1 hm.2
    rw [← h1,← h2,(encK_still Y.ok _ _).1,(encK_still Y.ok _ _).2,(encK_still Y.ok _ _).1,(encK_still Y.ok _ _).2]
    rfl
  unfold sPlain at h
  split at h
  · rename_i j y hf
    split at h
    · rename_i e
      subst e; cases h
      refine ⟨_,_,_,_,hf,WkL.refl _,?_,hstill y,?_⟩
      · simp only [flat,den,he,cellsOf,List.append_nil,entsOf,List.length_map,if_true]
      · have hl:((p.list y).map fun q=>encK Y.M p.kk q.1).length = ((p.list y).map fun q=>encK Y.M p.vk q.2).length:=by simp
        simp only [frzOf,(zip_fst hl).1,(zip_fst hl).2,he]
    · cases h
  · rename_i kd ks n cs hf
    rw [hp] at h
    simp only at h
    split at h
    · rename_i kd' j list back
      split at h
      case isFalse=>cases h
      rename_i hc
      obtain ⟨rfl,hag,hsz⟩:=hc
      split at h
      case h_2=>cases h
      rename_i cs' hcs
      split at h
      · rename_i l hl
        cases h
        obtain ⟨e1,e2⟩:=sVals_ok hag hsz hl
        have e2:WkL (flat Y.M S.B cs) (l.flatMap fun p=>cellsOf (Y.M.enc j p.2)):=by
          refine WkL.trans (WkL.dg (fun _=>true) _) ?_
          rw [← dgSF_ok Y.ok (B':=S.B) (fun b hb=>by cases hb) cs hcs]
          exact e2
        have hlen:(l.flatMap fun p=>cellsOf (Y.M.enc j p.2)).length = ks.length * n:=by
          rw [← e1]
          have:∀ l:List (Int × U j),(l.flatMap fun p=>cellsOf (Y.M.enc j p.2)).length = (l.map (·.1)).length * n:=by
            intro l
            induction l with
            | nil=>simp
            | cons q l ih=>rw [List.flatMap_cons,List.length_append,ih,Y.ok.size,hsz,List.map_cons,List.length_cons,Nat.succ_mul,Nat.add_comm]
          exact this l
        have hes:esOf kd' n ks (l.flatMap fun p=>cellsOf (Y.M.enc j p.2)) = l.map fun p=>(AV.int kd' p.1,Y.M.enc j p.2):=by
          rw [← e1]; exact esOf_vals Y.ok hag hsz l
        refine ⟨_,_,_,esOf kd' n ks (l.flatMap fun p=>cellsOf (Y.M.enc j p.2)),hf,e2,by simp only [entsOf,hlen,if_true],?_,?_⟩
        · rw [hes]
          unfold still
          rw [List.all_eq_true]
          intro e hx
          obtain ⟨q,_,rfl⟩:=List.mem_map.1 hx
          simp only [Y.ok.refs,Y.ok.toks,AE.refs,AE.toks]; rfl
        · rw [hes,he]
          have hb':list (back l) = l:=hb l
          simp only [frzOf,List.map_map,hb']
          rfl
      · cases h
    · cases h
  · cases h
theorem getS_notin {A:List (Nat × SV U)} {t:Nat} (h:t ∉ A.map (·.1)):getS A t = .raw .undef:=by
  unfold getS
  cases hq:find A t with
  | none=>rfl
  | some v=>exact (h (List.mem_map.2 ⟨_,find_mem hq,rfl⟩)).elim
theorem sFrz_ok {S0 S S1:SSt U} {b:Oid} {i:Nat} (hfr:FrX Y S0 S) (h:sFrz Y S0 S b i = some S1):∃ T0 T,SWf (denS Y S) T0∧freezeM T0 b = some T∧SWf T (denS Y S1)∧FrX Y S0 S1:=by
  unfold sFrz at h
  split at h
  case isFalse=>cases h
  rename_i hc
  simp only [Bool.and_eq_true,Option.isNone_iff_eq_none,Bool.not_eq_true',List.all_eq_true,Bool.or_eq_true,decide_eq_true_eq] at hc
  obtain ⟨⟨⟨c1,c2⟩,c3⟩,c4⟩:=hc
  split at h
  case h_2=>cases h
  rename_i p x hp hx
  split at h
  case h_2=>cases h
  rename_i A H hA hH
  cases h
  obtain ⟨f,cs,cells,es,e1,e2,e3,e4,e5⟩:=sPlain_ok hx hp
  have hz:∃ ks vs,Y.M.enc i x = .mapf ks vs:=⟨_,_,(Y.ok.mp i p hp).1 x⟩
  have hHo:=fun o=>sSubH_ok (Y:=Y) (B:=S.B) hz hH o
  have hAt:=fun t=>sSubA_ok (Y:=Y) (B:=S.B) hz hA t
  let T0:St:=⟨(denS Y S).A,ins b (.cells f cells) (denS Y S).H⟩
  have hfT:∀ o,find T0.H o = if b = o then some (.cells f cells) else find (denS Y S).H o:=fun o=>find_ins _ _ _ _
  refine ⟨T0,⟨T0.A.map fun x=>(x.1,subM b (frzOf es) x.2),(T0.H.filter fun x=>!decide (x.1 = b)).map fun x=>(x.1,subOb b (frzOf es) x.2)⟩,⟨fun t=>Wk.refl _,fun o ob' ho=>?_,fun e he hs=>?_⟩,?_,⟨fun t=>?_,fun o ob' ho=>?_,fun e he hs=>?_⟩,?_⟩
  · rw [hfT] at ho
    split at ho
    · rename_i e; subst e; cases ho
      exact ⟨.cells f (flat Y.M S.B cs),by rw [findH,e1],ObWk.cells e2⟩
    · exact ⟨ob',ho,ObWk.refl _⟩
  · rw [hfT]
    split
    · rfl
    · exact hs
  · unfold freezeM
    rw [hfT,if_pos rfl]
    simp only [e3]
    rw [if_pos (by simp [e4,c3])]
  · have:getA (T0.A.map fun x=>(x.1,subM b (frzOf es) x.2)) t = subM b (frzOf es) (getA (denS Y S).A t):=by
      simp only [getA]
      rw [find_map (subM b (frzOf es))]
      cases find (denS Y S).A t <;> rfl
    rw [this,getS_ok,getS_ok,e5]
    exact Wk.eq (hAt t).symm
  · have hT:find ((T0.H.filter fun x=>!decide (x.1 = b)).map fun x=>(x.1,subOb b (frzOf es) x.2)) o = if o = b then none else (find (denS Y S).H o).map (subOb b (frzOf es)):=by
      rw [find_map (subOb b (frzOf es)),find_filter (fun x:Oid × Ob=>!decide (x.1 = b)) (fun y=>!decide (y = b)) (fun _=>rfl)]
      by_cases e:o = b
      · simp [e]
      · simp only [e,decide_false,Bool.not_false,if_true,if_false]
        rw [hfT,if_neg (fun e3=>e e3.symm)]
    rw [hT]
    have ho2:=hHo o
    rw [findH] at ho
    simp only at ho
    by_cases e:o = b
    · subst e
      rw [if_pos rfl] at ho2
      rw [ho2] at ho
      simp only at ho
      rw [c2] at ho; cases ho
    · rw [if_neg e]
      rw [if_neg e] at ho2
      rw [findH]
      cases hq:find S.H o with
      | none=>
        rw [hq] at ho2
        rw [ho2] at ho
        simp only at ho ⊢
        cases hB:find S.B o with
        | none=>rw [hB] at ho; cases ho
        | some bf=>rw [hB] at ho; cases ho; exact ⟨_,rfl,ObWk.refl _⟩
      | some q=>
        obtain ⟨fl,l⟩:=q
        rw [hq] at ho2
        obtain ⟨l',k1,k2⟩:=ho2
        rw [k1] at ho
        cases ho
        refine ⟨_,rfl,?_⟩
        simp only [subOb]
        rw [e5,← k2]
        exact ObWk.refl _
  · have hT:find ((T0.H.filter fun x=>!decide (x.1 = b)).map fun x=>(x.1,subOb b (frzOf es) x.2)) e = if e = b then none else (find (denS Y S).H e).map (subOb b (frzOf es)):=by
      rw [find_map (subOb b (frzOf es)),find_filter (fun x:Oid × Ob=>!decide (x.1 = b)) (fun y=>!decide (y = b)) (fun _=>rfl)]
      by_cases e2:e = b
      · simp [e2]
      · simp only [e2,decide_false,Bool.not_false,if_true,if_false]
        rw [hfT,if_neg (fun e3=>e2 e3.symm)]
    have hs:(find ((T0.H.filter fun x=>!decide (x.1 = b)).map fun x=>(x.1,subOb b (frzOf es) x.2)) e).isSome = true:=hs
    rw [hT] at hs
    split at hs
    · cases hs
    · rename_i e2
      rw [Option.isSome_map,findH] at hs
      have ho2:=hHo e
      rw [if_neg e2] at ho2
      rw [findH]
      cases hq:find S.H e with
      | none=>
        rw [hq] at ho2 hs
        simp only
        rw [ho2]
        exact hs
      | some q=>
        rw [hq] at ho2
        obtain ⟨l',k1,k2⟩:=ho2
        simp only
        rw [k1]; rfl
  · obtain ⟨D,hfr⟩:=hfr
    refine ⟨D ++ S.A.map (·.1),fun t ht=>?_,fun o wr cs0 ho=>?_,fun b' y hb h1 h2=>?_,hfr.w,hfr.x,fun b' hb' hs=>hfr.e b' hb' ?_⟩
    · simp only [List.mem_append,not_or] at ht
      have:=hfr.a t ht.1
      rw [this]
      have h2:=hAt t
      rw [getS_notin ht.2] at h2 ⊢
      simp only [den,subM] at h2 ⊢
      rw [h2]
    · obtain ⟨cs',k1,k2,k3⟩:=hfr.h o wr cs0 ho
      have hne:o ≠ b:=by rintro rfl; rw [c1] at ho; cases ho
      have ho2:=hHo o
      rw [if_neg hne,k1] at ho2
      obtain ⟨l',q1,q2⟩:=ho2
      have hnb:b ∉ refsL (flat Y.M S.B cs'):=by
        rw [refs_flat Y.ok]
        have:=c4 _ (find_mem k1)
        rcases this with (h | h) | h
        · exact (hne h).elim
        · rw [ho] at h; cases h
        · intro hh
          rw [← List.contains_iff_mem] at hh
          rw [hh] at h; cases h
      rw [subL_free _ hnb] at q2
      exact ⟨l',q1,by rw [q2]; exact k2,fun j hj=>by rw [q2]; exact k3 j hj⟩
    · obtain ⟨k1,k2⟩:=hfr.b b' y hb h1 h2
      refine ⟨?_,k2⟩
      have ho2:=hHo b'
      split at ho2
      · exact ho2
      · rw [k1] at ho2; exact ho2
    · rw [findH] at hs ⊢
      simp only at hs
      have ho2:=hHo b'
      cases hq:find S.H b' with
      | some q=>rfl
      | none=>
        simp only
        have:find H b' = none:=by
          split at ho2
          · exact ho2
          · rw [hq] at ho2; exact ho2
        rw [this] at hs
        exact hs
end
inductive Rt where
  | done
  | run (m:Nat) (h:RH) (r:Rt)
  | mk (m:Nat) (f:Fl) (i:Nat) (r:Rt)
  | ins (r:Rt)
  | frz (b:Oid) (i:Nat) (r:Rt)
inductive Ht where
  | c (h:Hc)
  | s (x y:Ht)
  | i (x y:Ht)
  | b (x:Ht)
  | u (x y:Ht)
  | r (l:Rt)
def Ht.isU:Ht→Bool
  | .u _ _=>true
  | _=>false
def Ht.len:Ht→Nat
  | .u _ y=>y.len + 1
  | _=>0
section
variable {U:Nat→Type} (Y:SZ U) (tbl:List (Ent U)) (fu n:Nat)
def sMk {ρ:Type} (S:SSt U) (ops:Array Oper) (o:Oper) (m:Nat) (f:Fl) (i:Nat) (K:SSt U→Option ρ):Option ρ :=
  match o.op,o.dst,newSV Y f i with
  | .makeMap t none,some d,some cs=>if d < n∧swanted ops S.A o = some true∧sclearN S m = true then K { S with A:=ins d (.raw (.mapr (.loc m))) S.A,H:=ins (.loc m) (f,cs) S.H } else none
  | _,_,_=>none
def sIns {ρ:Type} (S0 S:SSt U) (ops:Array Oper) (o:Oper) (K:SSt U→Option ρ):Option ρ :=
  match o.op,o.dst with
  | .mapUpdate t m key x,none=>match descOf Y.Z.tb t,evS Y S.A m,evS Y S.A key with
    | some (.map kt et),.raw (.mapr b),.raw (.int kd' k)=>match descOf Y.Z.tb kt,find S.H b with
      | some (.int kd),some (.mk kd2 ks j,cs)=>if kd' = kd∧kd2 = kd∧b.root = b∧csizeL Y.M cs = some (ks.length * j)∧csize Y.M (evS Y S.A x) = some j∧isAgg Y.M (evS Y S.A x) = true∧ks.contains k = false∧(find S0.H b).isNone = true∧swanted ops S.A o = some true then
          K { S with H:=ins b (.mk kd2 (ks ++ [k]) j,cs ++ chunk (evS Y S.A x)) S.H } else none
      | _,_=>none
    | _,_,_=>none
  | _,_=>none
def symR {ρ:Type} (S0:SSt U) (ops:Array Oper):Rt→Nat→Nat→SSt U→(SSt U→Option ρ)→Option ρ
  | .done,k,e,S,K=>symOps Y tbl fu n ops .done k e S K
  | .run m h r,k,e,S,K=>if k + m ≤ e then symOps Y tbl fu n ops h k (k + m) S (fun S'=>symR S0 ops r (k + m) e S' K) else none
  | .mk m f i r,k,e,S,K=>match ops[k]? with
    | some o=>if k < e then sMk Y n S ops o m f i (fun S'=>symR S0 ops r (k + 1) e S' K) else none
    | none=>none
  | .ins r,k,e,S,K=>match ops[k]? with
    | some o=>if k < e then sIns Y S0 S ops o (fun S'=>symR S0 ops r (k + 1) e S' K) else none
    | none=>none
  | .frz b i r,k,e,S,K=>match sFrz Y S0 S b i with
    | some S'=>symR S0 ops r k e S' K
    | none=>none
def symT {ρ:Type} (S0:SSt U):Nat→Ht→Code→SSt U→(Ex→SSt U→Option ρ)→Option ρ
  | 0,_,_,_,_=>none
  | f + 1,h,c,S,K=>match h with
    | .c h=>symC Y tbl fu n 200 h c S K
    | .s x y=>match c with
      | .seq a b=>symT S0 f x a S (seqK (fun S'=>symT S0 f y b S' K) K)
      | _=>none
    | .i x y=>match c with
      | .cond c a b=>match evS Y S.A c with
        | .raw (.bool t)=>if t then symT S0 f x a S K else symT S0 f y b S K
        | _=>none
      | _=>none
    | .b x=>match c with
      | .block id b=>symT S0 f x b S fun e S'=>if e = .exit id then K .normal S' else K e S'
      | _=>none
    | .u x y=>match c with
      | .loop b=>symT S0 f x b S (seqK (fun S'=>if y.isU then symT S0 f y (.loop b) S' K else none) K)
      | _=>none
    | .r l=>match c with
      | .region _ ops false=>symR Y tbl fu n S0 ops l 0 ops.size S (K .normal)
      | _=>none
end
section
variable {U:Nat→Type} {Y:SZ U} {tbl:List (Ent U)} {fu n:Nat}
theorem FrX.trans {S0 S S':SSt U} {D:List Nat} (h:FrX Y S0 S) (k:Fr Y D S S'):FrX Y S0 S':=by
  obtain ⟨D0,h⟩:=h; exact ⟨_,h.trans k⟩
theorem sMk_ok {ρ:Type} {S0 S:SSt U} {ops:Array Oper} {o:Oper} {m:Nat} {f:Fl} {i:Nat} {K:SSt U→Option ρ} {r:ρ} (h:sMk Y n S ops o m f i K = some r) (hfr:FrX Y S0 S) {k e:Nat} (hk:k < e) (ho:ops[k]? = some o) {Q:St→Prop}
    (hn:∀ S',K S' = some r→FrX Y S0 S'→SO Y.Z n ops (k + 1) e (denS Y S') Q):SO Y.Z n ops k e (denS Y S) Q:=by
  unfold sMk at h
  split at h
  case h_2=>cases h
  rename_i t d cs hop hd hcs
  split at h
  case isFalse=>cases h
  rename_i hc
  obtain ⟨c1,c2,c3⟩:=hc
  obtain ⟨q1,q2⟩:=sclearN_ok (Y:=Y) c3
  refine SO.newMap m f hk ho hop hd c1 (swanted_ok (Y:=Y) c2) (newSV_ok hcs S.B) q1 (soWeakF ⟨fun u=>?_,fun b ob' hb=>⟨ob',?_,ObWk.refl _⟩,fun x hx hs=>?_⟩ (hn _ h ?_))
  · simp only [getA_put,getS_ok,getS_ins]
    by_cases e:d = u
    · rw [if_pos e,if_pos e]; exact Wk.refl _
    · rw [if_neg e,if_neg e]; exact Wk.refl _
  · rw [findH] at hb
    rw [find_ins]
    simp only [find_ins] at hb
    by_cases e:Oid.loc m = b
    · rw [if_pos e] at hb ⊢; exact hb
    · rw [if_neg e] at hb ⊢; rw [findH]; exact hb
  · rw [find_ins] at hs
    rw [findH]
    simp only [find_ins]
    by_cases e:Oid.loc m = x
    · rw [if_pos e]; rfl
    · rw [if_neg e] at hs ⊢; rw [findH] at hs; exact hs
  · obtain ⟨D,hfr⟩:=hfr
    have hne:∀ o' wr cs0,find S0.H o' = some (wr,cs0)→Oid.loc m ≠ o':=by
      rintro o' wr cs0 hf rfl
      obtain ⟨cs',k1,_⟩:=hfr.h _ _ _ hf
      rw [q2] at k1; cases k1
    refine ⟨D ++ [d],fun u hu=>?_,fun o' wr cs0 hf=>?_,fun b x hb h1 h2=>?_,hfr.w,hfr.x,fun b hb hs=>hfr.e b hb ?_⟩
    · simp only [List.mem_append,List.mem_singleton,not_or] at hu
      rw [hfr.a u hu.1,getS_ins,if_neg (fun e=>hu.2 e.symm)]
    · obtain ⟨cs',k1,k2,k3⟩:=hfr.h o' wr cs0 hf
      exact ⟨cs',by rw [find_ins,if_neg (hne _ _ _ hf)]; exact k1,k2,k3⟩
    · obtain ⟨k1,k2⟩:=hfr.b b x hb h1 h2
      refine ⟨?_,k2⟩
      rw [find_ins]
      split
      · rename_i e
        subst e
        exfalso
        have:=q1
        simp only [sclearN,Bool.and_eq_true,List.all_eq_true] at c3
        have:=c3.2 _ (find_mem k2)
        rw [rooted_loc] at this; cases this
      · exact k1
    · rw [findH] at hs ⊢
      simp only [find_ins] at hs
      by_cases e:Oid.loc m = b
      · subst e
        obtain ⟨i,hi⟩:=hb
        cases hi
      · rw [if_neg e] at hs; exact hs
theorem findE_not {kd:IntKind} {n:Nat} {k:Int}:∀ (ks:List Int) (l:List AV) (i:Nat),ks.contains k = false→findE (.int kd k) (esOf kd n ks l) i = some none
  | [],l,i,_=>rfl
  | a :: ks,l,i,h=>by
    simp only [List.contains_cons,Bool.or_eq_false_iff] at h
    have:(a == k) = false:=by
      have h1:=h.1
      rw [beq_eq_false_iff_ne] at h1 ⊢
      exact fun e=>h1 e.symm
    simp only [esOf,findE,sameK,if_true,this]
    exact findE_not ks _ _ h.2
theorem sIns_ok {ρ:Type} {S0 S:SSt U} {ops:Array Oper} {o:Oper} {K:SSt U→Option ρ} {r:ρ} (h:sIns Y S0 S ops o K = some r) (hfr:FrX Y S0 S) {k e:Nat} (hk:k < e) (ho:ops[k]? = some o) {Q:St→Prop}
    (hn:∀ S',K S' = some r→FrX Y S0 S'→SO Y.Z n ops (k + 1) e (denS Y S') Q):SO Y.Z n ops k e (denS Y S) Q:=by
  unfold sIns at h
  split at h
  case h_2=>cases h
  rename_i t m key x hop hd
  split at h
  case h_2=>cases h
  rename_i kt et b kd' k0 ht hm hkey
  split at h
  case h_2=>cases h
  rename_i kd kd2 ks j cs hkt hb
  split at h
  case isFalse=>cases h
  rename_i hc
  obtain ⟨rfl,rfl,c3,c4,c5,c6,c7,c8,c9⟩:=hc
  rw [Option.isNone_iff_eq_none] at c8
  have hl:=csizeL_ok Y.ok S.B _ c4
  have hxl:=csize_ok Y.ok S.B _ c5
  have hall:∀ (ks:List Int) (l:List AV),((esOf kd2 j ks l).all fun e=>keyOk (.int kd2) e.1) = true:=by
    intro ks
    induction ks with
    | nil=>intro l; rfl
    | cons a ks ih=>intro l; rw [esOf,List.all_cons,ih]; simp [keyOk]
  have hev:evOp Y.Z.tb c0 noCall 0 (evalA Y.Z.gl (denS Y S).A) (denS Y S).H o = some { v:=.tuple [],ws:=[(b,.cells (.mk kd2 (ks ++ [k0]) j) (flat Y.M S.B cs ++ cellsOf (den Y.M S.B (evS Y S.A x))))],rd:=[b] }:=by
    unfold evOp
    simp only [hop,evS_ok,hm,hkey,den]
    unfold evMapSet
    simp only [ht,hkt,findH,hb,entsOf,hl,if_true,findE_not ks _ 0 c7]
    rw [isAgg_true Y.ok S.B c6]
    simp only [Option.map_none,evSet,hxl,and_self,if_true,setMk,hall]
    simp [keyOk,c3]
    rfl
  refine soStepF (cfg:=c0) (call:=noCall) (f:=0) (S2:=denS Y { S with H:=ins b (.mk kd2 (ks ++ [k0]) j,cs ++ chunk (evS Y S.A x)) S.H }) (noCall_ok Y.Z) (noCall_ent Y.Z) hk ho (S1:=⟨(denS Y S).A,ins b (.cells (.mk kd2 (ks ++ [k0]) j) (flat Y.M S.B cs ++ cellsOf (den Y.M S.B (evS Y S.A x)))) (denS Y S).H⟩) (r:={ v:=.tuple [],ws:=[(b,.cells (.mk kd2 (ks ++ [k0]) j) (flat Y.M S.B cs ++ cellsOf (den Y.M S.B (evS Y S.A x))))],rd:=[b] }) ?_ ⟨fun u=>Wk.refl _,fun b' ob' hb'=>⟨ob',?_,ObWk.refl _⟩,fun y hy hs=>?_⟩ (hn _ h ?_)
  · unfold evStep
    rw [swanted_ok (Y:=Y) c9]
    simp only [hev,Bool.false_eq_true,if_false,Bool.false_and,hd]
    rfl
  · rw [findH] at hb'
    simp only [find_ins] at hb' ⊢
    by_cases e:b = b'
    · rw [if_pos e] at hb' ⊢
      simp only [flat_append,chunk_ok Y.ok] at hb'
      exact hb'
    · rw [if_neg e] at hb' ⊢; rw [findH]; exact hb'
  · simp only [find_ins] at hs
    rw [findH]
    simp only [find_ins]
    by_cases e:b = y
    · rw [if_pos e]; rfl
    · rw [if_neg e] at hs ⊢; rw [findH] at hs; exact hs
  · obtain ⟨D,hfr⟩:=hfr
    refine ⟨D,hfr.a,fun o' wr cs0 hf=>?_,fun b' x hb' h1 h2=>?_,hfr.w,hfr.x,fun b' hb' hs=>hfr.e b' hb' ?_⟩
    · obtain ⟨cs',k1,k2,k3⟩:=hfr.h o' wr cs0 hf
      exact ⟨cs',by rw [find_ins,if_neg (by rintro rfl; rw [c8] at hf; cases hf)]; exact k1,k2,k3⟩
    · obtain ⟨k1,k2⟩:=hfr.b b' x hb' h1 h2
      refine ⟨?_,k2⟩
      rw [find_ins,if_neg]
      · exact k1
      · rintro rfl; rw [hb] at k1; cases k1
    · rw [findH] at hs ⊢
      simp only [find_ins] at hs
      by_cases e:b = b'
      · subst e; rw [hb]; rfl
      · rw [if_neg e] at hs; exact hs
theorem symR_ok (ht:∀ x ∈ tbl,OkE Y fu x) {ops:Array Oper} {S0:SSt U}:∀ (l:Rt) {ρ:Type} (k e:Nat) {S:SSt U} {K:SSt U→Option ρ} {r:ρ},symR Y tbl fu n S0 ops l k e S K = some r→FrX Y S0 S→∀ {Q:St→Prop},
    (∀ S',K S' = some r→FrX Y S0 S'→Q (denS Y S'))→SO Y.Z n ops k e (denS Y S) Q
  | .done,ρ,k,e,S,K,r,h,hfr,Q,hn=>by
    simp only [symR] at h
    exact symOps_ok ht _ k e h fun S' h' hf=>hn S' h' (hfr.trans hf)
  | .run m hh rr,ρ,k,e,S,K,r,h,hfr,Q,hn=>by
    simp only [symR] at h
    split at h
    · rename_i hk
      refine SO.cut (k + m) (by omega) hk (symOps_ok ht hh k (k + m) h fun S' h' hf=>symR_ok ht rr (k + m) e h' (hfr.trans hf) hn)
    · cases h
  | .mk m f i rr,ρ,k,e,S,K,r,h,hfr,Q,hn=>by
    simp only [symR] at h
    split at h
    · rename_i o ho
      split at h
      · rename_i hk
        exact sMk_ok h hfr hk ho fun S' h' hf=>symR_ok ht rr (k + 1) e h' hf hn
      · cases h
    · cases h
  | .ins rr,ρ,k,e,S,K,r,h,hfr,Q,hn=>by
    simp only [symR] at h
    split at h
    · rename_i o ho
      split at h
      · rename_i hk
        exact sIns_ok h hfr hk ho fun S' h' hf=>symR_ok ht rr (k + 1) e h' hf hn
      · cases h
    · cases h
  | .frz b i rr,ρ,k,e,S,K,r,h,hfr,Q,hn=>by
    simp only [symR] at h
    split at h
    · rename_i S' hs
      obtain ⟨T0,T,w1,w2,w3,w4⟩:=sFrz_ok hfr hs
      exact soWeakF w1 (SO.freeze b T w2 (soWeakF w3 (symR_ok ht rr k e h w4 hn)))
    · cases h
mutual
theorem symT_ok (ht:∀ x ∈ tbl,OkE Y fu x) {S0:SSt U}:∀ (f:Nat) (h:Ht) (c:Code) {ρ:Type} {S:SSt U} {K:Ex→SSt U→Option ρ} {r:ρ},symT Y tbl fu n S0 f h c S K = some r→FrX Y S0 S→∀ {Q:Ex→St→Prop},
    (∀ e S',K e S' = some r→FrX Y S0 S'→∃ T1,SWf (denS Y S') T1∧Q e T1)→SC Y.Z n c (denS Y S) Q
  | 0,h,c,ρ,S,K,r,hs,hfr,Q,hn=>by simp [symT] at hs
  | f + 1,h,c,ρ,S,K,r,hs,hfr,Q,hn=>by
    simp only [symT] at hs
    split at hs
    · exact symC_ok ht 200 _ c hs fun e S' h' hf=>hn e S' h' (hfr.trans hf)
    · rename_i x y
      split at hs
      · rename_i a b
        refine SC.seq (symT_ok ht f x a hs hfr fun e S' h' hf=>?_)
        cases e with
        | normal=>
          refine ⟨denS Y S',SWf.refl,?_⟩
          show SC Y.Z n b (denS Y S') Q
          exact symT_ok ht f y b h' hf hn
        | exit id=>exact hn _ S' h' hf
        | ret=>exact hn _ S' h' hf
      · cases hs
    · rename_i x y
      split at hs
      · rename_i c a b
        split at hs
        · rename_i t hc
          refine SC.cond t (by rw [evS_ok,hc]; rfl) (fun hb=>?_) fun hb=>?_
          · rw [if_pos hb] at hs
            exact symT_ok ht f x a hs hfr hn
          · rw [if_neg (by rw [hb]; simp)] at hs
            exact symT_ok ht f y b hs hfr hn
        · cases hs
      · cases hs
    · rename_i x
      split at hs
      · rename_i id b
        refine SC.block (symT_ok ht f x b hs hfr fun e S' h' hf=>?_)
        split at h'
        · rename_i he
          subst he
          obtain ⟨T1,k1,k2⟩:=hn _ S' h' hf
          exact ⟨T1,k1,by simp only [blockK,if_true]; exact k2⟩
        · rename_i he
          obtain ⟨T1,k1,k2⟩:=hn _ S' h' hf
          refine ⟨T1,k1,?_⟩
          cases e with
          | normal=>exact k2
          | ret=>exact k2
          | exit id'=>
            simp only [blockK]
            rw [if_neg (fun e=>he (by rw [e]))]; exact k2
      · cases hs
    · rename_i x y
      split at hs
      · rename_i b
        refine SC.loopU (y.len + 1) (show SC Y.Z n b (denS Y S) (thenK (Unr Y.Z n b Q y.len) Q) from symT_ok ht f x b hs hfr fun e S' h' hf=>?_)
        cases e with
        | normal=>
          have h':(if y.isU then symT Y tbl fu n S0 f y (.loop b) S' K else none) = some r:=h'
          split at h'
          · rename_i hu; exact ⟨denS Y S',SWf.refl,symU_ok ht f y b hu h' hf hn⟩
          · cases h'
        | exit id=>exact hn _ S' h' hf
        | ret=>exact hn _ S' h' hf
      · cases hs
    · rename_i l
      split at hs
      · rename_i id ops
        refine scEnd (SC.region ops.size rfl (symR_ok ht l 0 ops.size hs hfr fun S' h' hf=>?_))
        obtain ⟨T1,k1,k2⟩:=hn _ _ h' hf
        exact ⟨T1,k1,k2⟩
      · cases hs
theorem symU_ok (ht:∀ x ∈ tbl,OkE Y fu x) {S0:SSt U}:∀ (f:Nat) (h:Ht) (b:Code) {ρ:Type} {S:SSt U} {K:Ex→SSt U→Option ρ} {r:ρ},h.isU = true→symT Y tbl fu n S0 f h (.loop b) S K = some r→FrX Y S0 S→∀ {Q:Ex→St→Prop},
    (∀ e S',K e S' = some r→FrX Y S0 S'→∃ T1,SWf (denS Y S') T1∧Q e T1)→Unr Y.Z n b Q h.len (denS Y S)
  | 0,h,b,ρ,S,K,r,hu,hs,hfr,Q,hn=>by simp [symT] at hs
  | f + 1,h,b,ρ,S,K,r,hu,hs,hfr,Q,hn=>by
    cases h with
    | u x y=>
      simp only [symT] at hs
      show SC Y.Z n b (denS Y S) (thenK (Unr Y.Z n b Q y.len) Q)
      refine scEnd (symT_ok ht f x b hs hfr fun e S' h' hf=>?_)
      cases e with
      | normal=>
        have h':(if y.isU then symT Y tbl fu n S0 f y (.loop b) S' K else none) = some r:=h'
        split at h'
        · rename_i hu; exact ⟨denS Y S',SWf.refl,⟨denS Y S',SWf.refl,symU_ok ht f y b hu h' hf hn⟩⟩
        · cases h'
      | exit id=>
        obtain ⟨T1,k1,k2⟩:=hn _ S' h' hf
        exact ⟨T1,k1,⟨T1,SWf.refl,k2⟩⟩
      | ret=>
        obtain ⟨T1,k1,k2⟩:=hn _ S' h' hf
        exact ⟨T1,k1,⟨T1,SWf.refl,k2⟩⟩
    | _=>cases hu
end
def symFT (Y:SZ U) (tbl:List (Ent U)) (fu:Nat) (s:Sig) (h:Ht) (fn:Func) (z:HT U s.ins):Option (HT U s.out.tys) :=
  match fn.body with
  | some c=>if fn.name ≠ "runtime.NumGoroutine"∧(s.av z).length ≤ fn.ntmps then symT Y tbl fu fn.ntmps (s.st z) 200 h c (s.st z) (finK Y s (s.st0 z) fn.results.toList) else none
  | none=>none
theorem fn_okT {k:Nat} {e:Ent U} {fn:Func} (hf:Y.Z.P.funcs[e.f]? = some fn) (ht:∀ x ∈ tbl,OkE Y fu x) (h:Ht) (hF:∀ z,e.F k z = symFT Y tbl fu e.sig h fn z):OkE Y k e:=by
  intro z y S1 hy hi
  rw [hF z] at hy
  unfold symFT at hy
  split at hy
  case h_2=>cases hy
  rename_i c hc
  split at hy
  case isFalse=>cases hy
  rename_i hcond
  refine sfIntroF hf hc (by rw [denL_map,List.length_map]; exact hcond.2) hcond.1 ?_
  have e0:(⟨argSlots 0 (denL Y.M (e.sig.st z).B (e.sig.av z)),(denS Y (e.sig.st z)).H⟩:St) = denS Y (e.sig.st z):=by
    simp only [denS]
    rw [← argS_ok]
    rfl
  rw [e0]
  refine symT_ok ht 200 h c hy ⟨[],Fr.refl _⟩ fun ex S' h' hfr=>?_
  obtain ⟨D,hfr⟩:=hfr
  exact ⟨denS Y S',SWf.refl,fin_ok hi h' hfr⟩
theorem TblOk.consT {tbl:List (Ent U)} (ht:TblOk Y tbl) {e:Ent U} {fn:Func} (hf:Y.Z.P.funcs[e.f]? = some fn) (h:Ht) (hF:∀ k z,e.F k z = symFT Y tbl k e.sig h fn z):TblOk Y (e :: tbl):=by
  intro k x hx
  rcases List.mem_cons.1 hx with rfl | hx
  · exact fn_okT hf (ht k) h (hF k)
  · exact ht k x hx
end
end Go.Proofs.YtjojaiomgdjhfaaGreatDoor.SY
namespace Go.Proofs.YtjojaiomgdjhfaaGreatDoor.AE
open Go
section
variable {Z:Seat} {n:Nat}
theorem run_isNil {P:Program} {tb:List TI} (hP:TbOk P tb) {g:Gh} {w:World} {t e:TypeId} {tok:Tok} {s:Nat} {es:List AV} (ht:descOf tb t = some (.slice e)) {v:Value} (hv:V g (.slice tok s es) v) (ox oy:Operand) (neg:Bool) :
    ∃ b:Bool,(do eqGuard (if neg then .neq else .eql) t ox oy v (.slice none 0 0); binOp (if neg then .neq else .eql) t v (.slice none 0 0):Sem Value).run P w = .ok (.bool b) w:=by
  obtain ⟨p,len,cap,rfl⟩:∃ p len cap,v = .slice p len cap:=by
    simp only [V] at hv
    rcases hv with ⟨hb,_⟩ | ⟨c,off,cap,h,_⟩
    · obtain ⟨p,cap,h⟩:=hb.slice
      exact ⟨p,0,cap,h⟩
    · exact ⟨_,_,_,h⟩
  obtain ⟨_,_,_,d',h1,h2⟩:=descOf_some hP ht
  cases ofDesc_slice h2
  have heq0:∀ n,∃ b:Bool,(Op.equalIn (n + 1) t (.slice p len cap) (.slice none 0 0):Sem Bool).run P w = .ok b w:=by
    intro n
    cases p with
    | none=>refine ⟨true,?_⟩; simp only [Op.equalIn,run_bind2,run_under h1]; rfl
    | some a=>refine ⟨false,?_⟩; simp only [Op.equalIn,run_bind2,run_under h1]; rfl
  have heq:∃ b:Bool,(Op.equal t (.slice p len cap) (.slice none 0 0):Sem Bool).run P w = .ok b w:=by
    unfold Op.equal
    exact heq0 9999
  obtain ⟨b,hb⟩:=heq
  cases neg with
  | false=>
    refine ⟨b,?_⟩
    rw [if_neg (by simp)]
    rw [run_bind2,run_eqGuard (.inl rfl),Result.andThen_ok,binOp_eql (P:=P) (by rintro _ _ _ _ ⟨h,_⟩; cases h) (by rintro _ _ ⟨h,_⟩; cases h) (by rintro _ _ h; cases h) (by rintro _ _ _ h; cases h),run_bind2,hb]
    rfl
  | true=>
    refine ⟨!b,?_⟩
    rw [if_pos rfl]
    rw [run_bind2,run_eqGuard (.inl rfl),Result.andThen_ok,binOp_neq (P:=P) (by rintro _ _ _ _ ⟨h,_⟩; cases h) (by rintro _ _ ⟨h,_⟩; cases h) (by rintro _ _ h; cases h) (by rintro _ _ _ h; cases h),run_bind2,hb]
    rfl
def isNilOp (tb:List TI) (gl:List (Nat × List AV)) (S:St) (o:Oper):Bool :=
  match o.op with
  | .binOp .eql t x (.const (.slice none 0 0)) _=>match descOf tb t,evalA gl S.A x with
    | some (.slice _),.slice _ _ _=>true
    | _,_=>false
  | .binOp .neq t x (.const (.slice none 0 0)) _=>match descOf tb t,evalA gl S.A x with
    | some (.slice _),.slice _ _ _=>true
    | _,_=>false
  | _=>false
def askPre (tb:List TI) (gl:List (Nat × List AV)) (ops:Array Oper) (k:Nat) (S:St):Option Nat :=
  match ops[k]? with
  | none=>none
  | some o=>match evWanted ops S.A o,o.dst with
    | some true,some d=>if isNilOp tb gl S o then some d else none
    | _,_=>none
theorem SO.ask {ops:Array Oper} {k e:Nat} {S:St} {K:St→Prop} (d:Nat) (hk:k < e) (F:Bool→St) (hp:askPre Z.tb Z.gl ops k S = some d) (hs:∀ b,((setDst n (some d) (.bool b) S.A).map fun A=>(⟨A,S.H⟩:St)).bind (narrow (F b)) = some (F b)) (hn:∀ b,SO Z n ops (k + 1) e (F b) K):SO Z n ops k e S K:=by
  unfold askPre at hp
  split at hp
  · cases hp
  rename_i o ho
  split at hp
  case h_2=>cases hp
  rename_i d' hw hd
  split at hp
  case isFalse=>cases hp
  rename_i hnil
  cases hp
  intro g a w hS Q m hq
  have hρ:∀ x,V g (evalA Z.gl S.A x) (a.eval x):=fun x=>hS.eval x
  have hrun:∃ b:Bool,(execOp a.eval o).run Z.P w = .ok (.value (.bool b)) w:=by
    unfold isNilOp at hnil
    split at hnil
    · rename_i t x aux hop
      split at hnil
      · rename_i e' tok s es ht hx
        have hv:=hρ x
        rw [hx] at hv
        obtain ⟨b,hb⟩:=run_isNil Z.hP ht hv x (.const (.slice none 0 0)) false (w:=w)
        exact ⟨b,by simp only [execOp,hop]; exact run_v hb⟩
      · cases hnil
    · rename_i t x aux hop
      split at hnil
      · rename_i e' tok s es ht hx
        have hv:=hρ x
        rw [hx] at hv
        obtain ⟨b,hb⟩:=run_isNil Z.hP ht hv x (.const (.slice none 0 0)) true (w:=w)
        exact ⟨b,by simp only [execOp,hop]; exact run_v hb⟩
      · cases hnil
    · cases hnil
  obtain ⟨b,hb⟩:=hrun
  have hwt:Region.wanted o (yielded ops a.tmps) = true:=wanted_spec hS.vals _ hw
  obtain ⟨S0,q1,q2⟩:=Option.bind_eq_some_iff.1 (hs b)
  cases hset:setDst n (some d) (.bool b) S.A with
  | none=>rw [hset] at q1; cases q1
  | some A=>
    rw [hset] at q1; cases q1
    have st:StepTo Z.gl n g S w ⟨A,S.H⟩ (a.put o.dst (.bool b)) w :=
      ⟨g,⟨hS.wc,vals_put hS.size (by rw [hd]; exact hset) (show V g (.bool b) (.bool b) from rfl) (fun t _=>hS.vals t),by rw [put_size]; exact hS.size,by rw [put_defers]; exact hS.defers,hS.glob⟩,Ctx.refl _ _ _,Keep.refl _ _,fun _ _ h=>h⟩
    obtain ⟨g1,k1,k2,k3,k4⟩:=narrow_good st q2
    rw [show e - k + m = (e - (k + 1) + m) + 1 by omega]
    simp only [List.range'_succ,wpOps,ho]
    rw [if_pos hwt]
    refine .inl ?_
    unfold Oper.wp
    rw [hb]
    exact hn b g1 _ w k1 Q m fun S' a'' w'' hK st2=>hq S' a'' w'' hK (StepTo.trans k2 k3 k4 st2)
end
end Go.Proofs.YtjojaiomgdjhfaaGreatDoor.AE
