/- A semantics of the code by an evaluator over plain values, and that it is sound. No condition. -/
import Derived.Test.YtjojaiomgdjhfaaGreatDoorZA0
import Derived.MapKept
import Derived.LoopN
import GoSem.Core.View
import Derived.ChangeArms
import Derived.OpenShut
import Derived.Carry
import GoSem.ClaimJoined
import Derived.FnData
import Derived.ChangeOld
set_option linter.unusedVariables false
set_option linter.unusedSimpArgs false
namespace Go.Proofs.YtjojaiomgdjhfaaGreatDoor.AE
open Go
def IsExt (b:Oid):Prop:=∃ i,b.root = .ext i
def Pers (H H':Heap):Prop:=∀ e,IsExt e→(find H e).isSome = true→(find H' e).isSome = true
structure Ret (g:Gh) (H:Heap) (w:World) (r:AV) (H':Heap) (v:Value) (g':Gh) (w':World):Prop where
  val:V g' r v
  wc:WC g' H' w'
  keep:Keep (fun b=>¬ IsExt b) g g'
  ctx:Ctx w g H g' H' w'
  pers:Pers H H'
def RetPost (g:Gh) (H:Heap) (w:World) (r:AV) (H':Heap) (e:Ending) (w':World):Prop:=∃ v g',e = .returned v∧Ret g H w r H' v g' w'
def Glob (gl:List (Nat × List AV)) (g:Gh):Prop:=∀ x ∈ gl,Pinned g x.1 0 x.2
def CallOk (P:Program) (gl:List (Nat × List AV)) (call:CallF):Prop :=
  ∀ f args H r H',call f args H = some (r,H')→∀ g (vs:Array Value) w,WC g H w→VL g args vs.toList→Glob gl g→Calls P f vs w (RetPost g H w r H')
theorem idx_spec:∀ (ids:List Oid) (o:Oid) (k i:Nat),idx ids o k = some i→k ≤ i∧ids[i - k]? = some o
  | [],_,_,_,h=>by cases h
  | x :: r,o,k,i,h=>by
    simp only [idx] at h
    split at h
    · rename_i e; cases h; subst e; simp
    · obtain ⟨h1,h2⟩:=idx_spec r o (k + 1) i h
      refine ⟨by omega,?_⟩
      have:i - k = (i - (k + 1)) + 1:=by omega
      rw [this,List.getElem?_cons_succ]; exact h2
theorem of_toExt (ids:List Oid):∀ (b e:Oid),toExt ids b = some e→ofExt ids e = some b∧IsExt e
  | .cl o j,e,h=>by
    simp only [toExt] at h
    split at h
    · rename_i o' ho
      cases h
      obtain ⟨k1,i,k2⟩:=of_toExt ids o o' ho
      exact ⟨by simp only [ofExt,k1],i,by simpa [Oid.root] using k2⟩
    · cases h
  | .loc d,e,h=>by
    simp only [toExt] at h
    cases hi:idx ids (.loc d) 0 with
    | none=>rw [hi] at h; cases h
    | some i=>
      rw [hi] at h; cases h
      obtain ⟨_,k⟩:=idx_spec _ _ _ _ hi
      exact ⟨by simpa [ofExt] using k,i,rfl⟩
  | .ext q,e,h=>by
    simp only [toExt] at h
    cases hi:idx ids (.ext q) 0 with
    | none=>rw [hi] at h; cases h
    | some i=>
      rw [hi] at h; cases h
      obtain ⟨_,k⟩:=idx_spec _ _ _ _ hi
      exact ⟨by simpa [ofExt] using k,i,rfl⟩
theorem toExt_inj (ids:List Oid) {b b' e:Oid} (h:toExt ids b = some e) (h':toExt ids b' = some e):b = b':=by
  have h1:=(of_toExt ids b e h).1
  have h2:=(of_toExt ids b' e h').1
  rw [h1] at h2; cases h2; rfl
structure Base (ids:List Oid):Prop where
  nodup:ids.Nodup
  plain:∀ o ∈ ids,∀ b j,o ≠ .cl b j
theorem idx_get {ids:List Oid} (h:ids.Nodup):∀ (i:Nat) (o:Oid) (k:Nat),ids[i]? = some o→idx ids o k = some (k + i):=by
  induction ids with
  | nil=>intro i o k hi; simp at hi
  | cons x r ih=>
    intro i o k hi
    rw [List.nodup_cons] at h
    simp only [idx]
    cases i with
    | zero=>simp at hi; subst hi; simp
    | succ i=>
      simp at hi
      have hne:x ≠ o:=by rintro rfl; exact h.1 (List.mem_of_getElem? hi)
      rw [if_neg hne,ih h.2 i o (k + 1) hi]
      congr 1; omega
theorem to_ofExt {ids:List Oid} (hb:Base ids):∀ (e b:Oid),ofExt ids e = some b→toExt ids b = some e
  | .cl o j,b,h=>by
    simp only [ofExt] at h
    split at h
    · rename_i o' ho
      cases h
      simp only [toExt,to_ofExt hb o o' ho]
    · cases h
  | .loc d,b,h=>by cases h
  | .ext i,b,h=>by
    simp only [ofExt] at h
    have hm:=List.mem_of_getElem? h
    have hi:=idx_get hb.nodup i b 0 h
    cases b with
    | cl o j=>exact (hb.plain _ hm o j rfl).elim
    | loc d=>simp only [toExt,hi]; simp
    | ext q=>simp only [toExt,hi]; simp
theorem reach_nodup (H:Heap):∀ (n:Nat) (todo seen r:List Oid),reach H n todo seen = some r→seen.Nodup→r.Nodup
  | 0,_,_,_,h,_=>by cases h
  | n + 1,[],seen,r,h,hs=>by simp only [reach] at h; cases h; exact hs
  | n + 1,o :: todo,seen,r,h,hs=>by
    simp only [reach] at h
    split at h
    · exact reach_nodup H n todo seen r h hs
    · rename_i hc
      split at h
      · refine reach_nodup H n _ _ r h ?_
        rw [List.nodup_append]
        refine ⟨hs,by simp,?_⟩
        intro a ha b hb
        simp at hb; subst hb
        rintro rfl
        exact hc (by simpa using ha)
      · cases h
structure RenOk (σ:Oid→Option Oid) (g g':Gh):Prop where
  gam:∀ c o x,g.Γ c o x→g'.Γ c o x
  mu:∀ b b',σ b = some b'→g'.μ b' = g.μ b
  tip:∀ b b',σ b = some b'→g'.tip b' = g.tip b
  buf:∀ b b',σ b = some b'→g'.bufc b' = g.bufc b
mutual
theorem V.ren {σ:Oid→Option Oid} {g g':Gh} (h:RenOk σ g g'):∀ (a a':AV) (v:Value),ren σ a = some a'→V g a v→V g' a' v
  | .undef,a',v,e,hv=>by simp only [AE.ren] at e; cases e; exact hv
  | .bool b,a',v,e,hv=>by simp only [AE.ren] at e; cases e; exact hv
  | .int k n,a',v,e,hv=>by simp only [AE.ren] at e; cases e; exact hv
  | .str s,a',v,e,hv=>by simp only [AE.ren] at e; cases e; exact hv
  | .nilp,a',v,e,hv=>by simp only [AE.ren] at e; cases e; exact hv
  | .nils,a',v,e,hv=>by simp only [AE.ren] at e; cases e; exact hv
  | .nilm,a',v,e,hv=>by simp only [AE.ren] at e; cases e; exact hv
  | .nilf,a',v,e,hv=>by simp only [AE.ren] at e; cases e; exact hv
  | .nili,a',v,e,hv=>by simp only [AE.ren] at e; cases e; exact hv
  | .ptr b off,a',v,e,hv=>by
    simp only [AE.ren] at e
    split at e
    · rename_i b' hb
      cases e
      obtain ⟨c,h1,h2⟩:=hv
      exact ⟨c,by rw [h.mu b b' hb]; exact h1,h2⟩
    · cases e
  | .pin cs,a',v,e,hv=>by
    simp only [AE.ren] at e; cases e
    obtain ⟨c,o,h1,h2⟩:=hv
    exact ⟨c,o,h1,h2.mono h.gam⟩
  | .slice tok s es,a',v,e,hv=>by
    have hn:∀ tok',(∀ c off cap,TokOk g es.length c off cap tok→TokOk g' es.length c off cap tok')→(Bare tok v→Bare tok' v)→V g' (.slice tok' s es) v:=by
      intro tok' ht hbr
      rcases hv with hv | ⟨c,o,cap,h1,h2,h3,h4,h5⟩
      · exact .inl ⟨hbr hv.1,hv.2⟩
      · exact .inr ⟨c,o,cap,h1,h2,h3,h4.mono h.gam,ht _ _ _ h5⟩
    cases tok with
    | none=>simp only [AE.ren] at e; cases e; exact hn _ (fun _ _ _ _=>trivial) id
    | full=>simp only [AE.ren] at e; cases e; exact hn _ (fun _ _ _ h=>h) id
    | buf b=>
      simp only [AE.ren] at e
      split at e
      · rename_i b' hb
        cases e
        exact hn _ (fun c off cap ht=>fun s n hn=>by
          rw [h.tip b b' hb] at hn
          rw [h.buf b b' hb]
          exact ht s n hn) fun hb=>by
          rcases hb with hb | ⟨a,cap,hb,hb2 | hb2⟩
          · exact .inl hb
          · cases hb2
          · exact .inr ⟨a,cap,hb,.inr hb2⟩
      · cases e; exact hn _ (fun _ _ _ _=>trivial) Bare.none
  | .mref b s off len cap,a',v,e,hv=>by
    simp only [AE.ren] at e
    split at e
    · rename_i b' hb
      cases e
      obtain ⟨c,h1,h2⟩:=hv
      exact ⟨c,by rw [h.mu b b' hb]; exact h1,h2⟩
    · cases e
  | .mapr b,a',v,e,hv=>by
    simp only [AE.ren] at e
    split at e
    · rename_i b' hb
      cases e
      obtain ⟨c,h1,h2⟩:=hv
      exact ⟨c,by rw [h.mu b b' hb]; exact h1,h2⟩
    · cases e
  | .mapf ks vs,a',v,e,hv=>by
    simp only [AE.ren] at e; cases e
    rcases hv with hv | ⟨c,h1,h2⟩
    · exact .inl hv
    · exact .inr ⟨c,h1,h.gam _ _ _ h2⟩
  | .fn f a b,a',v,e,hv=>by
    simp only [AE.ren] at e
    split at e
    · rename_i x y hx hy
      cases e
      obtain ⟨p,q,h1,h2,h3⟩:=hv
      exact ⟨p,q,h1,VL.ren h a x _ hx h2,VL.ren h b y _ hy h3⟩
    · cases e
  | .iface t x,a',v,e,hv=>by
    simp only [AE.ren] at e
    split at e
    · rename_i y hy
      cases e
      obtain ⟨p,h1,h2⟩:=hv
      exact ⟨p,h1,V.ren h x y _ hy h2⟩
    · cases e
  | .agg cs,a',v,e,hv=>by
    simp only [AE.ren] at e
    split at e
    · rename_i y hy
      cases e
      obtain ⟨p,h1,h2⟩:=hv
      exact ⟨p,h1,VL.ren h cs y _ hy h2⟩
    · cases e
  | .tuple cs,a',v,e,hv=>by
    simp only [AE.ren] at e
    split at e
    · rename_i y hy
      cases e
      obtain ⟨p,h1,h2⟩:=hv
      exact ⟨p,h1,VL.ren h cs y _ hy h2⟩
    · cases e
theorem VL.ren {σ:Oid→Option Oid} {g g':Gh} (h:RenOk σ g g'):∀ (as as':List AV) (vs:List Value),renL σ as = some as'→VL g as vs→VL g' as' vs
  | [],as',vs,e,hv=>by simp only [AE.renL] at e; cases e; exact hv
  | a :: as,as',vs,e,hv=>by
    simp only [AE.renL] at e
    split at e
    · rename_i x y hx hy
      cases e
      obtain ⟨v,vs,h1,h2,h3⟩:=hv
      exact ⟨v,vs,h1,V.ren h a x _ hx h2,VL.ren h as y _ hy h3⟩
    · cases e
end
theorem find_renHeap {σ:Oid→Option Oid}:∀ {H Hc:Heap},renHeap σ H = some Hc→(∀ b b' e,σ b = some e→σ b' = some e→b = b') →
    (∀ e ob',find Hc e = some ob'→∃ b ob,σ b = some e∧find H b = some ob∧renOb σ ob = some ob')∧(∀ b e ob,σ b = some e→find H b = some ob→∃ ob',find Hc e = some ob'∧renOb σ ob = some ob')
  | [],Hc,h,_=>by simp only [renHeap] at h; cases h; simp [find]
  | (o,ob) :: r,Hc,h,hi=>by
    simp only [renHeap] at h
    split at h
    · rename_i ho
      obtain ⟨k1,k2⟩:=find_renHeap h hi
      refine ⟨fun e ob' he=>?_,fun b e ob2 hb hf=>?_⟩
      · obtain ⟨b,ob2,h1,h2,h3⟩:=k1 e ob' he
        refine ⟨b,ob2,h1,?_,h3⟩
        simp only [find]
        rw [if_neg]; exact h2
        rintro rfl; rw [ho] at h1; cases h1
      · simp only [find] at hf
        rw [if_neg (by rintro rfl; rw [ho] at hb; cases hb)] at hf
        exact k2 b e ob2 hb hf
    · rename_i o' ho
      split at h
      · rename_i ob' r' hob hr
        cases h
        obtain ⟨k1,k2⟩:=find_renHeap hr hi
        refine ⟨fun e ob2 he=>?_,fun b e ob2 hb hf=>?_⟩
        · simp only [find] at he
          split at he
          · rename_i e1; subst e1; cases he
            exact ⟨o,ob,ho,by simp [find],hob⟩
          · rename_i hne
            obtain ⟨b,ob3,h1,h2,h3⟩:=k1 e ob2 he
            refine ⟨b,ob3,h1,?_,h3⟩
            simp only [find]
            rw [if_neg]; exact h2
            rintro rfl; rw [ho] at h1; cases h1; exact hne rfl
        · simp only [find] at hf
          split at hf
          · rename_i e1; subst e1; cases hf
            rw [ho] at hb; cases hb
            exact ⟨ob',by simp [find],hob⟩
          · rename_i hne
            obtain ⟨ob3,h1,h2⟩:=k2 b e ob2 hb hf
            refine ⟨ob3,?_,h2⟩
            simp only [find]
            rw [if_neg]; exact h1
            rintro rfl; exact hne (hi _ _ _ ho hb)
      · cases h
theorem renOb_block {σ:Oid→Option Oid} {g g':Gh} (h:RenOk σ g g') {b b':Oid} (hb:σ b = some b') {ob ob':Ob} (ho:renOb σ ob = some ob'):blockOf g' b' ob' = blockOf g b ob∧ownOf g' b' ob' = ownOf g b ob:=by
  cases ob with
  | cells w cs=>
    simp only [renOb] at ho
    cases hr:renL σ cs with
    | none=>rw [hr] at ho; cases ho
    | some cs'=>rw [hr] at ho; cases ho; cases w <;> simp [blockOf,ownOf,h.mu b b' hb]
  | buf s n=>simp only [renOb] at ho; cases ho; simp [blockOf,ownOf,h.buf b b' hb]
theorem renOb_tip {σ:Oid→Option Oid} {ob ob':Ob} (ho:renOb σ ob = some ob'):(match some ob' with | some (.buf s n)=>some (s,n) | _=>none) = (match some ob with | some (.buf s n)=>some (s,n) | _=>none:Option (Nat × Nat)):=by
  cases ob with
  | cells w cs=>simp only [renOb] at ho; cases hr:renL σ cs <;> rw [hr] at ho <;> cases ho; rfl
  | buf s n=>simp only [renOb] at ho; cases ho; rfl
theorem renL_get0 {σ:Oid→Option Oid}:∀ {a y:List AV},renL σ a = some y→y.length = a.length∧(∀ n,renL σ (a.take n) = some (y.take n))∧∀ n,renL σ (a.drop n) = some (y.drop n)
  | [],y,h=>by simp only [renL] at h; cases h; exact ⟨rfl,fun n=>by simp [renL],fun n=>by simp [renL]⟩
  | a :: r,y,h=>by
    simp only [renL] at h
    split at h
    · rename_i a' r' ha hr
      cases h
      obtain ⟨h1,h2,h3⟩:=renL_get0 hr
      refine ⟨by simp [h1],fun n=>?_,fun n=>?_⟩
      · cases n with
        | zero=>simp [renL]
        | succ n=>simp [renL,ha,h2 n]
      · cases n with
        | zero=>simp [renL,ha,hr]
        | succ n=>simpa using h3 n
    · cases h
theorem esOf_ren {σ:Oid→Option Oid} {g g':Gh} (h:RenOk σ g g') {kd:IntKind} {n:Nat}:∀ {ks:List Int} {cs cs':List AV} {l:List MapEntry},renL σ cs = some cs'→ML g (esOf kd n ks cs) l→ML g' (esOf kd n ks cs') l
  | [],cs,cs',l,_,hm=>hm
  | k :: ks,cs,cs',l,hr,hm=>by
    obtain ⟨x,r,e1,e2,⟨us,e3,e4⟩,e5⟩:=hm
    obtain ⟨_,q2,q3⟩:=renL_get0 hr
    exact ⟨x,r,e1,e2,⟨us,e3,VL.ren h _ _ _ (q2 n) e4⟩,esOf_ren h (q3 n) e5⟩
theorem Body.ren {σ:Oid→Option Oid} {g g':Gh} (h:RenOk σ g g') {w:World} {c:Nat} {f:Fl} {cs cs':List AV} (hr:renL σ cs = some cs') (hb:Body g w c f cs):Body g' w c f cs':=by
  cases f with
  | ro=>obtain ⟨vs,e,h1,h2⟩:=hb; exact ⟨vs,e,h1,VL.ren h cs cs' _ hr h2⟩
  | rw=>obtain ⟨vs,e,h1,h2⟩:=hb; exact ⟨vs,e,h1,VL.ren h cs cs' _ hr h2⟩
  | mk kd ks n=>
    obtain ⟨l,k,h1,h2,h3⟩:=hb
    exact ⟨l,k,h1,(renL_get0 hr).1.trans h2,esOf_ren h hr h3⟩
  | mw=>
    obtain ⟨l,k,ks,vs,a,h1,h2,h3,h4,rfl,h6⟩:=hb
    have e:cs' = [a]:=by
      rcases h6 with rfl | rfl <;> (simp only [renL,AE.ren] at hr; cases hr; rfl)
    subst e
    exact ⟨l,k,ks,vs,a,h1,h2,h3,h4.all fun a v r1 r2 hv=>(by
      obtain ⟨n1,n2⟩:=zip_nil h3 r1 r2
      exact hv.still h.gam n1 n2),rfl,h6⟩
theorem renOb_ok {ob:Ob} {σ:Oid→Option Oid} {g g':Gh} (h:RenOk σ g g') {w:World} {b b':Oid} (hb:σ b = some b') (hΓ:∀ c,blockOf g b ob = some c→∀ o,g'.Γ c o = g.Γ c o) {ob':Ob} (ho:renOb σ ob = some ob') (hk:ObOk g w b ob):ObOk g' w b' ob':=by
  cases ob with
  | cells wr cs=>
    simp only [renOb] at ho
    cases hr:renL σ cs with
    | none=>rw [hr] at ho; cases ho
    | some cs'=>
      rw [hr] at ho; cases ho
      obtain ⟨c,k1,k2,k4⟩:=hk
      exact ⟨c,by rw [h.mu b b' hb]; exact k1,k2.ren h hr,fun o=>by rw [hΓ c (by simpa [blockOf] using k1)]; exact k4 o⟩
  | buf s n=>
    simp only [renOb] at ho; cases ho
    intro c cap hcb
    rw [h.buf b b' hb] at hcb
    obtain ⟨vs,e,k2,k3,k4,k5⟩:=hk c cap hcb
    exact ⟨vs,e,k2,k3,k4,fun o hoo=>by rw [hΓ c (by simp [blockOf,hcb])]; exact k5 o hoo⟩
theorem toExt_root (ids:List Oid):∀ (b e:Oid),toExt ids b = some e→b.root ∈ ids
  | .cl o j,e,h=>by
    simp only [toExt] at h
    split at h
    · rename_i o' ho
      exact toExt_root ids o o' ho
    · cases h
  | .loc d,e,h=>by
    simp only [toExt] at h
    cases hi:idx ids (.loc d) 0 with
    | none=>rw [hi] at h; cases h
    | some i=>exact List.mem_of_getElem? (idx_spec _ _ _ _ hi).2
  | .ext q,e,h=>by
    simp only [toExt] at h
    cases hi:idx ids (.ext q) 0 with
    | none=>rw [hi] at h; cases h
    | some i=>exact List.mem_of_getElem? (idx_spec _ _ _ _ hi).2
theorem find_ren2 {ids:List Oid} {G H Hc:Heap} (hr:renHeap (toExt ids) G = some Hc) (hG:∀ b e,toExt ids b = some e→find G b = find H b) :
    (∀ e ob',find Hc e = some ob'→∃ b ob,toExt ids b = some e∧find H b = some ob∧renOb (toExt ids) ob = some ob')∧(∀ b e ob,toExt ids b = some e→find H b = some ob→∃ ob',find Hc e = some ob'∧renOb (toExt ids) ob = some ob'):=by
  obtain ⟨k1,k2⟩:=find_renHeap hr (fun b b' e=>toExt_inj ids)
  refine ⟨fun e ob' h=>?_,fun b e ob h1 h2=>?_⟩
  · obtain ⟨b,ob,q1,q2,q3⟩:=k1 e ob' h
    exact ⟨b,ob,q1,by rw [← hG b e q1]; exact q2,q3⟩
  · exact k2 b e ob h1 (by rw [hG b e h1]; exact h2)
def Gh.callee (g:Gh) (ids:List Oid) (Hc:Heap):Gh :=
  { Γ:=g.Γ,μ:=fun e=>(ofExt ids e).bind g.μ,tip:=tipOf Hc,bufc:=fun e=>(ofExt ids e).bind g.bufc }
theorem callee_ren {g:Gh} {G H Hc:Heap} {w:World} (hw:WC g H w) {ids:List Oid} (hr:renHeap (toExt ids) G = some Hc) (hG:∀ b e,toExt ids b = some e→find G b = find H b):RenOk (toExt ids) g (g.callee ids Hc):=by
  obtain ⟨k1,k2⟩:=find_ren2 hr hG
  refine ⟨fun _ _ _ h=>h,fun b b' hb=>?_,fun b b' hb=>?_,fun b b' hb=>?_⟩
  · simp [Gh.callee,(of_toExt ids b b' hb).1]
  · show tipOf Hc b' = g.tip b
    rw [hw.tip]
    simp only [tipOf]
    cases hf:find H b with
    | none=>
      cases hf':find Hc b' with
      | none=>rfl
      | some ob'=>
        obtain ⟨b2,ob,h1,h2,_⟩:=k1 b' ob' hf'
        rw [toExt_inj ids h1 hb,hf] at h2; cases h2
    | some ob=>
      obtain ⟨ob',h1,h2⟩:=k2 b b' ob hb hf
      rw [h1]; exact renOb_tip h2
  · simp [Gh.callee,(of_toExt ids b b' hb).1]
theorem callee_wc {g:Gh} {G H Hc:Heap} {w:World} (hw:WC g H w) {ids:List Oid} (hr:renHeap (toExt ids) G = some Hc) (hG:∀ b e,toExt ids b = some e→find G b = find H b) :
    WC (g.callee ids Hc) Hc w∧(∀ c,Used (g.callee ids Hc) Hc c→∃ b e ob,toExt ids b = some e∧find H b = some ob∧blockOf g b ob = some c)∧∀ c,Live (g.callee ids Hc) Hc c→Live g H c:=by
  obtain ⟨k1,k2⟩:=find_ren2 hr hG
  have hR:=callee_ren hw hr hG
  refine ⟨⟨fun _=>rfl,fun c o a ha=>?_,fun e ob' he=>?_,fun e1 e2 ob1 ob2 c h1 h2 h3 h4=>?_⟩,fun c hl=>?_,fun c hl=>?_⟩
  · exact (hw.pin c o a ha).gam (g':=g.callee ids Hc) (fun _ _ _ h=>h) rfl
  · obtain ⟨b,ob,h1,h2,h3⟩:=k1 e ob' he
    exact renOb_ok hR h1 (fun _ _ _=>rfl) h3 (hw.objs b ob h2)
  · obtain ⟨b1,o1,p1,p2,p3⟩:=k1 e1 ob1 h1
    obtain ⟨b2,o2,q1,q2,q3⟩:=k1 e2 ob2 h2
    rw [(renOb_block hR p1 p3).1] at h3
    rw [(renOb_block hR q1 q3).1] at h4
    have:=hw.inj b1 b2 o1 o2 c p2 q2 h3 h4
    subst this
    rw [p1] at q1; cases q1; rfl
  · obtain ⟨e,ob',h1,h2⟩:=hl
    obtain ⟨b,ob,p1,p2,p3⟩:=k1 e ob' h1
    rw [(renOb_block hR p1 p3).1] at h2
    exact ⟨b,e,ob,p1,p2,h2⟩
  · obtain ⟨e,ob',h1,h2⟩:=hl
    obtain ⟨b,ob,p1,p2,p3⟩:=k1 e ob' h1
    rw [(renOb_block hR p1 p3).2] at h2
    exact ⟨b,ob,p2,h2⟩
def Gh.back (g g2:Gh) (ids:List Oid) (H:Heap):Gh :=
  { Γ:=g2.Γ,μ:=fun b=>match toExt ids b with | some e=>g2.μ e | none=>g.μ b,tip:=tipOf H,bufc:=fun b=>match toExt ids b with | some e=>g2.bufc e | none=>g.bufc b }
theorem back_step {g g2:Gh} {G H Hc H2 ws:Heap} {w w':World} (hw:WC g H w) {ids:List Oid} (hb:Base ids) (hr:renHeap (toExt ids) G = some Hc) (hG:∀ b e,toExt ids b = some e→find G b = find H b)
    (hw2:WC g2 H2 w') (hk:Keep (fun b=>¬ IsExt b) (g.callee ids Hc) g2) (hc:Ctx w (g.callee ids Hc) Hc g2 H2 w') (hp:Pers Hc H2)
    (hws:renHeap (ofExt ids) H2 = some ws) :
    RenOk (ofExt ids) g2 (g.back g2 ids (insAll H ws))∧WC (g.back g2 ids (insAll H ws)) (insAll H ws) w'∧Keep (fun _=>False) g (g.back g2 ids (insAll H ws))∧Ctx w g H (g.back g2 ids (insAll H ws)) (insAll H ws) w' ∧
      ∀ b s n c cap,find H2 b = some (.buf s n)→ofExt ids b = none→g2.bufc b = some (c,cap)→¬ Used (g.back g2 ids (insAll H ws)) (insAll H ws) c:=by
  obtain ⟨cw,cu,cl⟩:=callee_wc hw hr hG
  have hR:=callee_ren hw hr hG
  obtain ⟨i1,i2⟩:=find_ren2 hr hG
  obtain ⟨j1,j2⟩:=find_renHeap hws (fun e e' b h h'=>by
    have h1:=to_ofExt hb e b h
    have h2:=to_ofExt hb e' b h'
    rw [h1] at h2; cases h2; rfl)
  -- which object stands in the new heap
  have which:∀ b ob,find (insAll H ws) b = some ob→(∃ e ob2,ofExt ids e = some b∧toExt ids b = some e∧find H2 e = some ob2∧renOb (ofExt ids) ob2 = some ob) ∨ (toExt ids b = none∧find H b = some ob):=by
    intro b ob hf
    rw [find_insAll] at hf
    cases hq:find ws b with
    | some ob'=>
      rw [hq] at hf; cases hf
      obtain ⟨e,ob2,h1,h2,h3⟩:=j1 b _ hq
      exact .inl ⟨e,ob2,h1,to_ofExt hb e b h1,h2,h3⟩
    | none=>
      rw [hq] at hf
      simp only at hf
      cases ht:toExt ids b with
      | none=>exact .inr ⟨rfl,hf⟩
      | some e=>
        obtain ⟨ob',h1,_⟩:=i2 b e ob ht hf
        have h2:=hp e (of_toExt ids b e ht).2 (by rw [h1]; rfl)
        cases h3:find H2 e with
        | none=>rw [h3] at h2; cases h2
        | some ob2=>
          obtain ⟨ob3,h4,_⟩:=j2 e b ob2 (of_toExt ids b e ht).1 h3
          rw [hq] at h4; cases h4
  have hR2:RenOk (ofExt ids) g2 (g.back g2 ids (insAll H ws)):=by
    refine ⟨fun _ _ _ h=>h,fun e b he=>?_,fun e b he=>?_,fun e b he=>?_⟩
    · simp [Gh.back,to_ofExt hb e b he]
    · show tipOf (insAll H ws) b = g2.tip e
      rw [hw2.tip]
      simp only [tipOf]
      cases hf:find H2 e with
      | some ob2=>
        obtain ⟨ob3,h4,h5⟩:=j2 e b ob2 he hf
        rw [find_insAll,h4]
        exact renOb_tip h5
      | none=>
        cases hf':find (insAll H ws) b with
        | none=>rfl
        | some ob=>
          rcases which b ob hf' with ⟨e',ob2,h1,h2,h3,_⟩ | ⟨h1,_⟩
          · have:=to_ofExt hb e b he
            rw [h2] at this; cases this
            rw [hf] at h3; cases h3
          · rw [to_ofExt hb e b he] at h1; cases h1
    · simp [Gh.back,to_ofExt hb e b he]
  -- a block of an object that was not handed over
  have apart_:∀ b ob c,toExt ids b = none→find H b = some ob→blockOf g b ob = some c→¬ Used (g.callee ids Hc) Hc c:=by
    intro b ob c h1 h2 h3 hu
    obtain ⟨b',e,ob',q1,q2,q3⟩:=cu c hu
    have:=hw.inj b b' ob ob' c h2 q2 h3 q3
    subst this
    rw [h1] at q1; cases q1
  have hkeep:Keep (fun _=>False) g (g.back g2 ids (insAll H ws)):=by
    refine ⟨fun c o x h=>hk.gam c o x h,fun b _ c hcb=>?_,fun b _=>?_⟩
    · simp only [Gh.back]
      split
      · rename_i e he
        exact hk.mu e (fun h=>h (of_toExt ids b e he).2) c (by rw [hR.mu b e he]; exact hcb)
      · exact hcb
    · cases ht:toExt ids b with
      | some e=>
        have hx:=hk.tok e (fun h=>h (of_toExt ids b e ht).2)
        refine ⟨fun s n' hn=>?_⟩
        have hn2:g2.tip e = some (s,n'):=by rw [← hR2.tip e b (of_toExt ids b e ht).1]; exact hn
        obtain ⟨s',n,q1,q2,q3⟩:=hx.le s n' hn2
        refine ⟨s',n,by rw [← hR.tip b e ht]; exact q1,q2,fun he=>?_⟩
        rw [hR2.buf e b (of_toExt ids b e ht).1,q3 he,hR.buf b e ht]
      | none=>
        refine .same ?_ (by simp [Gh.back,ht])
        show tipOf (insAll H ws) b = g.tip b
        rw [hw.tip]
        simp only [tipOf]
        cases hf:find H b with
        | some ob=>
          rw [find_insAll]
          cases hq:find ws b with
          | none=>simp only [hf]
          | some ob'=>
            obtain ⟨e,ob2,h1,_⟩:=j1 b _ hq
            rw [to_ofExt hb e b h1] at ht; cases ht
        | none=>
          rw [find_insAll]
          cases hq:find ws b with
          | none=>simp only [hf]
          | some ob'=>
            obtain ⟨e,ob2,h1,_⟩:=j1 b _ hq
            rw [to_ofExt hb e b h1] at ht; cases ht
  have side:∀ c b ob,find (insAll H ws) b = some ob→blockOf (g.back g2 ids (insAll H ws)) b ob = some c →
      (∃ e ob2,toExt ids b = some e∧find H2 e = some ob2∧blockOf g2 e ob2 = some c) ∨ (toExt ids b = none∧find H b = some ob∧blockOf g b ob = some c):=by
    intro c b ob hf hbl
    rcases which b ob hf with ⟨e,ob2,q1,q2,q3,q4⟩ | ⟨q1,q2⟩
    · rw [(renOb_block hR2 q1 q4).1] at hbl
      exact .inl ⟨e,ob2,q2,q3,hbl⟩
    · refine .inr ⟨q1,q2,?_⟩
      cases ob <;> simpa [blockOf,Gh.back,q1] using hbl
  have mixed:∀ c e ob2 b ob,find H2 e = some ob2→blockOf g2 e ob2 = some c→toExt ids b = none→find H b = some ob→blockOf g b ob = some c→False:=by
    intro c e ob2 b ob p1 p2 p3 p4 p5
    have hlt:=hw.used_lt ⟨b,ob,p4,p5⟩
    have hnu:=apart_ b ob c p3 p4 p5
    rcases hc.usd c ⟨e,ob2,p1,p2⟩ with h | h
    · exact hnu h
    · omega
  refine ⟨hR2,⟨fun _=>rfl,fun c o a ha=>?_,fun b ob hf=>?_,fun b1 b2 o1 o2 c h1 h2 h3 h4=>?_⟩,hkeep,⟨hc.size,fun c hlt hn=>?_,hc.gam,fun c hl=>?_,fun c hl=>?_,hc.os,hc.out,hc.tape⟩,fun b s n c cap h1 h2 h3 hu=>?_⟩
  · exact (hw2.pin c o a ha).gam (g':=g.back g2 ids (insAll H ws)) (fun _ _ _ h=>h) rfl
  · rcases which b ob hf with ⟨e,ob2,q1,q2,q3,q4⟩ | ⟨q1,q2⟩
    · exact renOb_ok hR2 q1 (fun _ _ _=>rfl) q4 (hw2.objs e ob2 q3)
    · have h0:=hw.objs b ob q2
      have frame:∀ c,blockOf g b ob = some c→w'.heap[c]? = w.heap[c]?∧∀ o,g2.Γ c o = g.Γ c o:=by
        intro c hcb
        exact hc.keep c (hw.used_lt ⟨b,ob,q2,hcb⟩) fun hl=>apart_ b ob c q1 q2 hcb hl.used
      cases ob with
      | cells wr cs=>
        obtain ⟨c,k1,k2,k4⟩:=h0
        obtain ⟨f1,f2⟩:=frame c (by simpa [blockOf] using k1)
        exact ⟨c,hkeep.mu b (fun h=>h) c k1,hkeep.body (OffL.none _) f1 k2,fun o=>by show g2.Γ c o = nob; rw [f2]; exact k4 o⟩
      | buf s n=>
        intro c cap hcb
        have hcb':g.bufc b = some (c,cap):=by simpa [Gh.back,q1] using hcb
        obtain ⟨vs,e,k2,k3,k4,k5⟩:=h0 c cap hcb'
        obtain ⟨f1,f2⟩:=frame c (by simp [blockOf,hcb'])
        exact ⟨vs,e,by rw [f1]; exact k2,k3,k4,fun o ho=>by show g2.Γ c o = nob; rw [f2]; exact k5 o ho⟩
  · rcases side c b1 o1 h1 h3 with ⟨e1,x1,p1,p2,p3⟩ | ⟨p1,p2,p3⟩
    · rcases side c b2 o2 h2 h4 with ⟨e2,x2,q1,q2,q3⟩ | ⟨q1,q2,q3⟩
      · have:=hw2.inj e1 e2 x1 x2 c p2 q2 p3 q3
        subst this
        exact toExt_inj ids p1 q1
      · exact (mixed c e1 x1 b2 o2 p2 p3 q1 q2 q3).elim
    · rcases side c b2 o2 h2 h4 with ⟨e2,x2,q1,q2,q3⟩ | ⟨q1,q2,q3⟩
      · exact (mixed c e2 x2 b1 o1 q2 q3 p1 p2 p3).elim
      · exact hw.inj b1 b2 o1 o2 c p2 q2 p3 q3
  · obtain ⟨f1,f2⟩:=hc.keep c hlt fun hl=>hn (cl c hl)
    exact ⟨f1,f2⟩
  · obtain ⟨b,ob,h1,h2⟩:=hl
    rcases which b ob h1 with ⟨e,ob2,q1,q2,q3,q4⟩ | ⟨q1,q2⟩
    · rw [(renOb_block hR2 q1 q4).2] at h2
      rcases hc.own c ⟨e,ob2,q3,h2⟩ with h3 | h3
      · exact .inl (cl c h3)
      · exact .inr h3
    · refine .inl ⟨b,ob,q2,?_⟩
      cases ob with
      | cells wr cs=>cases wr <;> first | (cases h2; done) | simpa [ownOf,Gh.back,q1] using h2
      | buf s n=>simpa [ownOf,Gh.back,q1] using h2
  · obtain ⟨b,ob,h1,h2⟩:=hl
    rcases which b ob h1 with ⟨e,ob2,q1,q2,q3,q4⟩ | ⟨q1,q2⟩
    · rw [(renOb_block hR2 q1 q4).1] at h2
      rcases hc.usd c ⟨e,ob2,q3,h2⟩ with h3 | h3
      · obtain ⟨b',e',ob',p1,p2,p3⟩:=cu c h3
        exact .inl ⟨b',ob',p2,p3⟩
      · exact .inr h3
    · refine .inl ⟨b,ob,q2,?_⟩
      cases ob with
      | cells wr cs=>simp [blockOf,Gh.back,q1] at h2 ⊢; exact h2
      | buf s n=>simpa [blockOf,Gh.back,q1] using h2
  · obtain ⟨x,ob,k1,k2⟩:=hu
    rcases side c x ob k1 k2 with ⟨e,ob2,p1,p2,p3⟩ | ⟨p1,p2,p3⟩
    · have:=hw2.inj e b ob2 _ c p2 h1 p3 (by simp [blockOf,h3])
      subst this
      rw [(of_toExt ids x e p1).1] at h2; cases h2
    · exact mixed c b _ x ob h1 (by simp [blockOf,h3]) p1 p2 p3
theorem find_readOnly (H:Heap) (e:Oid):find (readOnly H) e = (find H e).map Ob.seen:=find_map Ob.seen e H
def Gh.seeing (g:Gh) (H:Heap):Gh:={ g with tip:=tipOf H,bufc:=fun _=>none }
theorem seen_wc {g:Gh} {H:Heap} {w:World} (hw:WC g H w):WC (g.seeing (readOnly H)) (readOnly H) w∧∀ c,¬ Live (g.seeing (readOnly H)) (readOnly H) c:=by
  have hf:∀ e ob,find (readOnly H) e = some ob→∃ ob0,find H e = some ob0∧ob = ob0.seen:=by
    intro e ob h
    rw [find_readOnly] at h
    cases hq:find H e with
    | none=>rw [hq] at h; cases h
    | some ob0=>rw [hq] at h; cases h; exact ⟨ob0,rfl,rfl⟩
  refine ⟨⟨fun _=>rfl,fun c o a ha=>?_,fun e ob he=>?_,fun b b' ob ob' c h1 h2 h3 h4=>?_⟩,?_⟩
  · exact (hw.pin c o a ha).gam (g':=g.seeing (readOnly H)) (fun _ _ _ h=>h) rfl
  · obtain ⟨ob0,h1,rfl⟩:=hf e ob he
    have h0:=hw.objs e ob0 h1
    cases ob0 with
    | cells wr cs=>
      obtain ⟨c,k1,k2,k4⟩:=h0
      simp only [Ob.seen]
      split
      · rename_i hr
        obtain ⟨vs,e',k2,k3⟩:=k2.row hr
        exact ⟨c,k1,⟨vs,e',k2,VL.mono (g:=g) (g':=g.seeing (readOnly H)) (fun _ _ _ h=>h) _ _ (fun _ _ _ h=>h) (by simp [toksL_clean]) (VL.clean cs _ k3)⟩,k4⟩
      · intro c cap h; cases h
    | buf s n=>intro c cap h; cases h
  · obtain ⟨o1,p1,rfl⟩:=hf b ob h1
    obtain ⟨o2,p2,rfl⟩:=hf b' ob' h2
    have key:∀ b o,blockOf (g.seeing (readOnly H)) b o.seen = some c→blockOf g b o = some c:=by
      intro b o h
      cases o with
      | cells wr cs=>cases wr <;> first | exact h | cases h
      | buf s n=>cases h
    exact hw.inj b b' o1 o2 c p1 p2 (key _ _ h3) (key _ _ h4)
  · rintro c ⟨b,ob,h1,h2⟩
    obtain ⟨o1,p1,rfl⟩:=hf b ob h1
    have h0:=hw.objs b o1 p1
    cases o1 with
    | cells wr cs=>cases wr <;> cases h2
    | buf s n=>cases h2
def Gh.only (g g2:Gh) (ids:List Oid):Gh:={ Γ:=g2.Γ,μ:=fun b=>match toExt ids b with | some e=>g2.μ e | none=>g.μ b,tip:=g.tip,bufc:=g.bufc }
def Gh.bare (g:Gh):Gh:={ g with tip:=fun _=>none,bufc:=fun _=>none }
theorem adopt_some {dst:Option Nat} {ids:List Oid} {r:AV} {H2 ws:Heap} {ra:OpR} (h:adopt dst ids r H2 ws = some ra) :
    ∃ d b s n es,dst = some d∧r = .slice (.buf b) s es∧ofExt ids b = none∧find H2 b = some (.buf s n)∧n = es.length ∧
      (∀ w ∈ ws,rooted d w.1 = false∧∀ y ∈ w.2.refs ++ w.2.toks,rooted d y = false)∧ra = { v:=.slice (.buf (.loc d)) s es,ws:=(.loc d,.buf s n) :: ws,rd:=ids,fresh:=true }:=by
  unfold adopt at h
  split at h
  · rename_i d b s es
    split at h
    · rename_i s' n h1 h2
      split at h
      · rename_i hc
        obtain ⟨e1,e2,e3⟩:=hc
        subst e1
        cases h
        refine ⟨d,b,_,n,es,rfl,rfl,h1,h2,e2,fun w hw=>?_,rfl⟩
        have:=List.all_eq_true.1 e3 w hw
        simp only [Bool.and_eq_true,Bool.not_eq_true',List.any_eq_false] at this
        refine ⟨this.1.1,fun y hy=>?_⟩
        rcases List.mem_append.1 hy with hy | hy
        · simpa using this.1.2 y hy
        · simpa using this.2 y hy
      · cases h
    · cases h
  · cases h
theorem adopt_rd {dst:Option Nat} {ids:List Oid} {r:AV} {H2 ws:Heap} {ra:OpR} (h:adopt dst ids r H2 ws = some ra):ra.rd = ids:=by
  obtain ⟨d,b,s,n,es,_,_,_,_,_,_,rfl⟩:=adopt_some h
  rfl
theorem good_call {P:Program} {gl:List (Nat × List AV)} {call:CallF} (hcall:CallOk P gl call) {g:Gh} (hgl:Glob gl g) {G H:Heap} {a:Act} {w:World} {o:Oper} (hw:WC g H w) {ro:FuncId→Bool} {kt:Bool} {f:FuncId} {args:List AV} {r:OpR}
    {dst:Option Nat} (h:evCall ro kt call dst G f args = some r) (hdst:∀ d,dst = some d→o.dst = some d) (hag:Agree r G H) (hfr:r.fresh = true→∃ d,o.dst = some d∧ClearH d H) {vs:Array Value} (hv:VL g args vs.toList) (hex:(execOp a.eval o).run P w = .ok (.enter f vs) w) :
    OpGood P g H a w (fun b=>r.fresh = true∧∃ d,o.dst = some d∧rooted d b = true) o r:=by
  unfold evCall at h
  split at h
  · cases h
  rename_i ids hreach
  split at h
  · cases h
  rename_i hcl
  have hb:Base ids:=by
    refine ⟨reach_nodup G _ _ _ _ hreach (by simp),fun x hx b j e=>?_⟩
    subst e
    exact hcl (List.any_eq_true.2 ⟨_,hx,rfl⟩)
  have hG:r.rd = ids→∀ b e,toExt ids b = some e→find G b = find H b:=fun hrd b e he=>by
    have hm:=toExt_root ids b e he
    refine hag b ⟨b.root,by rw [hrd]; exact hm,?_⟩
    cases hq:b.root with
    | cl o j=>exact (hb.plain _ hm o j hq).elim
    | loc d=>rfl
    | ext i=>rfl
  split at h
  · rename_i args' Hc hra hrh
    have hrd:r.rd = ids:=by
      split at h
      · split at h
        · split at h
          · cases h; rfl
          · cases h
        · cases h
      · split at h
        · rename_i r0 H2 hc0
          split at h
          · rename_i r' ws hr' hws
            cases h
            cases ha:adopt dst ids r0 H2 ws with
            | none=>rfl
            | some ra=>simp only [Option.getD_some]; exact adopt_rd ha
          · cases h
        · cases h
    replace hG:=hG hrd
    obtain ⟨cw,cu,cl⟩:=callee_wc hw hrh hG
    have hR:=callee_ren hw hrh hG
    have hva:VL (g.callee ids Hc) (cleanL args') vs.toList:=VL.clean _ _ (VL.ren hR args args' _ hra hv)
    have hvk:VL (g.callee ids Hc) (argsOf kt args') vs.toList:=by
      unfold argsOf
      split
      · exact VL.ren hR args args' _ hra hv
      · exact hva
    split at h
    · -- it only reads
      split at h
      · rename_i r0 H2 hc
        split at h
        · rename_i r' hr'
          cases h
          obtain ⟨sw,sl⟩:=seen_wc cw
          have hva':VL ((g.callee ids Hc).seeing (readOnly Hc)) (cleanL args') vs.toList :=
            VL.mono (g:=g.callee ids Hc) (g':=(g.callee ids Hc).seeing (readOnly Hc)) (fun _ _ _ h=>h) _ _ (fun _ _ _ h=>h) (by simp [toksL_clean]) hva
          intro next Q hn
          unfold Oper.wp
          rw [hex]
          refine (hcall f _ _ _ _ hc _ vs w sw hva' hgl).mono ?_
          rintro e w' ⟨v,g2,rfl,ret⟩
          refine hn v w' (g.only g2 ids) ?_
          have hkeep:Keep (fun _=>False) g (g.only g2 ids):=by
            refine ⟨fun c o x h=>ret.keep.gam c o x h,fun b _ c hcb=>?_,fun b _=>.same rfl rfl⟩
            show (match toExt ids b with | some e=>g2.μ e | none=>g.μ b) = some c
            split
            · rename_i e he
              exact ret.keep.mu e (fun h=>h (of_toExt ids b e he).2) c (by show (ofExt ids e).bind g.μ = some c; rw [(of_toExt ids b e he).1]; exact hcb)
            · exact hcb
          have hfr:∀ c,c < w.heap.size→w'.heap[c]? = w.heap[c]?∧∀ o,g2.Γ c o = g.Γ c o:=fun c hc=>ret.ctx.keep c hc (sl c)
          have hval:V (g.only g2 ids).bare r' v:=by
            refine V.ren (g:=g2.bare) (g':=(g.only g2 ids).bare) (σ:=ofExt ids) ⟨fun _ _ _ h=>h,fun e b he=>?_,fun _ _ _=>rfl,fun _ _ _=>rfl⟩ r0 r' v hr' (V.mono (g:=g2) (g':=g2.bare) (fun _ _ _ h=>h) _ _ (fun _ _ _ h=>h) (fun _ _=>.gone rfl) ret.val)
            show (match toExt ids b with | some e=>g2.μ e | none=>g.μ b) = g2.μ e
            rw [to_ofExt hb e b he]
          have hblk:∀ b ob c,find H b = some ob→blockOf (g.only g2 ids) b ob = some c→blockOf g b ob = some c:=by
            intro b ob c hf hbl
            have h0:=hw.objs b ob hf
            cases ob with
            | cells wr cs=>
              obtain ⟨c0,k1,_⟩:=h0
              have:=hkeep.mu b (fun h=>h) c0 k1
              have hbl':(g.only g2 ids).μ b = some c:=hbl
              rw [this] at hbl'; cases hbl'; exact k1
            | buf s n=>exact hbl
          have hown:∀ b ob c,find H b = some ob→ownOf (g.only g2 ids) b ob = some c→ownOf g b ob = some c:=by
            intro b ob c hf hbl
            cases ob with
            | cells wr cs=>exact hblk b _ c hf (ownOf_block hbl)  |> fun h=>by cases wr <;> first | exact h | cases hbl
            | buf s n=>exact hbl
          refine ⟨?_,⟨hw.tip,fun c o a ha=>?_,fun b ob hob=>?_,fun b b' ob ob' c h1 h2 h3 h4=>hw.inj b b' ob ob' c h1 h2 (hblk _ _ _ h1 h3) (hblk _ _ _ h2 h4)⟩,hkeep.wider fun _ h=>h.elim,
            ⟨ret.ctx.size,fun c hc _=>hfr c hc,fun c o a h=>ret.keep.gam c o a h,fun c hl=>?_,fun c hl=>?_,ret.ctx.os,ret.ctx.out,ret.ctx.tape⟩⟩
          · exact V.mono (g:=(g.only g2 ids).bare) (g':=g.only g2 ids) (fun _ _ _ h=>h) _ _ (fun _ _ _ h=>h) (by simp [toks_clean]) (V.clean _ _ hval)
          · exact (ret.wc.pin c o a ha).gam (g':=g.only g2 ids) (fun _ _ _ h=>h) rfl
          · have h0:=hw.objs b ob hob
            cases ob with
            | cells wr cs=>
              obtain ⟨c,k1,k2,k4⟩:=h0
              obtain ⟨f1,f2⟩:=hfr c (hw.used_lt ⟨b,_,hob,k1⟩)
              exact ⟨c,hkeep.mu b (fun h=>h) c k1,hkeep.body (OffL.none _) f1 k2,fun o=>by show g2.Γ c o = nob; rw [f2]; exact k4 o⟩
            | buf s n=>
              intro c cap hcb
              obtain ⟨us,e,k2,k3,k4,k5⟩:=h0 c cap hcb
              obtain ⟨f1,f2⟩:=hfr c (hw.used_lt ⟨b,_,hob,by simp only [blockOf]; rw [show g.bufc b = some (c,cap) from hcb]; rfl⟩)
              exact ⟨us,e,by rw [f1]; exact k2,k3,k4,fun o ho=>by show g2.Γ c o = nob; rw [f2]; exact k5 o ho⟩
          · obtain ⟨b,ob,h1,h2⟩:=hl
            exact .inl ⟨b,ob,h1,hown b ob c h1 h2⟩
          · obtain ⟨b,ob,h1,h2⟩:=hl
            exact .inl ⟨b,ob,h1,hblk b ob c h1 h2⟩
        · cases h
      · cases h
    · split at h
      · rename_i r0 H2 hc
        split at h
        · rename_i r' ws hr' hws
          cases h
          intro next Q hn
          unfold Oper.wp
          rw [hex]
          refine (hcall f _ _ _ _ hc _ vs w cw hvk hgl).mono ?_
          rintro e w' ⟨v,g2,rfl,ret⟩
          obtain ⟨b1,b2,b3,b4,b5⟩:=back_step hw hb hrh hG ret.wc ret.keep ret.ctx ret.pers hws
          cases had:adopt dst ids r0 H2 ws with
          | none=>
            rw [had] at hn hfr
            exact hn v w' _ ⟨V.clean _ _ (V.ren b1 r0 r' _ hr' ret.val),b2,b3.wider fun _ h=>h.elim,b4⟩
          | some ra=>
            rw [had] at hn hfr
            simp only [Option.getD_some] at hn hfr
            obtain ⟨d,b,s,n,es,hd0,rfl,h1,h2,rfl,hwsd,rfl⟩:=adopt_some had
            have hd:=hdst d hd0
            obtain ⟨d',hd',hcl⟩:=hfr rfl
            rw [hd] at hd'; cases hd'
            have hobj:=ret.wc.objs b _ h2
            obtain ⟨m1,m2⟩:=b2.moved (F:=fun x=>rooted d x = true) (.loc d) s es.length (g2.bufc b)
              (fun ob hob=>by
                rw [find_insAll] at hob
                split at hob
                · rename_i ob' hf
                  have:=(hwsd _ (find_mem hf)).1
                  simp [rooted,Oid.root] at this
                · rw [hcl.1 _ (rooted_loc d)] at hob; cases hob)
              (fun c cap hc0=>⟨b5 b s es.length c cap h2 h1 hc0,by
                obtain ⟨us,e',k2,k3,k4,k5⟩:=hobj c cap hc0
                exact ⟨us,e',k2,k3,k4,k5⟩⟩)
              (fun hk=>hk.wider fun x hx=>by subst hx; exact rooted_loc d)
              (fun x ob hx hf y hy hF=>by
                rw [find_insAll] at hf
                split at hf
                · rename_i ob' hf'
                  cases hf
                  have:=(hwsd _ (find_mem hf')).2 y hy
                  rw [this] at hF; cases hF
                · rw [hcl.2 x ob hf y hy] at hF; cases hF)
            refine hn v w' _ ⟨?_,m2,(b3.wider fun _ h=>h.elim).trans (m1.wider fun x hx=>⟨rfl,d,hd,hx⟩),
              b4.moved (.loc d) s es.length (g2.bufc b) fun c cap hc0=>(ret.ctx.own c ⟨b,_,h2,by simp [ownOf,hc0]⟩).imp (cl c) id⟩
            have hv0:=ret.val
            simp only [V] at hv0 ⊢
            rcases hv0 with ⟨hb0,h3⟩ | ⟨c,off,cap,q0,q1,q2,q3,q4⟩
            · refine .inl ⟨?_,h3⟩
              rcases hb0 with hb0 | ⟨a,cap,hb0,hb1 | hb1⟩
              · exact .inl hb0
              · cases hb1
              · exact .inr ⟨a,cap,hb0,.inr hb1⟩
            · refine .inr ⟨c,off,cap,q0,q1,q2,q3,fun s' n' ht=>?_⟩
              simp only [Gh.moved,tipOf_ins,if_true] at ht
              cases ht
              refine ⟨Nat.le_refl _,fun _=>?_⟩
              simp only [Gh.moved,if_true]
              exact (q4 s es.length (by rw [ret.wc.tip]; simp [tipOf,h2])).2 rfl
        · cases h
      · cases h
  · cases h
end Go.Proofs.YtjojaiomgdjhfaaGreatDoor.AE
namespace Go.Proofs.YtjojaiomgdjhfaaGreatDoor.AE
open Go MapKept
theorem keyOk_is {P:Program} {tb:List TI} (hP:TbOk P tb) {kt:TypeId} {d:TD} (hd:descOf tb kt = some d) {key:AV} (hk:keyOk d key = true):∃ d',P.underlying kt = some d'∧∀ g v,V g key v→IsKey d' v:=by
  obtain ⟨_,_,rfl,d',h1,h2⟩:=descOf_some hP hd
  refine ⟨d',h1,fun g v hv=>?_⟩
  unfold keyOk at hk
  split at hk
  · rename_i k k' n he
    rw [he] at h2
    cases ofDesc_int h2
    simp only [V] at hv; subst hv
    rw [beq_iff_eq] at hk
    exact hk.symm
  · rename_i s he
    rw [he] at h2
    cases ofDesc_string h2
    simp only [V] at hv; subst hv
    trivial
  · cases hk
theorem keyOk_is2 {tb:List TI} {d:TD} {key:AV} (hk:keyOk d key = true) {d':TypeDesc} (h2:ofDesc d' = d) {g:Gh} {v:Value} (hv:V g key v):IsKey d' v:=by
  unfold keyOk at hk
  split at hk
  · cases ofDesc_int h2
    simp only [V] at hv; subst hv
    rw [beq_iff_eq] at hk
    exact hk.symm
  · cases ofDesc_string h2
    simp only [V] at hv; subst hv
    trivial
  · cases hk
theorem sameK_ok {g:Gh} {a key:AV} {b:Bool} (h:sameK a key = some b) {va vk:Value} (ha:V g a va) (hk:V g key vk):b = true ↔ va = vk:=by
  unfold sameK at h
  split at h
  · split at h
    · rename_i hkk
      cases h
      simp only [V] at ha hk; subst ha hk hkk
      simp
    · cases h
  · cases h
    simp only [V] at ha hk; subst ha hk
    simp
  · cases h
theorem findE_ok {g:Gh} {d':TypeDesc} {key:AV} {vk:Value} (hk:V g key vk) (hik:IsKey d' vk):∀ {es:List (AV × AV)} {l:List MapEntry} {i:Nat} {r:Option (Nat × AV)},findE key es i = some r→ML g es l→(∀ x ∈ l,IsKey d' x.key) →
    match r with
    | none=>Instr.findNow d' vk l i = some none∧∀ x ∈ l,x.key ≠ vk
    | some (j,v)=>∃ m x,j = i + m∧l[m]? = some x∧x.key = vk∧V g v x.val∧Instr.findNow d' vk l i = some (some (j,x.val))∧∃ e,es[m]? = some e∧e.2 = v∧V g e.1 vk
  | [],l,i,r,h,hm,hl=>by
    simp only [findE] at h; cases h
    have hm:l = []:=hm
    subst hm
    exact ⟨rfl,fun x h=>by cases h⟩
  | (a,v) :: es,l,i,r,h,hm,hl=>by
    obtain ⟨x,l',rfl,h1,h2,h3⟩:=hm
    simp only at h1 h2
    obtain ⟨b,hb1,hb2⟩:=sameNow_of_keys hik (hl x List.mem_cons_self)
    simp only [findE] at h
    split at h
    · rename_i hs
      cases h
      have e:x.key = vk:=(sameK_ok hs h1 hk).1 rfl
      have eb:b = true:=hb2.2 e.symm
      subst eb
      exact ⟨0,x,rfl,rfl,e,h2,by simp [Instr.findNow,hb1],_,rfl,rfl,e ▸ h1⟩
    · rename_i hs
      have ne:x.key ≠ vk:=fun e=>by have:=(sameK_ok hs h1 hk).2 e; cases this
      have eb:b = false:=by cases b with | false=>rfl | true=>exact (ne (hb2.1 rfl).symm).elim
      subst eb
      have:=findE_ok hk hik h h3 (fun y hy=>hl y (List.mem_cons_of_mem _ hy))
      cases r with
      | none=>exact ⟨by simp [Instr.findNow,hb1,this.1],fun y hy=>by
          rcases List.mem_cons.1 hy with rfl | hy
          · exact ne
          · exact this.2 y hy⟩
      | some p=>
        obtain ⟨j,v'⟩:=p
        obtain ⟨m,y,e1,e2,e3,e4,e5,e6,e7,e8⟩:=this
        exact ⟨m + 1,y,by omega,by simpa using e2,e3,e4,by simp [Instr.findNow,hb1,e5],e6,by simpa using e7,e8⟩
    · cases h
theorem ml_keys {g:Gh} {tb:List TI} {d:TD} {d':TypeDesc} (h2:ofDesc d' = d):∀ {es:List (AV × AV)} {l:List MapEntry},ML g es l→es.all (fun e=>keyOk d e.1) = true→∀ x ∈ l,IsKey d' x.key
  | [],l,hm,_,x,hx=>by
    have hm:l = []:=hm
    subst hm; cases hx
  | e :: es,l,hm,ha,x,hx=>by
    obtain ⟨y,l',rfl,h1,_,h3⟩:=hm
    simp only [List.all_cons,Bool.and_eq_true] at ha
    rcases List.mem_cons.1 hx with rfl | hx
    · exact keyOk_is2 (tb:=tb) ha.1 h2 h1
    · exact ml_keys (tb:=tb) h2 h3 ha.2 x hx
theorem run_zeroOf {P:Program} {tb:List TI} (hP:TbOk P tb) {t:TypeId} {z:AV} (h:zeroOf tb t = some z) (hn:noUndef z = true) (g:Gh) (w:World):∃ v,(zeroValue t).run P w = .ok v w∧V g z v:=by
  unfold zeroOf at h
  split at h
  case h_2=>cases h
  rename_i ti hti
  have hf:=hP.facts hti
  obtain ⟨i,d,h1,h2,h3,_,_,h5,_⟩:=hf.ex
  split at h
  · cases h
  rename_i hemp
  cases hz:i.zero with
  | none=>rw [h5,hz] at hemp; exact (hemp rfl).elim
  | some zv=>
    have hs:=hf.zero i h1 zv hz
    have hl:VL g ti.zero zv.cells.toList:=by rw [h5]; exact VL_zero g hz
    refine ⟨zv,run_zero h1 hz w,?_⟩
    split at h
    · rename_i ha
      cases h
      rw [if_pos ha] at hs
      obtain ⟨cs,rfl⟩:=hs
      exact ⟨cs,rfl,hl⟩
    · rename_i ha
      rw [if_neg ha] at hs
      split at h
      · rename_i z' hz'
        cases h
        rw [hz',hs] at hl
        obtain ⟨v,vs,e1,e2,_⟩:=hl
        simp at e1
        rw [e1.1]; exact e2
      · cases h
theorem ents_ok {g:Gh} {H:Heap} {w:World} (hw:WC g H w) {G:Heap} {m:AV} {es:List (AV × AV)} {rd:List Oid} (h:evEnts G m = some (es,rd)) {r:OpR} (hr:r.rd = rd) (hag:Agree r G H) {vm:Value} (hm:V g m vm) :
    (vm = .map none∧es = []) ∨ ∃ c l k,vm = .map (some c)∧w.heap[c]? = some (.map l k)∧ML g es l.toList:=by
  unfold evEnts at h
  split at h
  · cases h; simp only [V] at hm; exact .inl ⟨hm,rfl⟩
  · rename_i ks vs
    cases h
    simp only [V] at hm
    rcases hm with ⟨rfl,rfl,rfl⟩ | ⟨c,rfl,hc⟩
    · exact .inl ⟨rfl,rfl⟩
    · rcases hw.pin _ _ _ hc with ⟨h0,_⟩ | ⟨ks',vs',l,k,h1,_,_,h4,h5,_⟩
      · cases h0
      · simp only [mapMark,AV.tuple.injEq,List.cons.injEq,AV.agg.injEq,and_true] at h1
        obtain ⟨rfl,rfl⟩:=h1
        exact .inr ⟨c,l,k,rfl,h4,h5⟩
  · rename_i b
    split at h
    · rename_i f cs hb
      obtain ⟨es',he,h⟩:=Option.map_eq_some_iff.1 h
      cases h
      simp only [V] at hm
      obtain ⟨c,hc,rfl⟩:=hm
      have hb':find H b = some (.cells f cs):=by rw [← hag b ⟨b,by rw [hr]; simp,rfl⟩]; exact hb
      obtain ⟨c',k1,kb,k4⟩:=hw.objs b _ hb'
      rw [hc] at k1; cases k1
      obtain ⟨l,k,h1,h2⟩:=kb.ents he
      exact .inr ⟨c,l,k,rfl,h1,h2⟩
    · cases h
  · cases h
theorem good_lookup {P:Program} {tb:List TI} (hP:TbOk P tb) {g:Gh} {G H:Heap} {a:Act} {w:World} {F:Oid→Prop} {o:Oper} (hw:WC g H w) {t:TypeId} {m key:AV} {ok:Bool} {r:OpR}
    (h:evLookup tb G t m key ok = some r) (hag:Agree r G H) {vm vk:Value} (hm:V g m vm) (hk:V g key vk) (hex:execOp a.eval o = vOf (Instr.lookup t vm vk ok)):OpGood P g H a w F o r:=by
  unfold evLookup at h
  split at h
  case h_2=>cases h
  rename_i kt et es rd hd he
  split at h
  case h_2=>cases h
  rename_i d z hkt hz
  split at h
  case isFalse=>cases h
  rename_i hkey
  obtain ⟨_,_,_,d1,a1,a2⟩:=descOf_some hP hd
  cases ofDesc_map a2
  obtain ⟨d2,b1,b2⟩:=keyOk_is hP hkt hkey
  obtain ⟨_,_,e3,d3,b3,b4⟩:=descOf_some hP hkt
  rw [b1] at b3; cases b3
  have hik:=b2 g vk hk
  have fin:∀ (l:List MapEntry) (q:Option (Nat × AV)),findE key es 0 = some q→noUndef z = true→es.all (fun e=>keyOk d e.1) = true→ML g es l →
      (∀ (a:Option (Nat × Value)),Instr.findNow d2 vk l 0 = some a→∀ v,(match a with | some p=>p.2 = v | none=>(zeroValue et).run P w = .ok v w)→(Instr.lookup t vm vk ok).run P w = .ok (if ok then .tuple #[v,.bool a.isSome] else v) w) →
      r = { v:=if ok then .tuple [(match q with | some p=>p.2 | none=>z),.bool q.isSome] else (match q with | some p=>p.2 | none=>z),rd }→OpGood P g H a w F o r:=by
    intro l q hq hzu hall hml hrun hr
    subst hr
    have hf:=findE_ok hk hik hq hml (ml_keys (tb:=tb) b4 hml hall)
    cases q with
    | none=>
      obtain ⟨v,z1,z2⟩:=run_zeroOf hP hz hzu g w
      refine OpGood.pure hw (v:=if ok then .tuple #[v,.bool false] else v) (by
        rw [hex]
        exact run_v (hrun none hf.1 v z1)) ?_
      cases ok
      · exact z2
      · exact ⟨_,rfl,_,_,rfl,z2,_,_,rfl,rfl,rfl⟩
    | some p=>
      obtain ⟨j,v⟩:=p
      obtain ⟨m',x,f1,f2,f3,f4,f5,_⟩:=hf
      refine OpGood.pure hw (v:=if ok then .tuple #[x.val,.bool true] else x.val) (by
        rw [hex]
        exact run_v (hrun _ f5 _ rfl)) ?_
      cases ok
      · exact f4
      · exact ⟨_,rfl,_,_,rfl,f4,_,_,rfl,rfl,rfl⟩
  have main:∀ q,findE key es 0 = some q→noUndef z = true→es.all (fun e=>keyOk d e.1) = true→r = { v:=if ok then .tuple [(match q with | some p=>p.2 | none=>z),.bool q.isSome] else (match q with | some p=>p.2 | none=>z),rd }→OpGood P g H a w F o r:=by
    intro q hq hzu hall hr
    rcases ents_ok hw he (r:=r) (by rw [hr]) hag hm with ⟨rfl,rfl⟩ | ⟨c,l,k,rfl,h1,h2⟩
    · refine fin [] q hq hzu hall rfl (fun a ha v hv=>?_) hr
      unfold Instr.lookup
      have e:(#[]:Array MapEntry).toList = []:=rfl
      cases a with
      | none=>cases ok <;> simp [run_under a1,Result.andThen_ok,run_checkKey b1 hik,run_findKey b1 ha,e,hv]
      | some p=>simp [Instr.findNow] at ha
    · refine fin l.toList q hq hzu hall h2 (fun a ha v hv=>?_) hr
      unfold Instr.lookup
      cases a with
      | none=>cases ok <;> simp [run_under a1,Result.andThen_ok,MapKept.run_getObj_map h1,run_checkKey b1 hik,run_findKey b1 ha,hv]
      | some p=>
        obtain ⟨j,u⟩:=p
        have hv:u = v:=hv
        subst hv
        cases ok <;> simp [run_under a1,Result.andThen_ok,MapKept.run_getObj_map h1,run_checkKey b1 hik,run_findKey b1 ha]
  split at h
  · rename_i i v hq
    split at h
    · rename_i hc
      cases h
      simp only [Bool.and_eq_true] at hc
      exact main _ hq hc.1 hc.2 rfl
    · cases h
  · rename_i hq
    split at h
    · rename_i hc
      cases h
      simp only [Bool.and_eq_true] at hc
      exact main _ hq hc.1 hc.2 rfl
    · cases h
  · cases h
theorem ml_set {g:Gh} {k v:AV} {vk vv:Value}:∀ {es:List (AV × AV)} {l:List MapEntry} {j:Nat},ML g es l→(∃ e,es[j]? = some e∧e.1 = k)→V g k vk→V g v vv→ML g (es.set j (k,v)) (l.modify j fun e=>{ e with key:=vk,val:=vv })
  | [],l,j,hm,h,_,_=>by obtain ⟨e,h,_⟩:=h; simp at h
  | e :: es,l,j,hm,h,hk,hv=>by
    obtain ⟨x,l',rfl,h1,h2,h3⟩:=hm
    cases j with
    | zero=>exact ⟨_,l',rfl,hk,hv,h3⟩
    | succ j=>exact ⟨x,_,rfl,h1,h2,ml_set h3 (by simpa using h) hk hv⟩
theorem ml_push {g:Gh} {k v:AV} {x:MapEntry}:∀ {es:List (AV × AV)} {l:List MapEntry},ML g es l→V g k x.key→V g v x.val→ML g (es ++ [(k,v)]) (l ++ [x])
  | [],l,hm,hk,hv=>by
    have hm:l = []:=hm
    subst hm
    exact ⟨x,[],rfl,hk,hv,rfl⟩
  | e :: es,l,hm,hk,hv=>by
    obtain ⟨y,l',rfl,h1,h2,h3⟩:=hm
    exact ⟨y,_,rfl,h1,h2,ml_push h3 hk hv⟩
theorem zip_set:∀ {ks vs:List AV} {j:Nat} {e:AV × AV} {v:AV},(ks.zip vs)[j]? = some e→(ks.zip vs).set j (e.1,v) = ks.zip (vs.set j v)
  | [],vs,j,e,v,h=>by simp at h
  | k :: ks,[],j,e,v,h=>by simp at h
  | k :: ks,x :: vs,j,e,v,h=>by
    cases j with
    | zero=>simp at h; subst h; rfl
    | succ j=>simp only [List.zip_cons_cons,List.set_cons_succ]; rw [zip_set (by simpa using h)]
theorem zip_push:∀ {ks vs:List AV} {k v:AV},ks.length = vs.length→(ks ++ [k]).zip (vs ++ [v]) = ks.zip vs ++ [(k,v)]
  | [],[],k,v,_=>rfl
  | [],_ :: _,_,_,h=>by simp at h
  | _ :: _,[],_,_,h=>by simp at h
  | a :: ks,b :: vs,k,v,h=>by simp only [List.cons_append,List.zip_cons_cons]; rw [zip_push (by simpa using h)]
theorem setRange_mid0:∀ (y x a b:List AV),x.length = y.length→setRange (a ++ (x ++ b)) a.length y = a ++ (y ++ b)
  | [],[],a,b,_=>rfl
  | [],_ :: _,_,_,h=>by simp at h
  | _ :: _,[],_,_,h=>by simp at h
  | y :: ys,x :: xs,a,b,h=>by
    simp only [setRange]
    have e1:(a ++ (x :: xs ++ b)).set a.length y = (a ++ [y]) ++ (xs ++ b):=by simp
    rw [e1,show a.length + 1 = (a ++ [y]).length by simp,setRange_mid0 ys xs (a ++ [y]) b (by simpa using h)]
    simp
theorem esOf_set {kd:IntKind} {n:Nat} {us:List AV} (hn:us.length = n):∀ {ks:List Int} {cs:List AV} {j:Nat} {e:AV × AV},cs.length = ks.length * n→(esOf kd n ks cs)[j]? = some e→(esOf kd n ks cs).set j (e.1,.agg us) = esOf kd n ks (setRange cs (j * n) us)∧(setRange cs (j * n) us).length = cs.length
  | [],cs,j,e,hl,h=>by simp [esOf] at h
  | k :: ks,cs,j,e,hl,h=>by
    have hl2:cs.length = ks.length * n + n:=by rw [hl,List.length_cons,Nat.succ_mul]
    have hc:cs = cs.take n ++ cs.drop n:=(List.take_append_drop n cs).symm
    have ht:(cs.take n).length = n:=by rw [List.length_take]; omega
    cases j with
    | zero=>
      simp only [esOf,List.getElem?_cons_zero,Option.some.injEq] at h
      subst h
      have hs:setRange cs (0 * n) us = us ++ cs.drop n:=by
        have:=setRange_mid0 us (cs.take n) [] (cs.drop n) (by rw [ht,hn])
        simpa using this
      refine ⟨?_,by rw [hs,List.length_append,List.length_drop]; omega⟩
      simp only [esOf,List.set_cons_zero,hs]
      rw [← hn,List.take_left' rfl,List.drop_left' rfl]
    | succ j=>
      simp only [esOf,List.getElem?_cons_succ] at h
      have hd:(cs.drop n).length = ks.length * n:=by rw [List.length_drop]; omega
      obtain ⟨q1,q2⟩:=esOf_set hn hd h
      have hs:setRange cs ((j + 1) * n) us = cs.take n ++ setRange (cs.drop n) (j * n) us:=by
        have:∀ (us:List AV) (a b:List AV) (off:Nat),setRange (a ++ b) (a.length + off) us = a ++ setRange b off us:=by
          intro us
          induction us with
          | nil=>intro a b off; rfl
          | cons u us ih=>
            intro a b off
            simp only [setRange]
            rw [List.set_append_right _ _ (by omega),Nat.add_sub_cancel_left,show a.length + off + 1 = a.length + (off + 1) by omega,ih]
        have:=this us (cs.take n) (cs.drop n) (j * n)
        rw [ht,← hc] at this
        rw [Nat.succ_mul,Nat.add_comm]; exact this
      refine ⟨?_,by rw [hs,List.length_append,q2,← List.length_append,← hc]⟩
      simp only [esOf,List.set_cons_succ,q1,hs]
      rw [List.take_left' ht,List.drop_left' ht]
theorem esOf_push {kd:IntKind} {n:Nat} {k:Int} {us:List AV} (hn:us.length = n):∀ {ks:List Int} {cs:List AV},cs.length = ks.length * n→esOf kd n (ks ++ [k]) (cs ++ us) = esOf kd n ks cs ++ [(.int kd k,.agg us)]
  | [],cs,hl=>by
    have:cs = []:=List.eq_nil_of_length_eq_zero (by simpa using hl)
    subst this
    simp only [List.nil_append,esOf]
    rw [List.take_of_length_le (by omega)]
  | a :: ks,cs,hl=>by
    have hl2:cs.length = ks.length * n + n:=by rw [hl,List.length_cons,Nat.succ_mul]
    simp only [List.cons_append,esOf]
    rw [List.take_append_of_le_length (by omega),List.drop_append_of_le_length (by omega),esOf_push hn (by rw [List.length_drop]; omega)]
theorem refsL_app:∀ a b:List AV,refsL (a ++ b) = refsL a ++ refsL b
  | [],b=>rfl
  | x :: a,b=>by simp only [List.cons_append,refsL,refsL_app a b,List.append_assoc]
theorem toksL_app:∀ a b:List AV,toksL (a ++ b) = toksL a ++ toksL b
  | [],b=>rfl
  | x :: a,b=>by simp only [List.cons_append,toksL,toksL_app a b,List.append_assoc]
theorem refsL_nil {l:List AV}:refsL l = [] ↔ ∀ a ∈ l,refs a = []:=by
  constructor
  · intro h a ha
    refine List.eq_nil_iff_forall_not_mem.2 fun b hb=>?_
    have:=refsL_mem ha hb
    rw [h] at this; cases this
  · intro h
    refine List.eq_nil_iff_forall_not_mem.2 fun b hb=>?_
    obtain ⟨a,h1,h2⟩:=refsL_of hb
    rw [h a h1] at h2; cases h2
theorem toksL_nil {l:List AV}:toksL l = [] ↔ ∀ a ∈ l,toks a = []:=by
  constructor
  · intro h a ha
    refine List.eq_nil_iff_forall_not_mem.2 fun b hb=>?_
    have:=toksL_mem ha hb
    rw [h] at this; cases this
  · intro h
    refine List.eq_nil_iff_forall_not_mem.2 fun b hb=>?_
    obtain ⟨a,h1,h2⟩:=toksL_of hb
    rw [h a h1] at h2; cases h2
theorem keyOk_refs {d:TD} {key:AV} (h:keyOk d key = true):refs key = []∧toks key = []:=by
  unfold keyOk at h
  split at h <;> first | exact ⟨rfl,rfl⟩ | cases h
def SetTo (g:Gh) (es:List (AV × AV)) (vk vv:Value) (l l':Array MapEntry):Option Nat→Prop
  | some j=>(∃ e,es[j]? = some e∧V g e.1 vk)∧l'.toList = l.toList.modify j fun e=>{ e with key:=vk,val:=vv }
  | none=>∃ b,l'.toList = l.toList ++ [⟨vk,vv,b⟩]
theorem evSet_mk {kd:IntKind} {ks:List Int} {n:Nat} {cs:List AV} {key v:AV} {q:Option Nat} {p:Fl × List AV} (h:evSet (.mk kd ks n) cs key v q = some p) :
    ∃ k us,key = .int kd k∧v = .agg us∧us.length = n∧p = setMk kd ks n cs k us q:=by
  cases key with
  | int kd' k=>cases v with
    | agg us=>
      have h:(if kd' = kd∧us.length = n then some (setMk kd ks n cs k us q) else none) = some p:=h
      split at h
      · rename_i hc
        cases h
        obtain ⟨rfl,hn⟩:=hc
        exact ⟨_,_,rfl,rfl,hn,rfl⟩
      · cases h
    | _=>have h:(none:Option (Fl × List AV)) = some p:=h; cases h
  | _=>have h:(none:Option (Fl × List AV)) = some p:=h; cases h
theorem body_set {g:Gh} {w w':World} {c:Nat} {f:Fl} {cs:List AV} (hb:Body g w c f cs) {es:List (AV × AV)} (he:entsOf f cs = some es) {d:TD} {key v:AV} (hkey:keyOk d key = true) {q:Option Nat} {p:Fl × List AV} (hs:evSet f cs key v q = some p)
    (hr:p.1 = .mw→refs v = []) {vk vv:Value} (hk:V g key vk) (hv:V g v vv) {l l':Array MapEntry} {k k':Nat} (hml:ML g es l.toList) (hw':w'.heap[c]? = some (.map l' k'))
    (hq:SetTo g es vk vv l l' q):Body g w' c p.1 p.2:=by
  unfold entsOf at he
  split at he
  · rename_i ks vs
    split at he
    case isFalse=>cases he
    rename_i hlen
    cases he
    obtain ⟨l0,k0,ks0,vs0,a,h1,h2,⟨n1,n2,n3,n4⟩,h4,h5,h6⟩:=hb
    cases h5
    rcases h6 with h6 | h6
    · cases h6
    cases h6
    simp only [evSet] at hs
    cases q with
    | some j=>
      cases hs
      have hv':=V.clean v vv hv
      obtain ⟨⟨e,he,hke⟩,hl'⟩:=hq
      refine ⟨l',k',ks,vs.set j (clean v),_,hw',by simpa using hlen,⟨n1,?_,n3,?_⟩,?_,rfl,.inr rfl⟩
      · refine refsL_nil.2 fun a ha=>?_
        rcases List.mem_or_eq_of_mem_set ha with ha | rfl
        · exact refsL_nil.1 n2 a ha
        · rw [refs_clean]; exact hr rfl
      · refine toksL_nil.2 fun a ha=>?_
        rcases List.mem_or_eq_of_mem_set ha with ha | rfl
        · exact toksL_nil.1 n4 a ha
        · exact toks_clean v
      · rw [hl',← zip_set he]
        exact ml_set hml ⟨e,he,rfl⟩ hke hv'
    | none=>
      cases hs
      obtain ⟨b,hl'⟩:=hq
      obtain ⟨r1,r2⟩:=keyOk_refs hkey
      refine ⟨l',k',ks ++ [key],vs ++ [clean v],_,hw',by simp [hlen],⟨?_,?_,?_,?_⟩,?_,rfl,.inr rfl⟩
      · rw [refsL_app,n1]; simp [refsL,r1]
      · rw [refsL_app,n2]; simp [refsL,refs_clean,hr rfl]
      · rw [toksL_app,n3]; simp [toksL,r2]
      · rw [toksL_app,n4]; simp [toksL,toks_clean]
      · rw [hl',zip_push hlen]
        exact ml_push hml hk (V.clean v vv hv)
  · rename_i cs0 kd ks n
    split at he
    case isFalse=>cases he
    rename_i hlen
    cases he
    obtain ⟨k0,us,rfl,rfl,hn,rfl⟩:=evSet_mk hs
    cases q with
    | some j=>
      obtain ⟨⟨e,he,hke⟩,hl'⟩:=hq
      obtain ⟨q1,q2⟩:=esOf_set hn hlen he
      refine ⟨l',k',hw',q2.trans hlen,?_⟩
      show ML g (esOf kd n ks (setRange cs (j * n) us)) _
      rw [hl',← q1]
      exact ml_set hml ⟨e,he,rfl⟩ hke hv
    | none=>
      obtain ⟨b,hl'⟩:=hq
      refine ⟨l',k',hw',by show (cs ++ us).length = _; rw [List.length_append,hlen,hn,List.length_append,Nat.add_mul]; simp,?_⟩
      show ML g (esOf kd n (ks ++ [k0]) (cs ++ us)) _
      rw [hl',esOf_push hn hlen]
      exact ml_push hml hk hv
  · cases he
theorem good_mapSet {P:Program} {tb:List TI} (hP:TbOk P tb) {g:Gh} {G H:Heap} {a:Act} {w:World} {F:Oid→Prop} {o:Oper} (hw:WC g H w) {t:TypeId} {m key x:AV} {r:OpR}
    (h:evMapSet tb G t m key x = some r) (hag:Agree r G H) {vm vk vx:Value} (hm:V g m vm) (hk:V g key vk) (hx:V g x vx) (hex:execOp a.eval o = (do Instr.mapUpdate t vm vk vx; Pure.pure Next.skip:Sem Next)):OpGood P g H a w F o r:=by
  unfold evMapSet at h
  split at h
  case h_2=>cases h
  rename_i kt et b hd
  split at h
  case h_2=>cases h
  rename_i d f cs hkt hbG
  split at h
  case h_2=>cases h
  rename_i es he
  split at h
  case h_2=>cases h
  rename_i q hq
  split at h
  case h_2=>cases h
  rename_i p hp
  split at h
  case isFalse=>cases h
  rename_i hc
  cases h
  simp only [Bool.and_eq_true,Bool.or_eq_true,bne_iff_ne,ne_eq,beq_iff_eq,List.isEmpty_iff] at hc
  obtain ⟨⟨⟨hkey,hall⟩,hrf⟩,hroot⟩:=hc
  obtain ⟨_,_,_,d1,a1,a2⟩:=descOf_some hP hd
  cases ofDesc_map a2
  obtain ⟨d2,b1,b2⟩:=keyOk_is hP hkt hkey
  obtain ⟨_,_,e3,d3,b3,b4⟩:=descOf_some hP hkt
  rw [b1] at b3; cases b3
  have hik:=b2 g vk hk
  have hb:find H b = some (.cells f cs):=by rw [← hag b ⟨b,by simp,rfl⟩]; exact hbG
  obtain ⟨c,hc,rfl⟩:=hm
  obtain ⟨c',k1,kb,k4⟩:=hw.objs b _ hb
  rw [hc] at k1; cases k1
  obtain ⟨l,k,h1,h2⟩:=kb.ents he
  have hf:=findE_ok hk hik hq h2 (ml_keys (tb:=tb) b4 h2 hall)
  have hfro:f ≠ .ro:=by rintro rfl; simp [entsOf] at he
  have fin:∀ (l':Array MapEntry) (k':Nat),(Instr.mapUpdate t (.map (some c)) vk vx).run P w = .ok () { w with heap:=w.heap.setIfInBounds c (.map l' k') } →
      SetTo g es vk vx l l' (q.map (·.1))→OpGood P g H a w F o { v:=.tuple [],ws:=[(b,.cells p.1 p.2)],rd:=[b] }:=by
    intro l' k' hrun hq'
    obtain ⟨s1,s2⟩:=heap_set (o':=.map l' k') h1
    obtain ⟨n1,n2⟩:=hw.put (w':={ w with heap:=w.heap.setIfInBounds c (.map l' k') }) hb hfro hc k4 (fun c' hn=>s2 c' hn) (by simp) rfl rfl rfl (body_set (w':={ w with heap:=w.heap.setIfInBounds c (.map l' k') }) kb he hkey hp (fun e=>hrf.resolve_left fun hn=>hn e) hk hx h2 s1 hq' (k:=k))
    refine OpGood.skip (w':=_) (g':=g) ?_ ⟨?_,n1,Keep.refl _ _,n2⟩
    · rw [hex,run_bind2,hrun]; rfl
    · exact ⟨#[],rfl,rfl⟩
  cases q with
  | none=>
    refine fin (l.push { key:=vk,val:=vx,born:=k }) (k + 1) ?_ ⟨k,by simp⟩
    unfold Instr.mapUpdate
    simp [run_under a1,Result.andThen_ok,MapKept.run_getObj_map h1,run_checkKey b1 hik,run_findKey b1 hf.1,run_setObj_map _ h1]
  | some jv=>
    obtain ⟨j,v⟩:=jv
    obtain ⟨m',y,f1,f2,f3,f4,f5,e,f6,f7,f8⟩:=hf
    have hj:j = m':=by omega
    subst hj
    have hl:l[j]? = some y:=by rw [← Array.getElem?_toList]; exact f2
    refine fin (l.modify j fun e=>{ e with key:=vk,val:=vx }) k ?_ ⟨⟨e,f6,f8⟩,by simp⟩
    unfold Instr.mapUpdate
    simp [run_under a1,Result.andThen_ok,MapKept.run_getObj_map h1,run_checkKey b1 hik,run_findKey b1 f5,hl,f3,run_keyThatStays hik,run_setObj_map _ h1]
end Go.Proofs.YtjojaiomgdjhfaaGreatDoor.AE
namespace Go.Proofs.YtjojaiomgdjhfaaGreatDoor.AE
open Go
def Fr (r:OpR) (o:Oper) (b:Oid):Prop:=r.fresh = true∧∃ d,o.dst = some d∧rooted d b = true
theorem OpGood.wider {P:Program} {g:Gh} {H:Heap} {a:Act} {w:World} {F F':Oid→Prop} {o:Oper} {r:OpR} (h:OpGood P g H a w F o r) (hF:∀ b,F b→F' b):OpGood P g H a w F' o r :=
  fun next Q hn=>h next Q fun v w' g' st=>hn v w' g' ⟨st.val,st.wc,st.keep.wider hF,st.ctx⟩
theorem good_v {P:Program} {g:Gh} {H:Heap} {a:Act} {w:World} {F:Oid→Prop} {o:Oper} {x:Option AV} {r:OpR} {s:Sem Value} (hw:WC g H w) (h:x.map (fun v=>({ v }:OpR)) = some r)
    (hs:∀ av,x = some av→∃ u,s.run P w = .ok u w∧V g av u) (hex:execOp a.eval o = vOf s):OpGood P g H a w F o r:=by
  cases x with
  | none=>cases h
  | some av=>
    cases h
    obtain ⟨u,h1,h2⟩:=hs av rfl
    exact OpGood.pure hw (by rw [hex]; exact run_v h1) h2
theorem VL_map {g:Gh} {ρ:Operand→AV} {e:Operand→Value} (h:∀ x,V g (ρ x) (e x)):∀ l:List Operand,VL g (l.map ρ) (l.map e)
  | []=>rfl
  | x :: r=>⟨_,_,rfl,h x,VL_map h r⟩
theorem PV_map {g:Gh} {ρ:Operand→AV} {e:Operand→Value} (h:∀ x,V g (ρ x) (e x)):∀ l:List (Nat × Operand),PV g (l.map fun p=>(p.1,ρ p.2)) (l.map fun p=>(p.1,e p.2))
  | []=>.nil
  | (i,x) :: r=>.cons (h x) (PV_map h r)
theorem OptV_map {g:Gh} {ρ:Operand→AV} {e:Operand→Value} (h:∀ x,V g (ρ x) (e x)):∀ o:Option Operand,OptV g (o.map ρ) (o.map e)
  | none=>.none
  | some x=>.some (h x)
theorem run_mm2 {P:Program} {g:Gh} {w:World} {isMax:Bool} {x y r:AV} (h:mm2 isMax x y = some r) {vx vy:Value} (hx:V g x vx) (hy:V g y vy) :
    ∃ u,((if isMax then Builtin.max2 vx vy else Builtin.min2 vx vy).run P w = .ok u w)∧V g r u:=by
  unfold mm2 at h
  split at h
  · split at h
    · rename_i hk
      cases h; simp only [V] at hx hy; subst hx hy
      cases isMax <;> exact ⟨_,rfl,rfl⟩
    · cases h
  · cases h
theorem run_mmFrom {P:Program} {g:Gh} {w:World} (isMax:Bool):∀ {l:List AV} {x r:AV} (h:minMaxFrom isMax x l = some r) {vx:Value} {vl:List Value},V g x vx→VL g l vl →
    ∃ u,(vl.foldlM (fun a b=>if isMax then Builtin.max2 a b else Builtin.min2 a b) vx).run P w = .ok u w∧V g r u
  | [],x,r,h,vx,vl,hx,hl=>by
    simp [VL] at hl; subst hl
    simp only [minMaxFrom] at h; cases h
    exact ⟨vx,rfl,hx⟩
  | y :: l,x,r,h,vx,vl,hx,hl=>by
    obtain ⟨vy,vl,rfl,hy,hl⟩:=hl
    simp only [minMaxFrom] at h
    split at h
    · rename_i z hz
      obtain ⟨u,h1,h2⟩:=run_mm2 (P:=P) (w:=w) hz hx hy
      obtain ⟨u',k1,k2⟩:=run_mmFrom isMax h h2 hl
      refine ⟨u',?_,k2⟩
      rw [List.foldlM_cons,run_bind2,h1]
      exact k1
    · cases h
theorem callFunc_enter {P:Program} {f:FuncId} {fn:Func} (hf:P.funcs[f]? = some fn) (hn:fn.name ≠ "runtime.NumGoroutine") (hb:fn.body.isSome = true) (args:Array Value) (w:World) :
    (callFunc f args).run P w = .ok (.enter f args) w:=by
  unfold callFunc
  rw [run_bind2]
  show (match P.funcs[f]? with | none=>stuck "call: no such function" | some fn=>_).run P w = _
  rw [hf]
  simp only
  rw [if_neg (by simpa using hn),if_neg (by cases hq:fn.body <;> simp_all)]
  rfl
def Enters (P:Program) (call:CallF):Prop:=∀ f args H x,call f args H = some x→∃ fn,P.funcs[f]? = some fn∧fn.name ≠ "runtime.NumGoroutine"∧fn.body.isSome = true
theorem evCall_called {ro:FuncId→Bool} {kt:Bool} {call:CallF} {dst:Option Nat} {H:Heap} {f:FuncId} {args:List AV} {r:OpR} (h:evCall ro kt call dst H f args = some r):∃ args' H' x,call f args' H' = some x:=by
  unfold evCall at h
  split at h
  · cases h
  split at h
  · cases h
  split at h
  · split at h
    · split at h
      · rename_i hc
        split at h
        · cases h; exact ⟨_,_,_,hc⟩
        · cases h
      · cases h
    · split at h
      · rename_i hc
        split at h
        · cases h; exact ⟨_,_,_,hc⟩
        · cases h
      · cases h
  · cases h
theorem adoptAt_some {cfg:Cfg} {fid:FuncId} {dst:Option Nat} {d:Nat} (h:adoptAt cfg fid dst = some d):dst = some d:=by
  unfold adoptAt at h
  split at h
  · split at h
    · cases h; rfl
    · cases h
  · cases h
theorem evOp_good {P:Program} {tb:List TI} {cfg:Cfg} {gl:List (Nat × List AV)} {call:CallF} (hP:TbOk P tb) (hcall:CallOk P gl call) (hent:Enters P call) {g:Gh} (hgl:Glob gl g) {G H:Heap} {a:Act} {w:World} (hw:WC g H w) {fid:FuncId} {ρ:Operand→AV}
    (hρ:∀ x,V g (ρ x) (a.eval x)) {o:Oper} {r:OpR} (h:evOp tb cfg call fid ρ G o = some r) (hag:Agree r G H) (hfr:r.fresh = true→∃ d,o.dst = some d∧ClearH d H):OpGood P g H a w (Fr r o) o r:=by
  unfold evOp at h
  simp only at h
  split at h
  · -- move
    rename_i x hop
    cases h
    refine OpGood.pure hw (v:=a.eval x) ?_ (hρ x)
    simp only [execOp,hop]; rfl
  · -- assign
    rename_i x hop
    have hrun:(execOp a.eval o).run P w = .ok (.value (a.eval x)) w:=by simp only [execOp,hop]; rfl
    split at h
    · rename_i d hd
      split at h
      · split at h
        · rename_i e hx hde
          split at h
          · rename_i s hs
            cases h
            obtain ⟨d',hd',hcl⟩:=hfr rfl
            rw [hd] at hd'; cases hd'
            have hv:=hρ x
            rw [hx] at hv
            obtain ⟨k1,k2⟩:=hw.moved (F:=Fr { v:=.slice (.buf (.loc d)) s [],ws:=[(.loc d,.buf s 0)],fresh:=true } o) (.loc d) s 0 none
              (fun ob hob=>by rw [hcl.1 _ (rooted_loc d)] at hob; cases hob) (fun c cap hc=>by cases hc)
              (fun hk=>hk.wider fun b hb=>by subst hb; exact ⟨rfl,d,hd,rooted_loc d⟩)
              (fun x ob hx hf y hy hF=>by
                obtain ⟨_,d',h1,h2⟩:=hF
                rw [hd] at h1; cases h1
                rw [hcl.2 x ob hf y hy] at h2; cases h2)
            exact OpGood.value hrun ⟨.inl ⟨.inl hv,rfl⟩,k2,k1,(Ctx.refl w g H).moved (.loc d) s 0 none (fun c cap hc=>by cases hc)⟩
          · cases h
        · cases h; exact OpGood.pure hw hrun (hρ x)
      · cases h; exact OpGood.pure hw hrun (hρ x)
    · cases h
  · -- pick
    rename_i c x y hop
    split at h
    · rename_i t ht
      cases h
      have hc:=hρ c
      rw [ht] at hc
      simp only [V] at hc
      refine OpGood.pure hw (v:=if t then a.eval x else a.eval y) ?_ ?_
      · simp only [execOp,hop,hc]; cases t <;> rfl
      · cases t
        · exact hρ y
        · exact hρ x
    · cases h
  · -- alloc
    rename_i e hop
    split at h
    · rename_i ti d hti hd
      split at h
      · cases h
      rename_i hz
      obtain ⟨i,z,h1,h2,h3,h4⟩:=zero_some (hP.facts hti) (by simpa using hz)
      have hfresh:r.fresh = true:=by
        unfold evBox at h; simp only at h; split at h
        · cases h
        · cases h; rfl
      obtain ⟨d',hd',hcl⟩:=hfr hfresh
      rw [hd] at hd'; cases hd'
      refine (good_box hw hcl h (vs:=z.cells) (by rw [h4]; exact VL_ofCell g _) e ?_).wider fun b hb=>⟨hfresh,d,hd,hb⟩
      simp only [execOp,hop]
      refine run_v ?_
      unfold Instr.alloc
      rw [run_bind2,run_zero h1 h2]; rfl
    · cases h
  · -- box
    rename_i e x hop
    split at h
    · rename_i s d hs hd
      split at h
      · rename_i hcond
        have hfresh:r.fresh = true:=by
          unfold evBox at h; simp only at h; split at h
          · cases h
          · cases h; rfl
        obtain ⟨d',hd',hcl⟩:=hfr hfresh
        rw [hd] at hd'; cases hd'
        refine (good_box hw hcl h (vs:=(a.eval x).cells) ((hρ x).cells hcond.2) e ?_).wider fun b hb=>⟨hfresh,d,hd,hb⟩
        simp only [execOp,hop]; rfl
      · cases h
    · cases h
  · -- build
    rename_i t parts hop
    refine good_v hw h (s:=Instr.build t (parts.map fun (i,x)=>(i,a.eval x))) (fun av hav=>run_evBuild hP hav ?_) (by simp only [execOp,hop]; rfl)
    have:=PV_map hρ parts.toList
    simpa using this
  · -- buildSlice
    rename_i t len parts hop
    cases hb:evBuildSlice tb t len (parts.toList.map fun p=>(p.1,ρ p.2)) with
    | none=>rw [hb] at h; cases h
    | some av=>
      rw [hb] at h; cases h
      refine good_buildSlice hP hw hb (vparts:=parts.map fun (i,x)=>(i,a.eval x)) ?_ (by simp only [execOp,hop]; rfl)
      have:=PV_map hρ parts.toList
      simpa using this
  · -- load
    rename_i t x hop
    obtain ⟨⟨u,h1,h2⟩,h3,h4⟩:=run_evLoad hP hw h hag (hρ x)
    intro next Q hn
    refine (OpGood.value (P:=P) (g:=g) (H:=H) (a:=a) (w:=w) (F:=Fr r o) (o:=o) (r:=r) (w':=w) (v:=u) (g':=g) (by simp only [execOp,hop]; exact run_v h1) ⟨h2,by rw [h3]; exact hw,Keep.refl _ _,by rw [h3]; exact Ctx.refl _ _ _⟩) next Q hn
  · -- store
    rename_i t x y hop
    exact good_store hP hw h hag (hρ x) (hρ y) (by simp only [execOp,hop])
  · -- nilCheck
    rename_i x hop
    have hx:=hρ x
    split at h
    · rename_i b off hb
      cases h
      rw [hb] at hx
      obtain ⟨c,hc,hv⟩:=hx
      refine OpGood.pure hw (v:=.pointer (some ⟨c,off,none⟩)) ?_ ⟨c,hc,rfl⟩
      simp only [execOp,hop,hv]; rfl
    · rename_i cs hb
      cases h
      rw [hb] at hx
      obtain ⟨c,off,hv,hp⟩:=hx
      refine OpGood.pure hw (v:=.pointer (some ⟨c,off,none⟩)) ?_ ⟨c,off,rfl,hp⟩
      simp only [execOp,hop,hv]; rfl
    · rename_i f p q hb
      cases h
      rw [hb] at hx
      obtain ⟨y,z,hv,h1,h2⟩:=hx
      refine OpGood.pure hw (v:=.func (.func f) y z) ?_ ⟨y,z,rfl,h1,h2⟩
      simp only [execOp,hop,hv]; rfl
    · cases h
  · -- binOp
    rename_i op t x y u hop
    exact good_v hw h (fun av hav=>run_evBin hP hav (hρ x) (hρ y) x y) (by simp only [execOp,hop]; rfl)
  · -- unOp
    rename_i op t x hop
    exact good_v hw h (fun av hav=>run_evUn hav (hρ x)) (by simp only [execOp,hop]; rfl)
  · -- convert
    rename_i s d x hop
    unfold evConv2 at h
    split at h
    · rename_i p hb
      cases h
      obtain ⟨e,l⟩:=p
      exact good_bytes hP hw hb (hρ x) (by simp only [execOp,hop]; rfl)
    · exact good_v hw h (fun av hav=>run_evConv hP hav (hρ x)) (by simp only [execOp,hop]; rfl)
  · -- makeFunc
    rename_i f p q hop
    split at h
    · rename_i fi
      cases h
      refine OpGood.pure hw (v:=.func (.func fi) (p.map a.eval) (q.map a.eval)) ?_ ⟨_,_,rfl,by simpa using VL_map hρ p.toList,by simpa using VL_map hρ q.toList⟩
      simp only [execOp,hop]; rfl
    · cases h
  · -- slice
    rename_i t x lo hi mx hop
    exact good_v hw h (fun av hav=>run_evSlice hP hav (hρ x) (OptV_map hρ lo) (OptV_map hρ hi) (OptV_map hρ mx)) (by simp only [execOp,hop]; rfl)
  · -- fieldAddr
    rename_i s x f hop
    exact good_v hw h (fun av hav=>run_evFieldAddr hP hav (hρ x)) (by simp only [execOp,hop]; rfl)
  · -- field
    rename_i s x f hop
    exact good_v hw h (fun av hav=>run_evField hP hav (hρ x)) (by simp only [execOp,hop]; rfl)
  · -- indexAddr
    rename_i t x i hop
    exact good_v hw h (fun av hav=>run_evIndexAddr hP hav (hρ x) (hρ i)) (by simp only [execOp,hop]; rfl)
  · -- index
    rename_i t x i hop
    exact good_v hw h (fun av hav=>run_evIndex hP hav (hρ x) (hρ i)) (by simp only [execOp,hop]; rfl)
  · -- extract
    rename_i x i hop
    split at h
    · rename_i vs hx
      refine good_v hw h (s:=Instr.extract (a.eval x) i) (fun av hav=>?_) (by simp only [execOp,hop]; rfl)
      have hv:=hρ x
      rw [hx] at hv
      obtain ⟨y,hy,hl⟩:=hv
      obtain ⟨u,h1,h2⟩:=hl.get i av hav
      refine ⟨u,?_,h2⟩
      rw [hy]
      unfold Instr.extract
      rw [Array.getElem?_toList] at h1
      simp only [h1]; rfl
    · cases h
  · -- lookup
    rename_i t m k ok hop
    exact good_lookup hP hw h hag (hρ m) (hρ k) (by simp only [execOp,hop]; rfl)
  · -- mapUpdate
    rename_i t m k x hop
    exact good_mapSet hP hw h hag (hρ m) (hρ k) (hρ x) (by simp only [execOp,hop])
  · -- call
    rename_i c hop
    have hargs:=VL_map hρ c.args.toList
    split at h
    · rename_i gf hcal
      split at h
      · rename_i f first captured hgf
        have hv:=hρ gf
        rw [hgf] at hv
        obtain ⟨y,z,hy,hf1,hf2⟩:=hv
        obtain ⟨_,_,_,hcalled⟩:=evCall_called h
        obtain ⟨fn,e1,e2,e3⟩:=hent _ _ _ _ hcalled
        refine (good_call hcall hgl hw h (fun d hd=>adoptAt_some hd) hag hfr (vs:=(y ++ c.args.map a.eval) ++ z) ?_ ?_).wider fun b hb=>hb
        · have:=(hf1.append hargs).append hf2
          simpa using this
        · simp only [execOp,hop,resolve,hcal,run_bind2,hy,Deferred.ofValue,run_pure2,Result.andThen_ok,invoke]
          exact callFunc_enter e1 e2 e3 _ w
      · cases h
    · -- len
      rename_i hcal
      have hex:∀ v,(Builtin.len_ c.argTypes o.type (c.args.map a.eval)).run P w = .ok v w→(execOp a.eval o).run P w = .ok (.value v) w:=by
        intro v hv
        simp only [execOp,hop,resolve,hcal,run_bind2,run_pure2,Result.andThen_ok,invoke,builtin,hv]
      split at h
      · rename_i t tr x xr hat hax
        have ht0:c.argTypes[0]? = some t:=by rw [← Array.getElem?_toList,hat]; rfl
        have hx0:∃ v vr,c.args.toList.map a.eval = v :: vr∧V g x v:=by
          have:=hargs
          rw [hax] at this
          obtain ⟨v,vr,h1,h2,_⟩:=this
          exact ⟨v,vr,h1,h2⟩
        obtain ⟨v,vr,hv1,hv2⟩:=hx0
        have ha0:(c.args.map a.eval)[0]? = some v:=by rw [← Array.getElem?_toList,Array.toList_map,hv1]; rfl
        split at h
        · rename_i s hd
          cases h
          obtain ⟨_,_,_,d',h1,h2⟩:=descOf_some hP hd
          cases ofDesc_string h2
          simp only [V] at hv2; subst hv2
          refine OpGood.pure hw (hex _ ?_) rfl
          unfold Builtin.len_
          simp only [ht0,ha0,run_bind2,run_under h1,Result.andThen_ok,size_mk]; rfl
        · rename_i n e hd
          cases h
          obtain ⟨_,_,_,d',h1,h2⟩:=descOf_some hP hd
          cases ofDesc_array h2
          refine OpGood.pure hw (hex _ ?_) rfl
          unfold Builtin.len_
          simp only [ht0,ha0,run_bind2,run_under h1,Result.andThen_ok]
          cases v <;> rfl
        · rename_i e tok sz es hd
          cases h
          obtain ⟨_,_,_,d',h1,h2⟩:=descOf_some hP hd
          cases ofDesc_slice h2
          have:∃ b cap,v = .slice b es.length cap:=by
            rcases hv2 with ⟨hb,rfl⟩ | ⟨c,off,cap,rfl,_⟩
            · exact hb.slice
            · exact ⟨_,_,rfl⟩
          obtain ⟨b,cap,rfl⟩:=this
          refine OpGood.pure hw (hex _ ?_) rfl
          unfold Builtin.len_
          simp only [ht0,ha0,run_bind2,run_under h1,Result.andThen_ok]; rfl
        · rename_i e hd
          cases h
          obtain ⟨_,_,_,d',h1,h2⟩:=descOf_some hP hd
          cases ofDesc_slice h2
          simp only [V] at hv2; subst hv2
          refine OpGood.pure hw (hex _ ?_) rfl
          unfold Builtin.len_
          simp only [ht0,ha0,run_bind2,run_under h1,Result.andThen_ok]; rfl
        · rename_i e b sz off len cap hd
          cases h
          obtain ⟨_,_,_,d',h1,h2⟩:=descOf_some hP hd
          cases ofDesc_slice h2
          obtain ⟨c',_,rfl,_⟩:=hv2
          refine OpGood.pure hw (hex _ ?_) rfl
          unfold Builtin.len_
          simp only [ht0,ha0,run_bind2,run_under h1,Result.andThen_ok]; rfl
        · cases h
      · cases h
    · -- append
      rename_i hcal
      split at h
      · rename_i d t u tr s x xr hd hat hax
        have:=hargs
        rw [hax] at this
        obtain ⟨v,vr,h1,h2,h3⟩:=this
        obtain ⟨v',vr',h4,h5,h6⟩:=h3
        subst h4
        refine (good_append hP hw h hag (fun hf=>?_) h2 h5 (args:=c.args.toList.map a.eval) (ats:=c.argTypes.toList) (ty:=o.type) (by rw [h1]; rfl) (by rw [hat]; rfl) ?_).wider fun b hb=>⟨hb.1,d,hd,hb.2⟩
        · obtain ⟨d',hd',hcl⟩:=hfr hf
          rw [hd] at hd'; cases hd'; exact hcl
        · intro v w' hv
          have e1:(c.args.map a.eval) = (c.args.toList.map a.eval).toArray:=by apply Array.ext'; simp
          simp only [Array.toArray_toList] at hv
          simp only [execOp,hop,resolve,hcal,run_bind2,run_pure2,Result.andThen_ok,invoke,builtin,e1,hv]
      · cases h
    · -- min
      rename_i hcal
      cases hm:minMax false (c.args.toList.map ρ) with
      | none=>rw [hm] at h; cases h
      | some av=>
        rw [hm] at h; cases h
        unfold minMax at hm
        split at hm
        · cases hm
        · rename_i x l hl
          rw [hl] at hargs
          obtain ⟨v,vl,h1,h2,h3⟩:=hargs
          obtain ⟨u,k1,k2⟩:=run_mmFrom (P:=P) (w:=w) false hm h2 h3
          refine OpGood.pure hw (v:=u) ?_ k2
          have e1:(c.args.map a.eval).toList = v :: vl:=by rw [Array.toList_map]; exact h1
          simp only [Bool.false_eq_true,if_false] at k1
          simp only [execOp,hop,resolve,hcal,run_bind2,run_pure2,Result.andThen_ok,invoke,builtin,Builtin.min_,e1]
          rw [show (fun a b=>Builtin.min2 a b) = Builtin.min2 from rfl] at k1
          rw [k1]; rfl
    · -- max
      rename_i hcal
      cases hm:minMax true (c.args.toList.map ρ) with
      | none=>rw [hm] at h; cases h
      | some av=>
        rw [hm] at h; cases h
        unfold minMax at hm
        split at hm
        · cases hm
        · rename_i x l hl
          rw [hl] at hargs
          obtain ⟨v,vl,h1,h2,h3⟩:=hargs
          obtain ⟨u,k1,k2⟩:=run_mmFrom (P:=P) (w:=w) true hm h2 h3
          refine OpGood.pure hw (v:=u) ?_ k2
          have e1:(c.args.map a.eval).toList = v :: vl:=by rw [Array.toList_map]; exact h1
          simp only [if_true] at k1
          simp only [execOp,hop,resolve,hcal,run_bind2,run_pure2,Result.andThen_ok,invoke,builtin,Builtin.max_,e1]
          rw [show (fun a b=>Builtin.max2 a b) = Builtin.max2 from rfl] at k1
          rw [k1]; rfl
    · cases h
  · cases h
end Go.Proofs.YtjojaiomgdjhfaaGreatDoor.AE
namespace Go.Proofs.YtjojaiomgdjhfaaGreatDoor.AE
open Go
structure StOk (gl:List (Nat × List AV)) (n:Nat) (g:Gh) (S:St) (a:Act) (w:World):Prop where
  wc:WC g S.H w
  vals:∀ t,V g (getA S.A t) (a.tmps.getD t undef)
  size:a.tmps.size = n
  defers:a.defers = []
  glob:∀ x ∈ gl,Pinned g x.1 0 x.2
theorem StOk.eval {gl:List (Nat × List AV)} {n:Nat} {g:Gh} {S:St} {a:Act} {w:World} (h:StOk gl n g S a w) (x:Operand):V g (evalA gl S.A x) (a.eval x):=by
  cases x with
  | tmp t=>exact h.vals t
  | const v=>exact V_ofVal g v
  | global i=>
    simp only [evalA]
    split
    · rename_i cs hf
      exact ⟨i,0,rfl,h.glob _ (find_mem hf)⟩
    · trivial
  | func f=>exact ⟨#[],#[],rfl,rfl,rfl⟩
def Inv (gl:List (Nat × List AV)) (n:Nat) (w0:World) (g0:Gh) (H0:Heap) (S:St) (a:Act) (w:World):Prop :=
  ∃ g,StOk gl n g S a w∧Ctx w0 g0 H0 g S.H w∧Keep (fun b=>¬ IsExt b) g0 g∧Pers H0 S.H
mutual
theorem refs_strip (p:Oid→Bool):∀ (a:AV),∀ b ∈ refs (strip p a),p b = false
  | .ptr b off=>by simp only [strip]; split <;> simp_all [refs]
  | .mref b s o l c=>by simp only [strip]; split <;> simp_all [refs]
  | .mapr b=>by simp only [strip]; split <;> simp_all [refs]
  | .slice tok s es=>by
    cases tok with
    | buf b=>simp only [strip]; split <;> simp [refs]
    | none=>simp [strip,refs]
    | full=>simp [strip,refs]
  | .fn f a b=>by
    simp only [strip,refs,List.mem_append]
    intro x hx
    exact hx.elim (refsL_strip p a x) (refsL_strip p b x)
  | .iface t v=>by simp only [strip,refs]; exact refs_strip p v
  | .agg cs=>by simp only [strip,refs]; exact refsL_strip p cs
  | .tuple vs=>by simp only [strip,refs]; exact refsL_strip p vs
  | .undef=>by simp [strip,refs]
  | .bool _=>by simp [strip,refs]
  | .int _ _=>by simp [strip,refs]
  | .str _=>by simp [strip,refs]
  | .nilp=>by simp [strip,refs]
  | .pin _=>by simp [strip,refs]
  | .nils=>by simp [strip,refs]
  | .nilm=>by simp [strip,refs]
  | .mapf _ _=>by simp [strip,refs]
  | .nilf=>by simp [strip,refs]
  | .nili=>by simp [strip,refs]
theorem refsL_strip (p:Oid→Bool):∀ (as:List AV),∀ b ∈ refsL (stripL p as),p b = false
  | []=>by simp [stripL,refsL]
  | a :: as=>by
    simp only [stripL,refsL,List.mem_append]
    intro x hx
    exact hx.elim (refs_strip p a x) (refsL_strip p as x)
end
mutual
theorem toks_strip (p:Oid→Bool):∀ (a:AV),∀ b ∈ toks (strip p a),p b = false
  | .ptr b off=>by simp only [strip]; split <;> simp_all [toks]
  | .mref b s o l c=>by simp only [strip]; split <;> simp_all [toks]
  | .mapr b=>by simp only [strip]; split <;> simp_all [toks]
  | .slice tok s es=>by
    cases tok with
    | buf b=>simp only [strip]; split <;> simp_all [toks]
    | none=>simp [strip,toks]
    | full=>simp [strip,toks]
  | .fn f a b=>by
    simp only [strip,toks,List.mem_append]
    intro x hx
    exact hx.elim (toksL_strip p a x) (toksL_strip p b x)
  | .iface t v=>by simp only [strip,toks]; exact toks_strip p v
  | .agg cs=>by simp only [strip,toks]; exact toksL_strip p cs
  | .tuple vs=>by simp only [strip,toks]; exact toksL_strip p vs
  | .undef=>by simp [strip,toks]
  | .bool _=>by simp [strip,toks]
  | .int _ _=>by simp [strip,toks]
  | .str _=>by simp [strip,toks]
  | .nilp=>by simp [strip,toks]
  | .pin _=>by simp [strip,toks]
  | .nils=>by simp [strip,toks]
  | .nilm=>by simp [strip,toks]
  | .mapf _ _=>by simp [strip,toks]
  | .nilf=>by simp [strip,toks]
  | .nili=>by simp [strip,toks]
theorem toksL_strip (p:Oid→Bool):∀ (as:List AV),∀ b ∈ toksL (stripL p as),p b = false
  | []=>by simp [stripL,toksL]
  | a :: as=>by
    simp only [stripL,toksL,List.mem_append]
    intro x hx
    exact hx.elim (toks_strip p a x) (toksL_strip p as x)
end
theorem find_purge (d:Nat) (S:St) (b:Oid):find (purge d S).H b = if rooted d b then none else (find S.H b).map (Ob.strip (rooted d)):=by
  simp only [purge]
  rw [find_map (Ob.strip (rooted d)),find_filter (fun x:Oid × Ob=>!rooted d x.1) (fun b=>!rooted d b) (fun _=>rfl)]
  cases rooted d b <;> simp
theorem purge_less (d:Nat) (S:St):Less S.H (purge d S).H:=by
  refine ⟨fun b ob' hb=>?_⟩
  rw [find_purge] at hb
  split at hb
  · cases hb
  · cases hf:find S.H b with
    | none=>rw [hf] at hb; cases hb
    | some ob=>rw [hf] at hb; cases hb; exact ⟨ob,_,rfl,rfl⟩
theorem getA_purge (d:Nat) (S:St) (t:Nat):getA (purge d S).A t = strip (rooted d) (getA S.A t):=by
  simp only [getA,purge]
  rw [find_map (strip (rooted d))]
  cases find S.A t <;> rfl
theorem Ob.refs_strip (p:Oid→Bool) (ob:Ob):∀ y ∈ (ob.strip p).refs ++ (ob.strip p).toks,p y = false:=by
  intro y hy
  cases ob with
  | cells wr cs=>
    simp only [Ob.strip,Ob.refs,Ob.toks,List.mem_append] at hy
    exact hy.elim (refsL_strip p cs y) (toksL_strip p cs y)
  | buf s n=>simp [Ob.strip,Ob.refs,Ob.toks] at hy
theorem purge_clear (d:Nat) (S:St):ClearH d (purge d S).H:=by
  refine ⟨fun b hb=>by rw [find_purge,if_pos hb],fun x ob hf y hy=>?_⟩
  rw [find_purge] at hf
  split at hf
  · cases hf
  · cases hq:find S.H x with
    | none=>rw [hq] at hf; cases hf
    | some ob0=>rw [hq] at hf; cases hf; exact Ob.refs_strip _ ob0 y hy
theorem clear_spec {d:Nat} {S:St} (h:clear S d = true):ClearH d S.H∧∀ t,t ≠ d→Off (fun b=>rooted d b = true) (getA S.A t):=by
  simp only [clear,Bool.and_eq_true,List.all_eq_true] at h
  obtain ⟨h1,h2⟩:=h
  refine ⟨⟨fun b hb=>?_,fun x ob hf y hy=>?_⟩,fun t ht=>?_⟩
  · cases hf:find S.H b with
    | none=>rfl
    | some ob=>
      have:=h2 _ (find_mem hf)
      simp only [Bool.not_eq_true'] at this
      rw [this.1.1] at hb; cases hb
  · have:=h2 _ (find_mem hf)
    simp only [Bool.not_eq_true',List.any_eq_false] at this
    rcases List.mem_append.1 hy with hy | hy
    · simpa using this.1.2 y hy
    · simpa using this.2 y hy
  · unfold getA
    cases hf:find S.A t with
    | none=>exact ⟨by simp [refs],by simp [toks]⟩
    | some v=>
      have:=h1 _ (find_mem hf)
      simp only [Bool.or_eq_true,decide_eq_true_eq,Bool.and_eq_true,Bool.not_eq_true',List.any_eq_false] at this
      rcases this with h3 | ⟨h3,h4⟩
      · exact (ht h3).elim
      · exact ⟨fun b hb=>by simpa using h3 b hb,fun b hb=>by simpa using h4 b hb⟩
theorem map_fresh {x:Option AV} {r:OpR} (h:x.map (fun v=>({ v }:OpR)) = some r):r.fresh = false:=by
  cases x with
  | none=>cases h
  | some v=>cases h; rfl
theorem map_fresh2 {x:Option AV} {r:OpR} (f:AV→OpR) (hf:∀ v,(f v).fresh = false) (h:x.map f = some r):r.fresh = false:=by
  cases x with
  | none=>cases h
  | some v=>cases h; exact hf v
def boolOf:Option Value→Option Bool
  | some (.bool b)=>some b
  | _=>none
theorem evLookup_fresh {tb:List TI} {H:Heap} {t:TypeId} {m key:AV} {ok:Bool} {r:OpR} (h:evLookup tb H t m key ok = some r):r.fresh = false:=by
  unfold evLookup at h
  split at h
  · split at h
    · split at h
      · split at h
        · split at h <;> cases h <;> rfl
        · split at h <;> cases h <;> rfl
        · cases h
      · cases h
    · cases h
  · cases h
theorem evMapSet_fresh {tb:List TI} {H:Heap} {t:TypeId} {m key x:AV} {r:OpR} (h:evMapSet tb H t m key x = some r):r.fresh = false:=by
  unfold evMapSet at h
  split at h
  · split at h
    · split at h
      · split at h
        · split at h
          · split at h <;> cases h <;> rfl
          · cases h
        · cases h
      · cases h
    · cases h
  · cases h
theorem evOp_fresh {P:Program} {tb:List TI} {cfg:Cfg} {call:CallF} {fid:FuncId} {ρ:Operand→AV} {H:Heap} {o:Oper} {r:OpR} (h:evOp tb cfg call fid ρ H o = some r) (hf:r.fresh = true) (hnc:isCallV o.op = false) (H':Heap) :
    evOp tb cfg call fid ρ H' o = some r∧∃ d,o.dst = some d:=by
  unfold evOp at h ⊢
  simp only at h ⊢
  split at h
  · cases h; cases hf
  · rename_i x hop
    split at h
    · rename_i d hd
      exact ⟨h,d,hd⟩
    · cases h
  · split at h
    · cases h; cases hf
    · cases h
  · split at h
    · rename_i ti d hti hd
      exact ⟨h,d,hd⟩
    · cases h
  · split at h
    · rename_i s d hs hd
      exact ⟨h,d,hd⟩
    · cases h
  · rw [map_fresh h] at hf; cases hf
  · rw [map_fresh h] at hf; cases hf
  · -- load
    unfold evLoad at h
    split at h
    · rw [map_fresh h] at hf; cases hf
    · split at h
      · split at h
        · rw [map_fresh2 _ (fun _=>rfl) h] at hf; cases hf
        · cases h
      · cases h
    · cases h
  · -- store
    unfold evStore at h
    split at h
    · split at h
      · split at h
        · cases h; cases hf
        · cases h
      · cases h
    · cases h
  · split at h <;> first | (cases h; cases hf; done) | (cases h; done)
  · rw [map_fresh h] at hf; cases hf
  · rw [map_fresh h] at hf; cases hf
  · rw [map_fresh h] at hf; cases hf
  · split at h
    · cases h; cases hf
    · cases h
  · rw [map_fresh h] at hf; cases hf
  · rw [map_fresh h] at hf; cases hf
  · rw [map_fresh h] at hf; cases hf
  · rw [map_fresh h] at hf; cases hf
  · rw [map_fresh h] at hf; cases hf
  · split at h
    · rw [map_fresh h] at hf; cases hf
    · cases h
  · rw [evLookup_fresh h] at hf; cases hf
  · rw [evMapSet_fresh h] at hf; cases hf
  · -- call
    rename_i c hop
    split at h
    · rename_i x hcal
      rw [hop] at hnc
      simp [isCallV,hcal] at hnc
    · split at h
      · split at h <;> first | (cases h; cases hf; done) | (cases h; done)
      · cases h
    · -- append
      split at h
      · rename_i d t u tr s x xr hd hat hax
        refine ⟨?_,d,hd⟩
        unfold evAppend at h ⊢
        split at h
        · split at h
          · cases h
          · split at h
            · cases h
            · rename_i hc
              rw [if_neg hc]
              split at h
              · exact h
              · exact h
              · split at h
                · cases h
                · split at h
                  · split at h
                    · cases h; cases hf
                    · cases h
                  · cases h
              · cases h
        · cases h
      · cases h
    · rw [map_fresh h] at hf; cases hf
    · rw [map_fresh h] at hf; cases hf
    · cases h
  · cases h
theorem evCall_fresh {ro:FuncId→Bool} {kt:Bool} {call:CallF} {dst:Option Nat} {H:Heap} {f:FuncId} {args:List AV} {r:OpR} (h:evCall ro kt call dst H f args = some r) (hf:r.fresh = true):∃ d,dst = some d:=by
  unfold evCall at h
  split at h
  · cases h
  split at h
  · cases h
  split at h
  · split at h
    · split at h
      · split at h
        · cases h; cases hf
        · cases h
      · cases h
    · split at h
      · rename_i r0 H2 hc
        split at h
        · rename_i ids _ _ _ _ _ _ _ _ _ _ _ _ r' ws _ _
          cases h
          cases ha:adopt dst ids r0 H2 ws with
          | none=>rw [ha] at hf; cases hf
          | some ra=>
            obtain ⟨d,_,_,_,_,hd,_⟩:=adopt_some ha
            exact ⟨d,hd⟩
        · cases h
      · cases h
  · cases h
theorem fresh_dst {P:Program} {tb:List TI} {cfg:Cfg} {call:CallF} {fid:FuncId} {ρ:Operand→AV} {H:Heap} {o:Oper} {r:OpR} (h:evOp tb cfg call fid ρ H o = some r) (hf:r.fresh = true):∃ d,o.dst = some d:=by
  cases hnc:isCallV o.op with
  | false=>exact (evOp_fresh (P:=P) h hf hnc H).2
  | true=>
    unfold isCallV at hnc
    split at hnc
    · rename_i c hop
      split at hnc
      · rename_i x hcal
        unfold evOp at h
        simp only [hop,hcal] at h
        split at h
        · obtain ⟨d,hd⟩:=evCall_fresh h hf
          exact ⟨d,adoptAt_some hd⟩
        · cases h
      · cases hnc
    · cases hnc
theorem getD_put {a:Act} {d t:Nat} {v:Value} (hd:d < a.tmps.size):(a.put (some d) v).tmps.getD t undef = if d = t then v else a.tmps.getD t undef:=by
  simp only [Act.put,Array.getD_eq_getD_getElem?,Array.getElem?_setIfInBounds]
  split
  · rename_i e; subst e; simp [hd]
  · rfl
theorem put_size (a:Act) (dst:Option Nat) (v:Value):(a.put dst v).tmps.size = a.tmps.size:=by cases dst <;> simp [Act.put]
theorem put_defers (a:Act) (dst:Option Nat) (v:Value):(a.put dst v).defers = a.defers:=by cases dst <;> simp [Act.put]
theorem vals_put {g:Gh} {A A':Slots} {a:Act} {n:Nat} (hn:a.tmps.size = n) {dst:Option Nat} {av:AV} {v:Value} (hs:setDst n dst av A = some A') (hv:V g av v)
    (hA:∀ t,dst ≠ some t→V g (getA A t) (a.tmps.getD t undef)) (t:Nat):V g (getA A' t) ((a.put dst v).tmps.getD t undef):=by
  cases dst with
  | none=>simp only [setDst] at hs; cases hs; exact hA t (by simp)
  | some d=>
    simp only [setDst] at hs
    split at hs
    · rename_i hd
      cases hs
      rw [getA_put,getD_put (by omega)]
      by_cases e:d = t
      · rw [if_pos e,if_pos e]; exact hv
      · rw [if_neg e,if_neg e]; exact hA t (by simp; exact e)
    · cases hs
theorem pers_insAll (H:Heap) (ws:List (Oid × Ob)):Pers H (insAll H ws):=by
  intro e _ h
  rw [find_insAll]
  cases find ws e <;> simp_all
theorem pers_purge (d:Nat) (S:St):Pers S.H (purge d S).H:=by
  rintro e ⟨i,hi⟩ h
  rw [find_purge,if_neg (by simp [rooted,hi])]
  cases hf:find S.H e with
  | none=>rw [hf] at h; cases h
  | some ob=>rfl
theorem Pers.trans {H H' H'':Heap} (h:Pers H H') (k:Pers H' H''):Pers H H'':=fun e he h1=>k e he (h e he h1)
theorem rooted_notExt {d:Nat} {b:Oid} (h:rooted d b = true):¬ IsExt b:=by
  rintro ⟨i,hi⟩
  simp [rooted,hi] at h
def StepTo (gl:List (Nat × List AV)) (n:Nat) (g:Gh) (S:St) (w:World) (S':St) (a':Act) (w':World):Prop :=
  ∃ g',StOk gl n g' S' a' w'∧Ctx w g S.H g' S'.H w'∧Keep (fun b=>¬ IsExt b) g g'∧Pers S.H S'.H
theorem wanted_spec {g:Gh} {A:Slots} {a:Act} (hv0:∀ t,V g (getA A t) (a.tmps.getD t undef)) {ops:Array Oper} {o:Oper}:∀ b,evWanted ops A o = some b→Region.wanted o (yielded ops a.tmps) = b:=by
  intro b hb
  unfold evWanted at hb
  unfold Region.wanted
  split at hb
  · rename_i hg; rw [hg]; cases hb; rfl
  · rename_i j want hg
    rw [hg]
    simp only
    split at hb
    · rename_i oj hoj
      split at hb
      · rename_i t ht
        have hv:=hv0 t
        have hy:yielded ops a.tmps j = boolOf a.tmps[t]?:=by
          unfold yielded
          rw [hoj]
          simp only [Option.bind_some,ht]
          cases a.tmps[t]? with
          | none=>rfl
          | some u=>cases u <;> rfl
        rw [hy]
        split at hb
        · rename_i x hx
          cases hb
          rw [hx] at hv
          simp only [V] at hv
          have:a.tmps[t]? = some (.bool x):=by
            rw [Array.getD_eq_getD_getElem?] at hv
            cases hq:a.tmps[t]? with
            | none=>rw [hq] at hv; simp [undef] at hv
            | some u=>rw [hq] at hv; simp at hv; rw [hv]
          rw [this]
          cases x <;> cases want <;> rfl
        · rename_i hx
          cases hb
          rw [hx] at hv
          obtain ⟨y,hy2,hl⟩:=hv
          have:boolOf a.tmps[t]? = none:=by
            rw [Array.getD_eq_getD_getElem?] at hy2
            cases hq:a.tmps[t]? with
            | none=>rfl
            | some u=>rw [hq] at hy2; simp at hy2; rw [hy2]; rfl
          rw [this]; rfl
        · cases hb
      · cases hb
    · cases hb
theorem evStep_good {P:Program} {tb:List TI} {cfg:Cfg} {call:CallF} (hP:TbOk P tb) {gl:List (Nat × List AV)} (hcall:CallOk P gl call) (hent:Enters P call) {n:Nat} {g:Gh} {S S':St} {a:Act} {w:World}
    (hS:StOk gl n g S a w) {fid:FuncId} {ops:Array Oper} {o:Oper} {r:OpR} (h:evStep tb cfg gl call fid n ops S o = some (S',r)) (next:Act→World→Prop) (Q:Exit→Act→World→Prop)
    (hn:∀ a' w',StepTo gl n g S w S' a' w'→next a' w') :
    (Region.wanted o (yielded ops a.tmps) = true→o.wp P a w next Q)∧(Region.wanted o (yielded ops a.tmps) = false→next (a.put o.dst undef) w):=by
  have hwant:=wanted_spec hS.vals (ops:=ops) (o:=o)
  unfold evStep at h
  split at h
  · cases h
  · -- not wanted
    rename_i hw0
    have hwt:=hwant _ hw0
    refine ⟨fun h1=>by (rw [hwt] at h1; cases h1),fun _=>?_⟩
    cases hs:setDst n o.dst (.tuple []) S.A with
    | none=>rw [hs] at h; cases h
    | some A=>
      rw [hs] at h; cases h
      exact hn _ _ ⟨g,⟨hS.wc,vals_put hS.size hs ⟨#[],rfl,rfl⟩ (fun t _=>hS.vals t),by rw [put_size]; exact hS.size,by rw [put_defers]; exact hS.defers,hS.glob⟩,Ctx.refl _ _ _,Keep.refl _ _,fun _ _ h=>h⟩
  · rename_i hw0
    have hwt:=hwant _ hw0
    refine ⟨fun _=>?_,fun h1=>by (rw [hwt] at h1; cases h1)⟩
    split at h
    · cases h
    rename_i r0 hop
    -- the state ahead of the operation
    obtain ⟨S1,g1,hS1,hS1A,hk1,hc1,hp1,hclr,hop1,hset⟩:∃ (S1:St) (g1:Gh),WC g1 S1.H w∧(∀ t,o.dst ≠ some t→V g1 (getA S1.A t) (a.tmps.getD t undef)∧Off (Fr r0 o) (getA S1.A t))∧Keep (fun _=>False) g g1∧Ctx w g S.H g1 S1.H w∧Pers S.H S1.H ∧
        (r0.fresh = true→∃ d,o.dst = some d∧ClearH d S1.H)∧evOp tb cfg call fid (evalA gl S.A) S1.H o = some r0 ∧
        (setDst n o.dst r0.v S1.A).map (fun A=>((⟨A,insAll S1.H r0.ws⟩:St),r0)) = some (S',r):=by
      by_cases hfr:r0.fresh = true
      · rw [if_pos hfr] at h
        obtain ⟨d,hd⟩:=fresh_dst (P:=P) hop hfr
        rw [hd] at h
        simp only at h
        by_cases hcl:clear S d = true
        · rw [if_pos hcl,if_neg (by simp [hcl])] at h
          obtain ⟨c1,c2⟩:=clear_spec hcl
          refine ⟨S,g,hS.wc,fun t ht=>⟨hS.vals t,?_⟩,Keep.refl _ _,Ctx.refl _ _ _,fun _ _ h=>h,fun _=>⟨d,hd,c1⟩,hop,by rw [hd]; exact h⟩
          have hne:t ≠ d:=fun e=>ht (by rw [hd,e])
          have hoff:=c2 t hne
          exact ⟨fun b hb hF=>hoff.1 b hb (by obtain ⟨_,d',h1,h2⟩:=hF; rw [hd] at h1; cases h1; exact h2),fun b hb hF=>hoff.2 b hb (by obtain ⟨_,d',h1,h2⟩:=hF; rw [hd] at h1; cases h1; exact h2)⟩
        · have hnc:isCallV o.op = false:=by
            cases hx:isCallV o.op with
            | false=>rfl
            | true=>rw [if_pos (by simp [hfr,hx,hcl])] at h; cases h
          rw [if_neg hcl,if_neg (by simp [hnc])] at h
          obtain ⟨l1,l2,l3⟩:=hS.wc.less (purge_less d S)
          refine ⟨purge d S,g.heap (purge d S).H,l1,fun t ht=>⟨?_,?_⟩,l2,l3,pers_purge d S,fun _=>⟨d,hd,purge_clear d S⟩,(evOp_fresh (P:=P) hop hfr hnc _).1,by rw [hd]; exact h⟩
          · rw [getA_purge]
            exact V.strip _ _ _ (l2.V (Off.none _) (hS.vals t))
          · rw [getA_purge]
            refine ⟨fun b hb hF=>?_,fun b hb hF=>?_⟩
            · obtain ⟨_,d',h1,h2⟩:=hF
              rw [hd] at h1; cases h1
              rw [refs_strip _ _ b hb] at h2; cases h2
            · obtain ⟨_,d',h1,h2⟩:=hF
              rw [hd] at h1; cases h1
              rw [toks_strip _ _ b hb] at h2; cases h2
      · have hfr':r0.fresh = false:=by simpa using hfr
        rw [if_neg hfr,if_neg (by simp [hfr'])] at h
        exact ⟨S,g,hS.wc,fun t _=>⟨hS.vals t,⟨fun b _ hF=>hfr hF.1,fun b _ hF=>hfr hF.1⟩⟩,Keep.refl _ _,Ctx.refl _ _ _,fun _ _ h=>h,fun hf=>(hfr hf).elim,hop,h⟩
    have hρ:∀ x,V g1 (evalA gl S.A x) (a.eval x):=fun x=>hk1.V (Off.none _) (hS.eval x)
    refine evOp_good hP hcall hent (fun x hx=>(hS.glob x hx).mono hk1.gam) hS1 hρ hop1 (Agree.refl _ _) hclr next Q fun v w' g' st=>?_
    have hFx:∀ b,Fr r0 o b→¬ IsExt b:=fun b hF=>by
      obtain ⟨_,d,_,h2⟩:=hF
      exact rooted_notExt h2
    cases hs:setDst n o.dst r0.v S1.A with
    | none=>rw [hs] at hset; cases hset
    | some A=>
      rw [hs] at hset; cases hset
      refine hn _ _ ⟨g',⟨st.wc,vals_put hS.size hs st.val (fun t ht=>st.keep.V (hS1A t ht).2 (hS1A t ht).1),by rw [put_size]; exact hS.size,by rw [put_defers]; exact hS.defers,fun x hx=>?_⟩,
        hc1.trans st.ctx,(hk1.wider fun _ h=>h.elim).trans (st.keep.wider hFx),hp1.trans (pers_insAll _ _)⟩
      exact ((hS.glob x hx).mono hk1.gam).mono st.keep.gam
end Go.Proofs.YtjojaiomgdjhfaaGreatDoor.AE
namespace Go.Proofs.YtjojaiomgdjhfaaGreatDoor.AE
open Go
theorem evOp_congr {tb:List TI} {cfg:Cfg} {call:CallF} {fid:FuncId} {ρ ρ':Operand→AV} {H:Heap} {o:Oper} (h:∀ x ∈ o.op.operands.toList,ρ x = ρ' x):evOp tb cfg call fid ρ H o = evOp tb cfg call fid ρ' H o:=by
  have hl:∀ l:List Operand,(∀ x ∈ l,x ∈ o.op.operands.toList)→l.map ρ = l.map ρ':=fun l hl=>List.map_congr_left fun x hx=>h x (hl x hx)
  have hp:∀ l:List (Nat × Operand),(∀ x ∈ l,x.2 ∈ o.op.operands.toList)→(l.map fun p=>(p.1,ρ p.2)) = l.map fun p=>(p.1,ρ' p.2):=fun l hl=>List.map_congr_left fun x hx=>by rw [h x.2 (hl x hx)]
  have ho:∀ q:Option Operand,(∀ x,q = some x→x ∈ o.op.operands.toList)→q.map ρ = q.map ρ':=fun q hq=>by
    cases q with
    | none=>rfl
    | some x=>simp [h x (hq x rfl)]
  unfold evOp
  simp only
  cases hop:o.op with
  | move x=>simp only; rw [h x (by simp [hop,Op.operands])]
  | assign x=>simp only; rw [h x (by simp [hop,Op.operands])]
  | pick c a b=>simp only; rw [h c (by simp [hop,Op.operands]),h a (by simp [hop,Op.operands]),h b (by simp [hop,Op.operands])]
  | alloc e=>rfl
  | box e x=>simp only; rw [h x (by simp [hop,Op.operands])]
  | build t parts=>
    simp only
    rw [hp parts.toList fun x hx=>by simp [hop,Op.operands]; exact ⟨x.1,by simpa using hx⟩]
  | buildSlice t n parts=>
    simp only
    rw [hp parts.toList fun x hx=>by simp [hop,Op.operands]; exact ⟨x.1,by simpa using hx⟩]
  | load t x=>simp only; rw [h x (by simp [hop,Op.operands])]
  | store t a x=>simp only; rw [h a (by simp [hop,Op.operands]),h x (by simp [hop,Op.operands])]
  | nilCheck x=>simp only; rw [h x (by simp [hop,Op.operands])]
  | binOp op t x y u=>simp only; rw [h x (by simp [hop,Op.operands]),h y (by simp [hop,Op.operands])]
  | unOp op t x=>simp only; rw [h x (by simp [hop,Op.operands])]
  | convert s d x=>simp only; rw [h x (by simp [hop,Op.operands])]
  | makeFunc f a b=>
    simp only
    rw [hl a.toList fun x hx=>by simp [hop,Op.operands]; exact .inl (by simpa using hx),hl b.toList fun x hx=>by simp [hop,Op.operands]; exact .inr (by simpa using hx)]
  | slice t x lo hi mx=>
    simp only
    rw [h x (by simp [hop,Op.operands]),ho lo fun y hy=>by simp [hop,Op.operands,hy],ho hi fun y hy=>by simp [hop,Op.operands,hy],ho mx fun y hy=>by simp [hop,Op.operands,hy]]
  | fieldAddr s x f=>simp only; rw [h x (by simp [hop,Op.operands])]
  | field s x f=>simp only; rw [h x (by simp [hop,Op.operands])]
  | indexAddr t x i=>simp only; rw [h x (by simp [hop,Op.operands]),h i (by simp [hop,Op.operands])]
  | index t x i=>simp only; rw [h x (by simp [hop,Op.operands]),h i (by simp [hop,Op.operands])]
  | extract x i=>simp only; rw [h x (by simp [hop,Op.operands])]
  | lookup t m k ok=>simp only; rw [h m (by simp [hop,Op.operands]),h k (by simp [hop,Op.operands])]
  | mapUpdate t m k x=>simp only; rw [h m (by simp [hop,Op.operands]),h k (by simp [hop,Op.operands]),h x (by simp [hop,Op.operands])]
  | call c=>
    simp only
    rw [hl c.args.toList fun x hx=>by simp [hop,Op.operands,Call.operands]; exact .inr (by simpa using hx)]
    cases hc:c.callee with
    | value f=>simp only; rw [h f (by simp [hop,Op.operands,Call.operands,hc])]
    | invoke r m=>rfl
    | builtin b=>cases b <;> rfl
  | _=>rfl
inductive Before (ops:Array Oper):Nat→Nat→Prop
  | edge {j:Nat} {o:Oper} {e:Edge} (ho:ops[j]? = some o) (he:e ∈ o.after) (hb:Region.binds .any e = true):Before ops j e.on
  | step {j i:Nat} {o:Oper} {e:Edge} (ho:ops[j]? = some o) (he:e ∈ o.after) (hb:Region.binds .any e = true) (h:Before ops e.on i):Before ops j i
theorem befores_spec (ops:Array Oper):∀ (l:List Oper) (acc:List (List Nat)),(∀ i,l[i]? = ops[acc.length + i]?)→(∀ j i,i ∈ acc.getD j []→Before ops j i) →
    ∀ j i,i ∈ (befores l acc).getD j []→Before ops j i
  | [],acc,_,ha=>by simpa only [befores] using ha
  | o :: r,acc,hl,ha=>by
    simp only [befores]
    have ho:ops[acc.length]? = some o:=by have:=hl 0; simpa using this.symm
    refine befores_spec ops r _ (fun i=>?_) (fun j i hi=>?_)
    · have:=hl (i + 1)
      simp only [List.getElem?_cons_succ] at this
      rw [this]; simp only [List.length_append,List.length_singleton]; congr 1; omega
    · by_cases hj:j < acc.length
      · rw [List.getD_eq_getElem?_getD,List.getElem?_append_left hj,← List.getD_eq_getElem?_getD] at hi
        exact ha j i hi
      · by_cases hj2:j = acc.length
        · subst hj2
          rw [List.getD_eq_getElem?_getD,List.getElem?_append_right (Nat.le_refl _)] at hi
          simp only [Nat.sub_self,List.getElem?_cons_zero,Option.getD_some,List.mem_flatMap,List.mem_filter] at hi
          obtain ⟨e,⟨he,hb⟩,hi⟩:=hi
          rcases List.mem_cons.1 hi with rfl | hi
          · exact .edge ho (by simpa using he) hb
          · exact .step ho (by simpa using he) hb (ha _ _ hi)
        · rw [List.getD_eq_getElem?_getD,List.getElem?_eq_none (by simp; omega)] at hi
          simp at hi
def updA (o:Option Oper) (r:Option OpR) (A:Slots):Slots :=
  match o,r with
  | some o,some r=>match o.dst with
    | some d=>put d r.v A
    | none=>A
  | _,_=>A
def updH (r:Option OpR) (H:Heap):Heap :=
  match r with
  | some r=>insAll H r.ws
  | none=>H
section
variable (ops:Array Oper) (R:List OpR) (D:Nat→Bool)
def slotsAt (A:Slots):Nat→Slots
  | 0=>A
  | k + 1=>if D k then updA ops[k]? R[k]? (slotsAt A k) else slotsAt A k
def heapAt (H:Heap):Nat→Heap
  | 0=>H
  | k + 1=>if D k then updH R[k]? (heapAt H k) else heapAt H k
end
def dstAt (ops:Array Oper) (i:Nat):Option Nat:=(ops[i]?).bind (·.dst)
theorem getA_updA (ops:Array Oper) (R:List OpR) (k:Nat) (A:Slots) (t:Nat) :
    (dstAt ops k = some t∧∃ r,R[k]? = some r∧getA (updA ops[k]? R[k]? A) t = r.v) ∨ getA (updA ops[k]? R[k]? A) t = getA A t:=by
  unfold updA dstAt
  split
  · rename_i o r ho hr
    split
    · rename_i d hd
      rw [getA_put]
      by_cases e:d = t
      · subst e; left; exact ⟨by rw [ho]; exact hd,r,hr,by simp⟩
      · right; rw [if_neg e]
    · right; rfl
  · right; rfl
theorem updA_other {ops:Array Oper} (R:List OpR) {k:Nat} {t:Nat} (h:dstAt ops k ≠ some t) (A:Slots):getA (updA ops[k]? R[k]? A) t = getA A t:=by
  rcases getA_updA ops R k A t with ⟨h1,_⟩ | h1
  · exact (h h1).elim
  · exact h1
theorem updA_same {ops:Array Oper} {R:List OpR} {k:Nat} {t:Nat} {r:OpR} (h:dstAt ops k = some t) (hr:R[k]? = some r) (A:Slots):getA (updA ops[k]? R[k]? A) t = r.v:=by
  unfold dstAt at h
  cases ho:ops[k]? with
  | none=>rw [ho] at h; cases h
  | some o=> 
    rw [ho] at h
    simp only [Option.bind_some] at h
    simp only [updA,hr,h,getA_put,if_true]
theorem updA_congr (o:Option Oper) (r:Option OpR) {A A':Slots} {t:Nat} (h:getA A t = getA A' t):getA (updA o r A) t = getA (updA o r A') t:=by
  unfold updA
  split
  · split
    · rw [getA_put,getA_put,h]
    · exact h
  · exact h
theorem slots_congr (ops:Array Oper) (R:List OpR) {D D':Nat→Bool} (A:Slots) (t:Nat):∀ k,(∀ i,i < k→D i ≠ D' i→dstAt ops i ≠ some t)→getA (slotsAt ops R D A k) t = getA (slotsAt ops R D' A k) t
  | 0,_=>rfl
  | k + 1,h=>by
    have ih:=slots_congr ops R A t k fun i hi=>h i (by omega)
    simp only [slotsAt]
    by_cases e:D k = D' k
    · rw [e]; split
      · exact updA_congr _ _ ih
      · exact ih
    · have hd:=h k (by omega) e
      split <;> split <;> (try rw [updA_other R hd]) <;> (try rw [updA_other R hd]) <;> exact ih
theorem slots_last (ops:Array Oper) (R:List OpR) {D:Nat→Bool} (A:Slots) {t j:Nat} {r:OpR} (hd:dstAt ops j = some t) (hr:R[j]? = some r) (hD:D j = true) :
    ∀ k,j < k→(∀ i,j < i→i < k→D i = true→dstAt ops i ≠ some t)→getA (slotsAt ops R D A k) t = r.v
  | 0,h,_=>by omega
  | k + 1,hk,h=>by
    simp only [slotsAt]
    by_cases e:j = k
    · subst e; rw [if_pos hD]; exact updA_same hd hr _
    · have ih:=slots_last ops R A hd hr hD k (by omega) fun i h1 h2=>h i h1 (by omega)
      split
      · rename_i hDk; rw [updA_other R (h k (by omega) (by omega) hDk)]; exact ih
      · exact ih
theorem slots_from (ops:Array Oper) (R:List OpR) {D:Nat→Bool} (A:Slots) (t:Nat):∀ k,getA (slotsAt ops R D A k) t = getA A t ∨ ∃ i r,i < k∧D i = true∧dstAt ops i = some t∧R[i]? = some r∧getA (slotsAt ops R D A k) t = r.v
  | 0=>.inl rfl
  | k + 1=>by
    simp only [slotsAt]
    split
    · rename_i hD
      rcases getA_updA ops R k (slotsAt ops R D A k) t with ⟨h1,r,h2,h3⟩ | h1
      · exact .inr ⟨k,r,by omega,hD,h1,h2,h3⟩
      · rw [h1]
        rcases slots_from ops R A t k with h | ⟨i,r,h2,h3⟩
        · exact .inl h
        · exact .inr ⟨i,r,by omega,h3⟩
    · rcases slots_from ops R A t k with h | ⟨i,r,h2,h3⟩
      · exact .inl h
      · exact .inr ⟨i,r,by omega,h3⟩
theorem slots_stop (ops:Array Oper) (R:List OpR) (A:Slots) (j:Nat):∀ x,slotsAt ops R (fun i=>decide (i < j)) A (j + x) = slotsAt ops R (fun _=>true) A j
  | 0=>by
    have:∀ k,k ≤ j→slotsAt ops R (fun i=>decide (i < j)) A k = slotsAt ops R (fun _=>true) A k:=by
      intro k
      induction k with
      | zero=>intro _; rfl
      | succ k ih=> 
        intro hk
        simp only [slotsAt,if_true,ih (by omega),show k < j by omega,decide_true]
    exact this j (Nat.le_refl _)
  | x + 1=>by
    have h:=slots_stop ops R A j x
    show slotsAt ops R _ A ((j + x) + 1) = _
    simp only [slotsAt]
    rw [if_neg (by simp)]
    exact h
def offAt (R:List OpR) (i:Nat) (b:Oid):Prop:=∀ r,R[i]? = some r→find r.ws b = none
theorem updH_other {R:List OpR} {k:Nat} {b:Oid} (h:offAt R k b) (H:Heap):find (updH R[k]? H) b = find H b:=by
  unfold updH
  split
  · rename_i r hr
    rw [find_insAll,h r hr]
  · rfl
theorem updH_congr (r:Option OpR) {H H':Heap} {b:Oid} (h:find H b = find H' b):find (updH r H) b = find (updH r H') b:=by
  unfold updH
  split
  · rw [find_insAll,find_insAll,h]
  · exact h
theorem heap_congr (R:List OpR) {D D':Nat→Bool} (H:Heap) (b:Oid):∀ k,(∀ i,i < k→D i ≠ D' i→offAt R i b)→find (heapAt R D H k) b = find (heapAt R D' H k) b
  | 0,_=>rfl
  | k + 1,h=>by
    have ih:=heap_congr R H b k fun i hi=>h i (by omega)
    simp only [heapAt]
    by_cases e:D k = D' k
    · rw [e]; split
      · exact updH_congr _ ih
      · exact ih
    · have hd:=h k (by omega) e
      split <;> split <;> (try rw [updH_other hd]) <;> (try rw [updH_other hd]) <;> exact ih
theorem heap_last (R:List OpR) {D:Nat→Bool} (H:Heap) {b:Oid} {j:Nat} {r:OpR} {ob:Ob} (hr:R[j]? = some r) (hf:find r.ws b = some ob) (hD:D j = true) :
    ∀ k,j < k→(∀ i,j < i→i < k→D i = true→offAt R i b)→find (heapAt R D H k) b = some ob
  | 0,h,_=>by omega
  | k + 1,hk,h=>by
    simp only [heapAt]
    by_cases e:j = k
    · subst e; rw [if_pos hD,hr]; simp only [updH]; rw [find_insAll,hf]
    · have ih:=heap_last R H hr hf hD k (by omega) fun i h1 h2=>h i h1 (by omega)
      split
      · rename_i hDk; rw [updH_other (h k (by omega) (by omega) hDk)]; exact ih
      · exact ih
theorem heap_from (R:List OpR) {D:Nat→Bool} (H:Heap) {b:Oid} {ob:Ob}:∀ k,find (heapAt R D H k) b = some ob→find H b = some ob ∨ ∃ i r,i < k∧D i = true∧R[i]? = some r∧find r.ws b = some ob
  | 0,h=>.inl h
  | k + 1,h=>by
    simp only [heapAt] at h
    split at h
    · rename_i hD
      unfold updH at h
      split at h
      · rename_i r hr
        rw [find_insAll] at h
        split at h
        · rename_i ob' hf
          cases h
          exact .inr ⟨k,r,by omega,hD,hr,hf⟩
        · rcases heap_from R H k h with h | ⟨i,r,h2,h3⟩
          · exact .inl h
          · exact .inr ⟨i,r,by omega,h3⟩
      · rcases heap_from R H k h with h | ⟨i,r,h2,h3⟩
        · exact .inl h
        · exact .inr ⟨i,r,by omega,h3⟩
    · rcases heap_from R H k h with h | ⟨i,r,h2,h3⟩
      · exact .inl h
      · exact .inr ⟨i,r,by omega,h3⟩
theorem heap_stop (R:List OpR) (H:Heap) (j:Nat):∀ x,heapAt R (fun i=>decide (i < j)) H (j + x) = heapAt R (fun _=>true) H j
  | 0=>by
    have:∀ k,k ≤ j→heapAt R (fun i=>decide (i < j)) H k = heapAt R (fun _=>true) H k:=by
      intro k
      induction k with
      | zero=>intro _; rfl
      | succ k ih=> 
        intro hk
        simp only [heapAt,if_true,ih (by omega),show k < j by omega,decide_true]
    exact this j (Nat.le_refl _)
  | x + 1=>by
    have h:=heap_stop R H j x
    show heapAt R _ H ((j + x) + 1) = _
    simp only [heapAt]
    rw [if_neg (by simp)]
    exact h
def stAt (ops:Array Oper) (R:List OpR) (D:Nat→Bool) (S:St) (k:Nat):St:=⟨slotsAt ops R D S.A k,heapAt R D S.H k⟩
theorem find_none_of_roots {ws:List (Oid × Ob)} {b:Oid} (h:∀ w ∈ ws,w.1.root ≠ b.root):find ws b = none:=by
  cases hf:find ws b with
  | none=>rfl
  | some ob=>exact (h _ (find_mem hf) rfl).elim
end Go.Proofs.YtjojaiomgdjhfaaGreatDoor.AE
namespace Go.Proofs.YtjojaiomgdjhfaaGreatDoor.AE
open Go
def Wk (a b:AV):Prop:=∀ g v,V g a v→V g b v
def WkL:List AV→List AV→Prop
  | [],[]=>True
  | a :: as,b :: bs=>Wk a b∧WkL as bs
  | _,_=>False
theorem Wk.refl (a:AV):Wk a a:=fun _ _ h=>h
theorem Wk.eq {a b:AV} (h:a = b):Wk a b:=h ▸ Wk.refl a
theorem Wk.trans {a b c:AV} (h:Wk a b) (k:Wk b c):Wk a c:=fun g v x=>k g v (h g v x)
theorem Wk.undef (a:AV):Wk a .undef:=fun _ _ _=>trivial
theorem Wk.nils (tok:Tok) (s:Nat):Wk .nils (.slice tok s []):=fun g v h=>by
  simp only [V] at h
  simp only [V]
  exact .inl ⟨.inl h,trivial⟩
theorem Wk.tok (tok:Tok) (s:Nat) (es:List AV):Wk (.slice tok s es) (.slice .none s es):=fun g v h=>by
  simp only [V] at h ⊢
  rcases h with h | ⟨c,o,cap,h1,h2,h3,h4,h5⟩
  · exact .inl ⟨h.1.none,h.2⟩
  · exact .inr ⟨c,o,cap,h1,h2,h3,h4,trivial⟩
theorem WkL.refl:∀ as:List AV,WkL as as
  | []=>trivial
  | a :: as=>⟨Wk.refl a,WkL.refl as⟩
theorem WkL.eq {a b:List AV} (h:a = b):WkL a b:=h ▸ WkL.refl a
theorem WkL.vl {g:Gh}:∀ {as bs:List AV} {vs:List Value},WkL as bs→VL g as vs→VL g bs vs
  | [],[],_,_,h=>h
  | a :: as,b :: bs,_,h,k=>by
    obtain ⟨v,vs,rfl,k1,k2⟩:=k
    exact ⟨v,vs,rfl,h.1 g v k1,WkL.vl h.2 k2⟩
  | [],_ :: _,_,h,_=>h.elim
  | _ :: _,[],_,h,_=>h.elim
theorem Wk.agg {a b:List AV} (h:WkL a b):Wk (.agg a) (.agg b):=fun g v k=>by
  simp only [V] at k ⊢
  obtain ⟨x,h1,h2⟩:=k
  exact ⟨x,h1,h.vl h2⟩
theorem Wk.tuple {a b:List AV} (h:WkL a b):Wk (.tuple a) (.tuple b):=fun g v k=>by
  simp only [V] at k ⊢
  obtain ⟨x,h1,h2⟩:=k
  exact ⟨x,h1,h.vl h2⟩
theorem Wk.pin {a:List AV} (b:List AV):Wk (.pin (a ++ b)) (.pin a):=fun g v k=>by
  simp only [V] at k ⊢
  obtain ⟨c,o,h1,h2⟩:=k
  refine ⟨c,o,h1,fun i x hi=>h2 i x ?_⟩
  rw [List.getElem?_append_left (List.getElem?_eq_some_iff.1 hi).1]; exact hi
theorem WkL.at:∀ {a b:List AV},WkL a b→b.length = a.length∧∀ (i:Nat) x y,a[i]? = some x→b[i]? = some y→Wk x y
  | [],[],_=>⟨rfl,fun i x y h=>by simp at h⟩
  | x :: a,y :: b,h=>by
    obtain ⟨h1,h2⟩:=WkL.at h.2
    refine ⟨by simp [h1],fun i u v hu hv=>?_⟩
    cases i with
    | zero=>simp at hu hv; subst hu; subst hv; exact h.1
    | succ i=>exact h2 i u v (by simpa using hu) (by simpa using hv)
def ObWk:Ob→Ob→Prop
  | .cells wr cs,.cells wr' cs'=>wr = wr'∧WkL cs cs'
  | .buf s n,.buf s' n'=>s = s'∧n = n'
  | _,_=>False
theorem ObWk.rfl':∀ ob:Ob,ObWk ob ob
  | .cells wr cs=>⟨rfl,WkL.refl cs⟩
  | .buf s n=>⟨rfl,rfl⟩
theorem ObWk.refl (ob:Ob):ObWk ob ob:=ObWk.rfl' ob
theorem ObWk.cells {wr:Fl} {a b:List AV} (h:WkL a b):ObWk (.cells wr a) (.cells wr b):=⟨rfl,h⟩
theorem ObWk.buf {s n m:Nat} (h:n = m):ObWk (.buf s n) (.buf s m):=⟨rfl,h⟩
def hwk (H:Heap):Heap→Prop
  | []=>True
  | (b,ob') :: r=>(∃ ob,find H b = some ob∧ObWk ob ob')∧hwk H r
def awk (A:Slots):Slots→Prop
  | []=>True
  | (t,v) :: r=>Wk (getA A t) v∧awk A r
def isExtB (b:Oid):Bool:=match b.root with | .ext _=>true | _=>false
def persB (H H':Heap):Bool:=H.all fun x=>!isExtB x.1 || (find H' x.1).isSome
theorem hwk_get {H:Heap}:∀ {H':Heap},hwk H H'→∀ b ob',find H' b = some ob'→∃ ob,find H b = some ob∧ObWk ob ob'
  | [],_,_,_,h=>by cases h
  | (c,oc) :: r,hw,b,ob',h=>by
    simp only [find] at h
    split at h
    · rename_i e; cases h; subst e; exact hw.1
    · exact hwk_get hw.2 b ob' h
theorem awk_get {A:Slots}:∀ {A':Slots},awk A A'→∀ t,Wk (getA A t) (getA A' t)
  | [],_,t=>Wk.undef _
  | (c,v) :: r,hw,t=>by
    show Wk (getA A t) (getA ((c,v) :: r) t)
    simp only [getA,find]
    split
    · rename_i e; subst e; exact hw.1
    · exact awk_get hw.2 t
theorem isExtB_iff (b:Oid):isExtB b = true ↔ IsExt b:=by
  unfold isExtB IsExt
  cases b.root <;> simp
theorem persB_pers {H H':Heap} (h:persB H H' = true):Pers H H':=by
  intro e he hs
  cases hf:find H e with
  | none=>rw [hf] at hs; cases hs
  | some ob=>
    have:=List.all_eq_true.1 h _ (find_mem hf)
    simp only [Bool.or_eq_true,Bool.not_eq_true'] at this
    rcases this with h1 | h1
    · rw [(isExtB_iff e).2 he] at h1; cases h1
    · exact h1
theorem WC.weak {g:Gh} {H H':Heap} {w:World} (h:WC g H w) (ex:∀ b ob',find H' b = some ob'→∃ ob,find H b = some ob∧ObWk ob ob') :
    WC (g.heap H') H' w∧Keep (fun _=>False) g (g.heap H')∧Ctx w g H (g.heap H') H' w:=by
  have htip:∀ b s n,tipOf H' b = some (s,n)→tipOf H b = some (s,n):=by
    intro b s n ht
    unfold tipOf at ht ⊢
    split at ht
    · rename_i s' n' hf
      cases ht
      obtain ⟨ob,h1,h2⟩:=ex b _ hf
      cases ob with
      | buf s2 n2=>obtain ⟨rfl,rfl⟩:=h2; rw [h1]
      | cells wr cs=>exact h2.elim
    · cases ht
  have hk:Keep (fun _=>False) g (g.heap H'):=by
    refine ⟨fun _ _ _ h=>h,fun _ _ _ h=>h,fun b _=>⟨fun s n hn=>?_⟩⟩
    exact ⟨s,n,by rw [h.tip]; exact htip b s n hn,Nat.le_refl _,fun _=>rfl⟩
  have hblk:∀ b ob ob',ObWk ob ob'→blockOf (g.heap H') b ob' = blockOf g b ob∧ownOf (g.heap H') b ob' = ownOf g b ob:=by
    intro b ob ob' ho
    cases ob with
    | cells wr cs=>cases ob' with
      | cells wr' cs'=>obtain ⟨rfl,_⟩:=ho; cases wr <;> exact ⟨rfl,rfl⟩
      | buf _ _=>exact ho.elim
    | buf s n=>cases ob' with
      | buf s' n'=>exact ⟨rfl,rfl⟩
      | cells _ _=>exact ho.elim
  refine ⟨⟨fun _=>rfl,fun c o a ha=>?_,fun b ob' hb=>?_,fun b b' o1 o2 c h1 h2 h3 h4=>?_⟩,hk,⟨Nat.le_refl _,fun _ _ _=>⟨rfl,fun _=>rfl⟩,fun _ _ _ h=>h,fun c hl'=>?_,fun c hl'=>?_,rfl,rfl,rfl⟩⟩
  · exact hk.pinOk (h.pin c o a ha) rfl
  · obtain ⟨ob,h1,h2⟩:=ex b ob' hb
    have h0:=h.objs b ob h1
    cases ob with
    | cells wr cs=>cases ob' with
      | cells wr' cs'=>
        obtain ⟨rfl,h3⟩:=h2
        obtain ⟨c,k1,k2,k4⟩:=h0
        obtain ⟨l1,l2⟩:=WkL.at h3
        exact ⟨c,k1,(hk.body (OffL.none _) rfl k2).weak l1 fun g1 i a a' v ha ha' hv=>l2 i a a' ha ha' g1 v hv,k4⟩
      | buf _ _=>exact h2.elim
    | buf s n=>cases ob' with
      | buf s' n'=>obtain ⟨rfl,rfl⟩:=h2; exact h0
      | cells _ _=>exact h2.elim
  · obtain ⟨q1,k1,l1⟩:=ex b o1 h1
    obtain ⟨q2,k2,l2⟩:=ex b' o2 h2
    rw [(hblk _ _ _ l1).1] at h3
    rw [(hblk _ _ _ l2).1] at h4
    exact h.inj b b' q1 q2 c k1 k2 h3 h4
  · obtain ⟨b,ob,h1,h2⟩:=hl'
    obtain ⟨q,k1,l1⟩:=ex b ob h1
    exact .inl ⟨b,q,k1,by rw [(hblk _ _ _ l1).2] at h2; exact h2⟩
  · obtain ⟨b,ob,h1,h2⟩:=hl'
    obtain ⟨q,k1,l1⟩:=ex b ob h1
    exact .inl ⟨b,q,k1,by rw [(hblk _ _ _ l1).1] at h2; exact h2⟩
structure SWf (S S1:St):Prop where
  a:∀ t,Wk (getA S.A t) (getA S1.A t)
  h:∀ b ob',find S1.H b = some ob'→∃ ob,find S.H b = some ob∧ObWk ob ob'
  p:Pers S.H S1.H
theorem Keep.wide {g g':Gh} (h:Keep (fun _=>False) g g'):Keep (fun b=>¬ IsExt b) g g':=h.wider fun _ h=>h.elim
theorem stWeakF {gl:List (Nat × List AV)} {n:Nat} {g:Gh} {S S1:St} {a:Act} {w:World} (h:StOk gl n g S a w) (hs:SWf S S1) :
    ∃ g1,StOk gl n g1 S1 a w∧Ctx w g S.H g1 S1.H w∧Keep (fun b=>¬ IsExt b) g g1∧Pers S.H S1.H:=by
  obtain ⟨l1,l2,l3⟩:=h.wc.weak hs.h
  exact ⟨_,⟨l1,fun t=>hs.a t _ _ (l2.V (Off.none _) (h.vals t)),h.size,h.defers,fun x hx=>(h.glob x hx).mono l2.gam⟩,l3,Keep.wide l2,hs.p⟩
theorem stepToF {gl:List (Nat × List AV)} {n:Nat} {g:Gh} {S0 S S1:St} {a:Act} {w0 w:World} (h:StepTo gl n g S0 w0 S a w) (hs:SWf S S1):StepTo gl n g S0 w0 S1 a w:=by
  obtain ⟨g1,k1,k2,k3,k4⟩:=h
  obtain ⟨g2,l1,l2,l3,l4⟩:=stWeakF k1 hs
  exact ⟨g2,l1,k2.trans l2,k3.trans l3,k4.trans l4⟩
theorem WkL.trans:∀ {a b c:List AV},WkL a b→WkL b c→WkL a c
  | [],[],[],_,_=>trivial
  | _ :: _,_ :: _,_ :: _,h,k=>⟨h.1.trans k.1,WkL.trans h.2 k.2⟩
theorem ObWk.trans {a b c:Ob} (h:ObWk a b) (k:ObWk b c):ObWk a c:=by
  cases a <;> cases b <;> cases c <;> first | exact h.elim | exact k.elim | skip
  · exact ⟨h.1.trans k.1,WkL.trans h.2 k.2⟩
  · exact ⟨h.1.trans k.1,h.2.trans k.2⟩
theorem SWf.trans {S S1 S2:St} (h:SWf S S1) (k:SWf S1 S2):SWf S S2 :=
  ⟨fun t=>(h.a t).trans (k.a t),fun b ob' hb=>by
    obtain ⟨o1,h1,h2⟩:=k.h b ob' hb
    obtain ⟨o2,h3,h4⟩:=h.h b o1 h1
    exact ⟨o2,h3,ObWk.trans h4 h2⟩,h.p.trans k.p⟩
end Go.Proofs.YtjojaiomgdjhfaaGreatDoor.AE
namespace Go.Proofs.YtjojaiomgdjhfaaGreatDoor.AE
open Go
theorem StepTo.refl {gl:List (Nat × List AV)} {n:Nat} {g:Gh} {S:St} {a:Act} {w:World} (h:StOk gl n g S a w):StepTo gl n g S w S a w :=
  ⟨g,h,Ctx.refl _ _ _,Keep.refl _ _,fun _ _ h=>h⟩
theorem StepTo.congr {gl:List (Nat × List AV)} {n:Nat} {g:Gh} {S S1 S2:St} {a':Act} {w w':World} (h:StepTo gl n g S w S1 a' w') (hA:∀ t,getA S2.A t = getA S1.A t) (hH:∀ b,find S2.H b = find S1.H b) :
    StepTo gl n g S w S2 a' w':=by
  obtain ⟨g',k1,k2,k3,k4⟩:=h
  exact ⟨g',⟨k1.wc.congr hH,fun t=>by rw [hA]; exact k1.vals t,k1.size,k1.defers,k1.glob⟩,k2.congr hH,k3,fun e he h=>by rw [hH]; exact k4 e he h⟩
theorem evWanted_congr {ops:Array Oper} {A A':Slots} {o:Oper} (h:∀ t ∈ namesOf ops o,getA A t = getA A' t):evWanted ops A o = evWanted ops A' o:=by
  unfold evWanted
  split
  · rfl
  · rename_i j want hg
    split
    · rename_i oj hoj
      split
      · rename_i t ht
        rw [h t (by unfold namesOf; rw [hg]; simp [hoj,ht])]
      · rfl
    · rfl
theorem evalA_congr {gl:List (Nat × List AV)} {ops:Array Oper} {A A':Slots} {o:Oper} (h:∀ t ∈ namesOf ops o,getA A t = getA A' t):∀ x ∈ o.op.operands.toList,evalA gl A x = evalA gl A' x:=by
  intro x hx
  cases x with
  | tmp t=>exact h t (by unfold namesOf; exact List.mem_append_left _ (List.mem_filterMap.2 ⟨.tmp t,hx,rfl⟩))
  | _=>rfl
theorem evStep0_good {P:Program} {tb:List TI} {cfg:Cfg} {call:CallF} (hP:TbOk P tb) {gl:List (Nat × List AV)} (hcall:CallOk P gl call) (hent:Enters P call) {n:Nat} {g:Gh} {S T S':St} {a:Act} {w:World}
    (hS:StOk gl n g S a w) {fid:FuncId} {ops:Array Oper} {o:Oper} {r:OpR} (h:evStep0 tb cfg gl call fid ops T o = some r) (hA:∀ t ∈ namesOf ops o,Wk (getA S.A t) (getA T.A t)) (hag:Agree r T.H S.H)
    (hfr:r.fresh = true→∃ d,o.dst = some d∧ClearH d S.H∧∀ t,t ≠ d→Off (fun b=>rooted d b = true) (getA S.A t)) (hs:putO n o r S = some S')
    (next:Act→World→Prop) (Q:Exit→Act→World→Prop) (hn:∀ a' w',StepTo gl n g S w S' a' w'→next a' w') :
    (Region.wanted o (yielded ops a.tmps) = true→o.wp P a w next Q)∧(Region.wanted o (yielded ops a.tmps) = false→next (a.put o.dst undef) w):=by
  have hAN:∀ t ∈ namesOf ops o,getA T.A t = getA ((namesOf ops o).map fun t=>(t,getA T.A t)) t:=by
    intro t ht
    generalize namesOf ops o = l at ht
    induction l with
    | nil=>cases ht
    | cons x r ih=>
      simp only [List.map_cons,getA,find]
      split
      · rename_i e; subst e; rfl
      · rename_i e
        rcases List.mem_cons.1 ht with rfl | ht
        · exact (e rfl).elim
        · exact ih ht
  have hVN:∀ t,V g (getA ((namesOf ops o).map fun t=>(t,getA T.A t)) t) (a.tmps.getD t undef):=by
    intro t
    by_cases ht:t ∈ namesOf ops o
    · rw [← hAN t ht]; exact hA t ht _ _ (hS.vals t)
    · have:getA ((namesOf ops o).map fun t=>(t,getA T.A t)) t = .undef:=by
        generalize namesOf ops o = l at ht
        induction l with
        | nil=>rfl
        | cons x r ih=>
          simp only [List.mem_cons,not_or] at ht
          simp only [List.map_cons,getA,find]
          rw [if_neg (fun e=>ht.1 e.symm)]
          exact ih ht.2
      rw [this]; trivial
  have hSN:StOk gl n g ⟨(namesOf ops o).map fun t=>(t,getA T.A t),S.H⟩ a w:=⟨hS.wc,hVN,hS.size,hS.defers,hS.glob⟩
  unfold putO at hs
  cases hsd:setDst n o.dst r.v S.A with
  | none=>rw [hsd] at hs; cases hs
  | some A=>
    rw [hsd] at hs
    cases hs
    unfold evStep0 at h
    rw [evWanted_congr hAN] at h
    split at h
    · cases h
    · rename_i hw0
      have hwt:=wanted_spec hVN _ hw0
      refine ⟨fun h1=>by (rw [hwt] at h1; cases h1),fun _=>?_⟩
      cases h
      exact hn _ _ ⟨g,⟨hS.wc,vals_put hS.size hsd ⟨#[],rfl,rfl⟩ (fun t _=>hS.vals t),by rw [put_size]; exact hS.size,by rw [put_defers]; exact hS.defers,hS.glob⟩,Ctx.refl _ _ _,Keep.refl _ _,fun _ _ h=>h⟩
    · rename_i hw0
      have hwt:=wanted_spec hVN _ hw0
      refine ⟨fun _=>?_,fun h1=>by (rw [hwt] at h1; cases h1)⟩
      rw [evOp_congr (evalA_congr hAN)] at h
      refine evOp_good hP hcall hent hS.glob hS.wc (fun x=>hSN.eval x) h hag (fun hf=>by obtain ⟨d,h1,h2,_⟩:=hfr hf; exact ⟨d,h1,h2⟩) next Q fun v w' g' st=>?_
      have hFx:∀ b,Fr r o b→¬ IsExt b:=fun b hF=>by
        obtain ⟨_,d,_,h2⟩:=hF
        exact rooted_notExt h2
      refine hn _ _ ⟨g',⟨st.wc,vals_put hS.size hsd st.val (fun t ht=>st.keep.V ?_ (hS.vals t)),by rw [put_size]; exact hS.size,by rw [put_defers]; exact hS.defers,fun x hx=>(hS.glob x hx).mono st.keep.gam⟩,
        st.ctx,st.keep.wider hFx,pers_insAll _ _⟩
      by_cases hfrs:r.fresh = true
      · obtain ⟨d,h1,h2,h3⟩:=hfr hfrs
        have hne:t ≠ d:=fun e=>ht (by rw [h1,e])
        have hoff:=h3 t hne
        refine ⟨fun b hb hF=>hoff.1 b hb ?_,fun b hb hF=>hoff.2 b hb ?_⟩ <;> (obtain ⟨_,d',k1,k2⟩:=hF; rw [h1] at k1; cases k1; exact k2)
      · exact ⟨fun b _ hF=>hfrs hF.1,fun b _ hF=>hfrs hF.1⟩
theorem StepTo.trans {gl:List (Nat × List AV)} {n:Nat} {g g1:Gh} {S S1 S2:St} {a2:Act} {w w1 w2:World}
    (h1:Ctx w g S.H g1 S1.H w1) (h2:Keep (fun b=>¬ IsExt b) g g1) (h3:Pers S.H S1.H) (h:StepTo gl n g1 S1 w1 S2 a2 w2):StepTo gl n g S w S2 a2 w2:=by
  obtain ⟨g',k1,k2,k3,k4⟩:=h
  exact ⟨g',k1,h1.trans k2,h2.trans k3,h3.trans k4⟩
theorem Before.mem {ops:Array Oper} {D:Nat→Bool} (hD:∀ j o e,D j = true→ops[j]? = some o→e ∈ o.after→Region.binds .any e = true→D e.on = true) {j i:Nat} (h:Before ops j i)
    (hj:∀ o e,ops[j]? = some o→e ∈ o.after→Region.binds .any e = true→D e.on = true):D i = true:=by
  induction h with
  | edge ho he hb=>exact hj _ _ ho he hb
  | step ho he hb _ ih=>exact ih fun o e' h1 h2 h3=>hD _ o e' (hj _ _ ho he hb) h1 h2 h3
structure Pair (ops:Array Oper) (R:List OpR) (i j:Nat) (x y:Oper) (p q:OpR):Prop where
  off:offFresh y q p = true
  or:Before ops j i ∨ (apartB ops x y = true∧apartR p q = true∧offFresh x p q = true)
theorem pairOk_spec {ops:Array Oper} {R:List OpR} {i j:Nat} (h:pairOk ops (befores ops.toList []) R i j = true):∃ x y p q,ops[i]? = some x∧ops[j]? = some y∧R[i]? = some p∧R[j]? = some q∧Pair ops R i j x y p q:=by
  unfold pairOk at h
  split at h
  · rename_i x y p q h1 h2 h3 h4
    simp only [Bool.and_eq_true,Bool.or_eq_true] at h
    refine ⟨x,y,p,q,h1,h2,h3,h4,h.1,?_⟩
    rcases h.2 with h5 | ⟨⟨h5,h6⟩,h7⟩
    · left
      refine befores_spec ops ops.toList [] (fun i=>by simp) (fun j i hi=>by simp at hi) j i ?_
      simpa using h5
    · exact .inr ⟨h5,h6,h7⟩
  · cases h
theorem apartB_spec {ops:Array Oper} {x y:Oper} (h:apartB ops x y = true):(∀ d,x.dst = some d→d ∉ namesOf ops y∧y.dst ≠ some d)∧∀ e,y.dst = some e→e ∉ namesOf ops x:=by
  unfold apartB at h
  split at h <;> simp_all
  exact fun e=>h.2 e.symm
theorem offRoots_spec {ws:List (Oid × Ob)} {bs:List Oid} (h:offRoots ws bs = true) {b u:Oid} (hu:u ∈ bs) (hb:u.root = b.root):find ws b = none:=by
  simp only [offRoots,List.all_eq_true,bne_iff_ne,ne_eq] at h
  exact find_none_of_roots fun w hw e=>h w hw u hu (by rw [hb,e])
theorem offFresh_spec {x:Oper} {p q:OpR} (h:offFresh x p q = true) (hp:p.fresh = true) {d:Nat} (hd:x.dst = some d) :
    Off (fun b=>rooted d b = true) q.v∧∀ b ob,find q.ws b = some ob→rooted d b = false∧∀ y ∈ ob.refs ++ ob.toks,rooted d y = false:=by
  unfold offFresh at h
  rw [hp,hd] at h
  simp only [Bool.not_true,Bool.false_or,Bool.and_eq_true,Bool.not_eq_true',List.any_eq_false,List.all_eq_true] at h
  obtain ⟨⟨h1,h2⟩,h3⟩:=h
  refine ⟨⟨fun b hb=>h1 b hb,fun b hb=>h2 b hb⟩,fun b ob hf=>?_⟩
  have:=h3 _ (find_mem hf)
  refine ⟨this.1.1,fun y hy=>?_⟩
  rcases List.mem_append.1 hy with hy | hy
  · simpa using this.1.2 y hy
  · simpa using this.2 y hy
section
variable {P:Program} {tb:List TI} {cfg:Cfg} {call:CallF} {gl:List (Nat × List AV)} {n:Nat} {fid:FuncId} {ops:Array Oper} {S0:St} {R:List OpR}
theorem dstAt_of {i:Nat} {o:Oper} (h:ops[i]? = some o):dstAt ops i = o.dst:=by simp [dstAt,h]
structure RWk (dst:Option Nat) (H:Heap) (r0 r:OpR):Prop where
  v:Wk r0.v r.v
  rd:r.rd = r0.rd
  fr:r.fresh = r0.fresh
  got:∀ b ob',find r.ws b = some ob'→∃ ob,ObWk ob ob'∧(find r0.ws b = some ob ∨ (find r0.ws b = none∧find H b = some ob∧∃ u ∈ r0.rd,u.root = b.root))
  gone:∀ b,find r.ws b = none→find r0.ws b = none ∨ (∃ ob0 ob,find r0.ws b = some ob0∧find H b = some ob∧ObWk ob0 ob∧∃ u ∈ r0.rd,u.root = b.root) ∨ (find H b = none∧¬ IsExt b∧((∃ u ∈ r0.rd,u.root = b.root) ∨ (r0.fresh = true∧∃ d,dst = some d∧rooted d b = true)))
theorem RWk.refl (dst:Option Nat) (H:Heap) (r:OpR):RWk dst H r r:=⟨Wk.refl _,rfl,rfl,fun b ob' hb=>⟨ob',ObWk.rfl' _,.inl hb⟩,fun b hb=>.inl hb⟩
def StepX (P:Program) (tb:List TI) (gl:List (Nat × List AV)) (fid:FuncId) (ops:Array Oper) (T:St) (o:Oper) (r:OpR):Prop :=
  ∃ cfg call T' r0,CallOk P gl call∧Enters P call∧(∀ t ∈ namesOf ops o,Wk (getA T.A t) (getA T'.A t))∧(∀ b,find T'.H b = find T.H b)∧evStep0 tb cfg gl call fid ops T' o = some r0∧RWk o.dst T'.H r0 r
theorem StepX.of {P:Program} {tb:List TI} {gl:List (Nat × List AV)} {fid:FuncId} {ops:Array Oper} {S:St} {o:Oper} {r:OpR} {cfg:Cfg} {call:CallF} (hcall:CallOk P gl call) (hent:Enters P call) (h:evStep0 tb cfg gl call fid ops S o = some r):StepX P tb gl fid ops S o r :=
  ⟨cfg,call,S,r,hcall,hent,fun _ _=>Wk.refl _,fun _=>rfl,h,RWk.refl _ _ _⟩
theorem draw_op (hP:TbOk P tb)
    (htr:∀ j o,ops[j]? = some o→∃ r,R[j]? = some r∧StepX P tb gl fid ops (stAt ops R (fun _=>true) S0 j) o r∧∀ d,o.dst = some d→d < n)
    (hord:∀ j,j < ops.size→freshOk S0 ops R j = true∧∀ i,i < j→pairOk ops (befores ops.toList []) R i j = true)
    {D:Nat→Bool} (hcl:∀ j o e,D j = true→ops[j]? = some o→e ∈ o.after→Region.binds .any e = true→D e.on = true) {j:Nat} {o:Oper} (ho:ops[j]? = some o) (hDj:D j = false)
    (hrdy:∀ e ∈ o.after,Region.binds .any e = true→D e.on = true) {g:Gh} {a:Act} {w:World} (hS:StOk gl n g (stAt ops R D S0 ops.size) a w) (next:Act→World→Prop) (Q:Exit→Act→World→Prop)
    (hn:∀ a' w',StepTo gl n g (stAt ops R D S0 ops.size) w (stAt ops R (fun i=>D i || decide (i = j)) S0 ops.size) a' w'→next a' w') :
    (Region.wanted o (yielded ops a.tmps) = true→o.wp P a w next Q)∧(Region.wanted o (yielded ops a.tmps) = false→next (a.put o.dst undef) w):=by
  have hj:j < ops.size:=(Array.getElem?_eq_some_iff.1 ho).1
  obtain ⟨r,hr,⟨cfg,call,T,r0,hcall,hent,hTA,hTH,hev,hwk⟩,hdn⟩:=htr j o ho
  -- those ahead in the text
  have hlo:∀ i,i < j→∃ x p,ops[i]? = some x∧R[i]? = some p∧offFresh o r p = true∧(D i = true ∨ (apartB ops x o = true∧apartR p r = true∧offFresh x p r = true)):=by
    intro i hi
    obtain ⟨x,y,p,q,h1,h2,h3,h4,h5⟩:=pairOk_spec ((hord j hj).2 i hi)
    rw [ho] at h2; cases h2
    rw [hr] at h4; cases h4
    exact ⟨x,p,h1,h3,h5.off,h5.or.imp (fun hb=>hb.mem hcl fun o' e k1 k2 k3=>by rw [ho] at k1; cases k1; exact hrdy e k2 k3) id⟩
  have hhi:∀ i,j < i→i < ops.size→D i = true→∃ x p,ops[i]? = some x∧R[i]? = some p∧apartB ops o x = true∧apartR r p = true∧offFresh o r p = true:=by
    intro i hi him hDi
    obtain ⟨x,y,p,q,h1,h2,h3,h4,h5⟩:=pairOk_spec ((hord i him).2 j hi)
    rw [ho] at h1; cases h1
    rw [hr] at h3; cases h3
    refine ⟨y,q,h2,h4,?_⟩
    rcases h5.or with hb | hb
    · have:=hb.mem hcl fun o' e k1 k2 k3=>hcl i o' e hDi k1 k2 k3
      rw [hDj] at this; cases this
    · exact hb
  -- where the done ones and those ahead in the text differ
  have hdiff:∀ i,i < ops.size→D i ≠ decide (i < j)→i ≠ j∧((i < j∧D i = false) ∨ (j < i∧D i = true)):=by
    intro i him hne
    by_cases e:i = j
    · subst e; simp [hDj] at hne
    · refine ⟨e,?_⟩
      by_cases h:i < j
      · left; simp [h] at hne; exact ⟨h,hne⟩
      · right; simp [h] at hne; exact ⟨by omega,hne⟩
  have hstopA:slotsAt ops R (fun i=>decide (i < j)) S0.A ops.size = slotsAt ops R (fun _=>true) S0.A j:=by
    have:=slots_stop ops R S0.A j (ops.size - j)
    rwa [show j + (ops.size - j) = ops.size by omega] at this
  have hstopH:heapAt R (fun i=>decide (i < j)) S0.H ops.size = heapAt R (fun _=>true) S0.H j:=by
    have:=heap_stop R S0.H j (ops.size - j)
    rwa [show j + (ops.size - j) = ops.size by omega] at this
  have hA:∀ t ∈ namesOf ops o,getA (stAt ops R D S0 ops.size).A t = getA (stAt ops R (fun _=>true) S0 j).A t:=by
    intro t ht
    show getA (slotsAt ops R D S0.A ops.size) t = getA (slotsAt ops R (fun _=>true) S0.A j) t
    rw [← hstopA]
    refine slots_congr ops R S0.A t ops.size fun i him hne=>?_
    obtain ⟨_,⟨h1,h2⟩ | ⟨h1,h2⟩⟩:=hdiff i him hne
    · obtain ⟨x,p,k1,k2,_,k3 | ⟨k3,_,_⟩⟩:=hlo i h1
      · rw [h2] at k3; cases k3
      · rw [dstAt_of k1]; intro hd; exact ((apartB_spec k3).1 t hd).1 ht
    · obtain ⟨x,p,k1,k2,k3,_,_⟩:=hhi i h1 him h2
      rw [dstAt_of k1]; intro hd; exact (apartB_spec k3).2 t hd ht
  have hag:Agree r (stAt ops R (fun _=>true) S0 j).H (stAt ops R D S0 ops.size).H:=by
    rintro b ⟨u,hu,hub⟩
    show find (heapAt R (fun _=>true) S0.H j) b = find (heapAt R D S0.H ops.size) b
    rw [← hstopH]
    refine (heap_congr R S0.H b ops.size fun i him hne=>?_).symm
    obtain ⟨_,⟨h1,h2⟩ | ⟨h1,h2⟩⟩:=hdiff i him hne
    · obtain ⟨x,p,k1,k2,_,k3 | ⟨_,k3,_⟩⟩:=hlo i h1
      · rw [h2] at k3; cases k3
      · intro r' hr'; rw [k2] at hr'; cases hr'
        simp only [apartR,Bool.and_eq_true] at k3
        exact offRoots_spec k3.1.1 hu hub
    · obtain ⟨x,p,k1,k2,_,k3,_⟩:=hhi i h1 him h2
      intro r' hr'; rw [k2] at hr'; cases hr'
      simp only [apartR,Bool.and_eq_true] at k3
      exact offRoots_spec k3.2 hu hub
  -- what is done speaks of no new object
  have hoff:r.fresh = true→∀ d,o.dst = some d→∀ i p,i < ops.size→D i = true→R[i]? = some p→offFresh o r p = true:=by
    intro _ d _ i p him hDi hp
    by_cases e:i = j
    · subst e; rw [hDj] at hDi; cases hDi
    · by_cases h:i < j
      · obtain ⟨x,p',k1,k2,k3,_⟩:=hlo i h
        rw [hp] at k2; cases k2; exact k3
      · obtain ⟨x,p',k1,k2,_,_,k3⟩:=hhi i (by omega) him hDi
        rw [hp] at k2; cases k2; exact k3
  have hfr:r.fresh = true→∃ d,o.dst = some d∧ClearH d (stAt ops R D S0 ops.size).H∧∀ t,t ≠ d→Off (fun b=>rooted d b = true) (getA (stAt ops R D S0 ops.size).A t):=by
    intro hf
    have hfo:=(hord j hj).1
    unfold freshOk at hfo
    rw [ho,hr] at hfo
    simp only [hf,Bool.not_true,Bool.false_or] at hfo
    split at hfo
    · rename_i d hd
      obtain ⟨c1,c2⟩:=clear_spec hfo
      refine ⟨d,hd,⟨fun b hb=>?_,fun b ob hfb y hy=>?_⟩,fun t ht=>?_⟩
      · cases hfb:find (stAt ops R D S0 ops.size).H b with
        | none=>rfl
        | some ob=>
          rcases heap_from R S0.H ops.size hfb with h | ⟨i,p,h1,h2,h3,h4⟩
          · rw [c1.1 b hb] at h; cases h
          · have:=((offFresh_spec (hoff hf d hd i p h1 h2 h3) hf hd).2 b ob h4).1
            rw [hb] at this; cases this
      · rcases heap_from R S0.H ops.size hfb with h | ⟨i,p,h1,h2,h3,h4⟩
        · exact c1.2 b ob h y hy
        · exact ((offFresh_spec (hoff hf d hd i p h1 h2 h3) hf hd).2 b ob h4).2 y hy
      · rcases slots_from ops R (D:=D) S0.A t ops.size with h | ⟨i,p,h1,h2,h3,h4,h5⟩
        · show Off _ (getA (slotsAt ops R D S0.A ops.size) t)
          rw [h]; exact c2 t ht
        · show Off _ (getA (slotsAt ops R D S0.A ops.size) t)
          rw [h5]; exact (offFresh_spec (hoff hf d hd i p h1 h2 h4) hf hd).1
    · cases hfo
  obtain ⟨S',hs⟩:∃ S',putO n o r (stAt ops R D S0 ops.size) = some S':=by
    unfold putO setDst
    cases hd:o.dst with
    | none=>exact ⟨_,rfl⟩
    | some d=>simp only [if_pos (hdn d hd)]; exact ⟨_,rfl⟩
  obtain ⟨S1',hs1⟩:∃ S1',putO n o r0 (stAt ops R D S0 ops.size) = some S1':=by
    unfold putO setDst
    cases hd:o.dst with
    | none=>exact ⟨_,rfl⟩
    | some d=>simp only [if_pos (hdn d hd)]; exact ⟨_,rfl⟩
  have hag0:Agree r0 T.H (stAt ops R D S0 ops.size).H:=fun b hb=>by rw [hTH b]; exact hag b (by rw [hwk.rd]; exact hb)
  have hsw:SWf S1' S':=by
    unfold putO at hs hs1
    cases hd:setDst n o.dst r.v (stAt ops R D S0 ops.size).A with
    | none=>rw [hd] at hs; cases hs
    | some A1=>
      cases hd0:setDst n o.dst r0.v (stAt ops R D S0 ops.size).A with
      | none=>rw [hd0] at hs1; cases hs1
      | some A0=>
        rw [hd] at hs; rw [hd0] at hs1
        cases hs; cases hs1
        refine ⟨fun t=>?_,fun b ob' hb=>?_,fun e he hse=>?_⟩
        · simp only
          unfold setDst at hd hd0
          cases hod:o.dst with
          | none=>rw [hod] at hd hd0; cases hd; cases hd0; exact Wk.refl _
          | some d=>
            rw [hod] at hd hd0
            simp only [if_pos (hdn d hod)] at hd hd0
            cases hd; cases hd0
            rw [getA_put,getA_put]
            split
            · exact hwk.v
            · exact Wk.refl _
        · simp only [find_insAll] at hb ⊢
          cases hf:find r.ws b with
          | some ob=>
            rw [hf] at hb; simp only at hb; cases hb
            obtain ⟨ob0,h1,h2 | ⟨h2,h3,h4⟩⟩:=hwk.got b _ hf
            · exact ⟨ob0,by rw [h2],h1⟩
            · exact ⟨ob0,by rw [h2]; simp only; rw [← hag0 b h4]; exact h3,h1⟩
          | none=>
            rw [hf] at hb; simp only at hb
            rcases hwk.gone b hf with h2 | ⟨ob0,ob1,h2,h3,h5,h4⟩ | ⟨h2,_,h4 | ⟨h4,d,h5,h6⟩⟩
            · exact ⟨ob',by rw [h2]; exact hb,ObWk.rfl' _⟩
            · rw [← hag0 b h4,h3] at hb; cases hb
              exact ⟨ob0,by rw [h2],h5⟩
            · rw [← hag0 b h4,h2] at hb; cases hb
            · obtain ⟨d',k1,k2,_⟩:=hfr (by rw [hwk.fr]; exact h4)
              rw [h5] at k1; cases k1
              rw [k2.1 b h6] at hb; cases hb
        · simp only [find_insAll] at hse ⊢
          cases hf:find r.ws e with
          | some ob=>rfl
          | none=>
            simp only
            rcases hwk.gone e hf with h2 | ⟨ob0,ob1,h2,h3,_,h4⟩ | ⟨_,h2,_⟩
            · rw [h2] at hse; exact hse
            · rw [← hag0 e h4,h3]; rfl
            · exact (h2 he).elim
  refine evStep0_good hP hcall hent hS hev (fun t ht=>by rw [hA t ht]; exact hTA t ht) hag0 (fun hf=>hfr (by rw [hwk.fr]; exact hf)) hs1 next Q fun a' w' st=>hn a' w' ((stepToF st hsw).congr (fun t=>?_) fun b=>?_)
  · -- slots
    show getA (slotsAt ops R (fun i=>D i || decide (i = j)) S0.A ops.size) t = _
    have hoth:dstAt ops j ≠ some t→getA (slotsAt ops R (fun i=>D i || decide (i = j)) S0.A ops.size) t = getA (slotsAt ops R D S0.A ops.size) t:=fun hne=>
      slots_congr ops R S0.A t ops.size fun i him hd=>by
        by_cases e:i = j
        · subst e; exact hne
        · simp [e] at hd
    unfold putO setDst at hs
    cases hd:o.dst with
    | none=>
      rw [hd] at hs
      cases hs
      exact hoth (by rw [dstAt_of ho,hd]; simp)
    | some d=>
      rw [hd] at hs
      simp only [if_pos (hdn d hd)] at hs
      cases hs
      simp only [getA_put]
      by_cases e:d = t
      · subst e
        rw [if_pos rfl]
        refine slots_last ops R S0.A (by rw [dstAt_of ho,hd]) hr (by simp) ops.size hj fun i h1 h2 h3=>?_
        have h4:D i = true:=by simpa [show i ≠ j by omega] using h3
        obtain ⟨x,p,k1,k2,k3,_,_⟩:=hhi i h1 h2 h4
        rw [dstAt_of k1]
        exact ((apartB_spec k3).1 d hd).2
      · rw [if_neg e]
        exact hoth (by rw [dstAt_of ho,hd]; simp [e])
  · -- heap
    show find (heapAt R (fun i=>D i || decide (i = j)) S0.H ops.size) b = _
    have hSH:S'.H = insAll (heapAt R D S0.H ops.size) r.ws:=by
      unfold putO at hs
      split at hs
      · cases hs; rfl
      · cases hs
    rw [hSH,find_insAll]
    cases hf:find r.ws b with
    | none=>
      refine heap_congr R S0.H b ops.size fun i him hd=>?_
      by_cases e:i = j
      · subst e; intro r' hr'; rw [hr] at hr'; cases hr'; exact hf
      · simp [e] at hd
    | some ob=>
      refine heap_last R S0.H hr hf (by simp) ops.size hj fun i h1 h2 h3=>?_
      have h4:D i = true:=by simpa [show i ≠ j by omega] using h3
      obtain ⟨x,p,k1,k2,_,k3,_⟩:=hhi i h1 h2 h4
      intro r' hr'; rw [k2] at hr'; cases hr'
      simp only [apartR,Bool.and_eq_true] at k3
      cases hf2:find p.ws b with
      | none=>rfl
      | some ob2=>
        have:=offRoots_spec k3.1.2 (b:=b) (u:=b) (List.mem_map.2 ⟨_,find_mem hf2,rfl⟩) rfl
        rw [hf] at this; cases this
theorem countP_lt {p q:Nat→Bool}:∀ (l:List Nat),(∀ i ∈ l,q i = true→p i = true)→(∃ j ∈ l,p j = true∧q j = false)→l.countP q < l.countP p
  | [],_,⟨j,hj,_⟩=>by cases hj
  | x :: l,h,⟨j,hj,h1,h2⟩=>by
    have hle:l.countP q ≤ l.countP p:=List.countP_mono_left fun i hi=>h i (List.mem_cons_of_mem _ hi)
    rw [List.countP_cons,List.countP_cons]
    rcases List.mem_cons.1 hj with rfl | hj
    · rw [h1,h2]; simp; omega
    · have ih:=countP_lt l (fun i hi=>h i (List.mem_cons_of_mem _ hi)) ⟨j,hj,h1,h2⟩
      have hx:=h x (List.mem_cons_self)
      cases hq:q x
      · simp only [Bool.false_eq_true,if_false]; omega
      · rw [hx hq]; simp only [if_true]; omega
theorem draw_any (hP:TbOk P tb)
    (htr:∀ j o,ops[j]? = some o→∃ r,R[j]? = some r∧StepX P tb gl fid ops (stAt ops R (fun _=>true) S0 j) o r∧∀ d,o.dst = some d→d < n)
    (hord:∀ j,j < ops.size→freshOk S0 ops R j = true∧∀ i,i < j→pairOk ops (befores ops.toList []) R i j = true) (hedge:∀ j o,ops[j]? = some o→∀ e ∈ o.after,Region.binds .any e = true→e.on < j)
    {g0:Gh} {w0:World} {Q:Exit→Act→World→Prop} (hQ:∀ a' w',StepTo gl n g0 S0 w0 (stAt ops R (fun _=>true) S0 ops.size) a' w'→Q .normal a' w') :
    ∀ (fuel:Nat) (listed:Array Bool) (a:Act) (w:World),listed.size = ops.size→(List.range ops.size).countP (fun i=>!listed.getD i false) ≤ fuel →
      (∀ j o e,listed.getD j false = true→ops[j]? = some o→e ∈ o.after→Region.binds .any e = true→listed.getD e.on false = true) →
      StepTo gl n g0 S0 w0 (stAt ops R (fun i=>listed.getD i false) S0 ops.size) a w→wpAny P .any ops Q fuel listed a w:=by
  intro fuel
  -- with nothing ready, all is done
  have hall:∀ (listed:Array Bool),listed.size = ops.size→Region.ready .any ops listed = []→∀ i,i < ops.size→listed.getD i false = true:=by
    intro listed hsz hre i
    induction i using Nat.strongRecOn with
    | _ i ih=>
      intro hi
      cases hd:listed.getD i false with
      | true=>rfl
      | false=>
        have hmem:i ∈ Region.ready .any ops listed:=by
          rw [mem_ready]
          refine ⟨?_,ops[i],Array.getElem?_eq_getElem hi,fun e he hb=>?_⟩
          · simp only [Array.getD_eq_getD_getElem?,Array.getElem?_eq_getElem (show i < listed.size by omega)] at hd ⊢
            exact hd
          · have hlt:=hedge i _ (Array.getElem?_eq_getElem hi) e he hb
            exact ih _ hlt (by omega)
        rw [hre] at hmem; cases hmem
  have hdone:∀ (listed:Array Bool) (a:Act) (w:World),(∀ i,i < ops.size→listed.getD i false = true)→StepTo gl n g0 S0 w0 (stAt ops R (fun i=>listed.getD i false) S0 ops.size) a w→Q .normal a w:=by
    intro listed a w h st
    refine hQ a w (st.congr (fun t=>?_) fun b=>?_)
    · exact slots_congr ops R S0.A t ops.size fun i hi hd=>by simp [h i hi] at hd
    · exact heap_congr R S0.H b ops.size fun i hi hd=>by simp [h i hi] at hd
  induction fuel with
  | zero=>
    intro listed a w hsz hc hcl st
    have hall0:∀ i,i < ops.size→listed.getD i false = true:=by
      intro i hi
      have:(List.range ops.size).countP (fun i=>!listed.getD i false) = 0:=by omega
      have:=List.countP_eq_zero.1 this i (List.mem_range.2 hi)
      simpa using this
    refine ⟨?_,hdone listed a w hall0 st⟩
    rw [List.eq_nil_iff_forall_not_mem]
    intro i hi
    rw [mem_ready] at hi
    obtain ⟨h1,o,ho,_⟩:=hi
    have hi':=(Array.getElem?_eq_some_iff.1 ho).1
    have:=hall0 i hi'
    simp only [Array.getD_eq_getD_getElem?,Array.getElem?_eq_getElem (show i < listed.size by omega)] at h1 this
    simp at h1 this
    rw [h1] at this; cases this
  | succ fuel ih=>
    intro listed a w hsz hc hcl st
    refine ⟨fun hre=>hdone listed a w (hall listed hsz hre) st,fun j hj=>?_⟩
    rw [mem_ready] at hj
    obtain ⟨h1,o,ho,hrdy⟩:=hj
    have hjs:=(Array.getElem?_eq_some_iff.1 ho).1
    have hDj:listed.getD j false = false:=by
      simp only [Array.getD_eq_getD_getElem?,Array.getElem?_eq_getElem (show j < listed.size by omega)] at h1 ⊢
      exact h1
    obtain ⟨g1,k1,k2,k3,k4⟩:=st
    have hD':∀ i,(listed.setIfInBounds j true).getD i false = (listed.getD i false || decide (i = j)):=by
      intro i
      by_cases e:j = i
      · subst e; simp [show j < listed.size by omega]
      · rw [getD_set_ne false e]; simp [Ne.symm e]
    have main:=draw_op (D:=fun i=>listed.getD i false) hP htr hord hcl ho hDj hrdy k1 (wpAny P .any ops Q fuel (listed.setIfInBounds j true)) Q fun a' w' st'=>by
      refine ih (listed.setIfInBounds j true) a' w' (by simpa using hsz) ?_ ?_ ?_
      · have:(List.range ops.size).countP (fun i=>!(listed.setIfInBounds j true).getD i false) < (List.range ops.size).countP (fun i=>!listed.getD i false):=by
          refine countP_lt _ (fun i _ h=>?_) ⟨j,List.mem_range.2 hjs,by simp [hDj],by simp [hD']⟩
          rw [hD'] at h
          simp only [Bool.not_or,Bool.and_eq_true] at h
          exact h.1
        omega
      · intro i o' e h1 h2 h3 h4
        rw [hD'] at h1 ⊢
        simp only [Bool.or_eq_true,decide_eq_true_eq] at h1 ⊢
        rcases h1 with h1 | rfl
        · exact .inl (hcl i o' e h1 h2 h3 h4)
        · rw [ho] at h2; cases h2
          exact .inl (hrdy e h3 h4)
      · have:=StepTo.trans k2 k3 k4 st'
        refine this.congr (fun t=>?_) fun b=>?_
        · exact slots_congr ops R S0.A t ops.size fun i hi hd=>by simp [hD'] at hd
        · exact heap_congr R S0.H b ops.size fun i hi hd=>by simp [hD'] at hd
    unfold wpOp
    rw [ho]
    simp only
    cases hw:Region.wanted o (yielded ops a.tmps) with
    | true=>simp only [if_true]; exact .inl (main.1 hw)
    | false=>simp only [Bool.false_eq_true,if_false]; exact main.2 hw
def TraceX (P:Program) (tb:List TI) (gl:List (Nat × List AV)) (fid:FuncId) (n:Nat) (ops:Array Oper):List Oper→St→St→List OpR→Prop
  | [],S,S',R=>S' = S∧R = []
  | o :: l,S,S',R=>∃ r S1 R1,StepX P tb gl fid ops S o r∧putO n o r S = some S1∧TraceX P tb gl fid n ops l S1 S' R1∧R = r :: R1
theorem traceX_of (hcall:CallOk P gl call) (hent:Enters P call):∀ (l:List Oper) (S S':St) (R:List OpR),evTrace tb cfg gl call fid n ops l S = some (S',R)→TraceX P tb gl fid n ops l S S' R
  | [],S,S',R,h=>by simp only [evTrace] at h; cases h; exact ⟨rfl,rfl⟩
  | o :: l,S,S',R,h=>by
    simp only [evTrace] at h
    split at h
    · rename_i x hx
      split at h
      · rename_i S1 hp
        split at h
        · rename_i S2 xs hxs
          cases h
          exact ⟨x,S1,xs,StepX.of hcall hent hx,hp,traceX_of hcall hent l S1 _ _ hxs,rfl⟩
        · cases h
      · cases h
    · cases h
theorem traceX_spec (S0:St) (R:List OpR):∀ (l:List Oper) (k:Nat) (S S':St) (rs:List OpR),TraceX P tb gl fid n ops l S S' rs→(∀ i,l[i]? = ops[k + i]?)→(∀ i,rs[i]? = R[k + i]?)→S = stAt ops R (fun _=>true) S0 k →
    S' = stAt ops R (fun _=>true) S0 (k + l.length)∧∀ j o,k ≤ j→ops[j]? = some o→∃ r,R[j]? = some r∧StepX P tb gl fid ops (stAt ops R (fun _=>true) S0 j) o r∧∀ d,o.dst = some d→d < n
  | [],k,S,S',rs,h,hl,hr,hS=>by
    obtain ⟨rfl,rfl⟩:=h
    refine ⟨hS,fun j o hj ho=>?_⟩
    have:=hl (j - k)
    rw [show k + (j - k) = j by omega,ho] at this
    cases this
  | o :: l,k,S,S',rs,h,hl,hr,hS=>by
    obtain ⟨x,S1,xs,hx,hS1,hxs,rfl⟩:=h
    have ho:ops[k]? = some o:=by have:=hl 0; simpa using this.symm
    have hrk:R[k]? = some x:=by have:=hr 0; simpa using this.symm
    have hd:∀ d,o.dst = some d→d < n:=by
      intro d hd
      unfold putO setDst at hS1
      rw [hd] at hS1
      simp only at hS1
      by_cases hdn:d < n
      · exact hdn
      · rw [if_neg hdn] at hS1; cases hS1
    have h1:S1 = stAt ops R (fun _=>true) S0 (k + 1):=by
      unfold putO setDst at hS1
      subst hS
      simp only [stAt,slotsAt,heapAt,if_true,ho,hrk,updA,updH]
      cases hdd:o.dst with
      | none=>rw [hdd] at hS1; simp only at hS1; cases hS1; rfl
      | some d=>
        rw [hdd] at hS1
        simp only [if_pos (hd d hdd)] at hS1
        cases hS1; rfl
    obtain ⟨k1,k2⟩:=traceX_spec S0 R l (k + 1) S1 _ _ hxs (fun i=>by have:=hl (i + 1); simp only [List.getElem?_cons_succ] at this; rw [this]; congr 1; omega)
      (fun i=>by have:=hr (i + 1); simp only [List.getElem?_cons_succ] at this; rw [this]; congr 1; omega) h1
    refine ⟨by rw [k1,List.length_cons]; congr 1; omega,fun j o' hj ho'=>?_⟩
    by_cases e:j = k
    · subst e
      rw [ho] at ho'; cases ho'
      exact ⟨x,hrk,by rw [← hS]; exact hx,hd⟩
    · exact k2 j o' (by omega) ho'
theorem drawX_good (hP:TbOk P tb) (hm:P.follows .mixedOrders = true) {g:Gh} {S S':St} {R:List OpR} {a:Act} {w:World} (hS:StOk gl n g S a w)
    (htr:TraceX P tb gl fid n ops ops.toList S S' R) (hord:orderOk S ops R = true) {id:Nat} {Q:Exit→Act→World→Prop} (hQ:∀ a' w',StepTo gl n g S w S' a' w'→Q .normal a' w'):(Code.region id ops true).wp P Q a w:=by
  obtain ⟨e1,e2⟩:=traceX_spec S R ops.toList 0 S S' R htr (fun i=>by simp) (fun i=>by simp) rfl
  have e3:S' = stAt ops R (fun _=>true) S ops.size:=by rw [e1]; simp
  simp only [orderOk,List.all_eq_true,List.mem_range,Bool.and_eq_true] at hord
  refine wp_region_any hm (draw_any hP (fun j o ho=>e2 j o (Nat.zero_le _) ho) (fun j hj=>⟨(hord j hj).1.2,(hord j hj).2⟩) (fun j o ho e he hb=>?_) (fun a' w' st=>hQ a' w' (by rw [e3]; exact st))
    ops.size _ a _ (by simp) (by simpa using List.countP_le_length (p:=fun i=>!(Array.replicate ops.size false).getD i false) (l:=List.range ops.size)) (fun j o e hj=>?_) ?_)
  · have hjs:=(Array.getElem?_eq_some_iff.1 ho).1
    have:=(hord j hjs).1.1
    unfold edgesOk at this
    rw [ho] at this
    simp only [List.all_eq_true] at this
    have:=this e (by simpa using he)
    simpa [hb] using this
  · by_cases hjs:j < ops.size <;> simp [hjs] at hj
  · refine ⟨g,⟨(hS.wc.drew (Drew.drew w)).congr fun b=>?_,fun t=>?_,hS.size,hS.defers,hS.glob⟩,(Ctx.drew (Drew.drew w) g S.H).congr fun b=>?_,Keep.refl _ _,?_⟩
    · exact heap_congr R (D':=fun _=>false) S.H b ops.size (fun i hi hd=>by simp [hi] at hd) |>.trans (heap_none R S.H ops.size b)
    · have:getA (stAt ops R (fun i=>(Array.replicate ops.size false).getD i false) S ops.size).A t = getA S.A t :=
        slots_congr ops R (D':=fun _=>false) S.A t ops.size (fun i hi hd=>by simp [hi] at hd) |>.trans (slots_none ops R S.A ops.size t)
      rw [this]; exact hS.vals t
    · exact heap_congr R (D':=fun _=>false) S.H b ops.size (fun i hi hd=>by simp [hi] at hd) |>.trans (heap_none R S.H ops.size b)
    · intro e _ h
      have:find (stAt ops R (fun i=>(Array.replicate ops.size false).getD i false) S ops.size).H e = find S.H e :=
        heap_congr R (D':=fun _=>false) S.H e ops.size (fun i hi hd=>by simp [hi] at hd) |>.trans (heap_none R S.H ops.size e)
      rw [this]; exact h
where
  heap_none (R:List OpR) (H:Heap):∀ k b,find (heapAt R (fun _=>false) H k) b = find H b
    | 0,_=>rfl
    | k + 1,b=>heap_none R H k b
  slots_none (ops:Array Oper) (R:List OpR) (A:Slots):∀ k t,getA (slotsAt ops R (fun _=>false) A k) t = getA A t
    | 0,_=>rfl
    | k + 1,t=>slots_none ops R A k t
theorem evDraw_good (hP:TbOk P tb) (hcall:CallOk P gl call) (hent:Enters P call) (hm:P.follows .mixedOrders = true) {g:Gh} {S S':St} {a:Act} {w:World} (hS:StOk gl n g S a w)
    (h:evDraw tb cfg gl call fid n ops S = some S') {id:Nat} {Q:Exit→Act→World→Prop} (hQ:∀ a' w',StepTo gl n g S w S' a' w'→Q .normal a' w'):(Code.region id ops true).wp P Q a w:=by
  unfold evDraw at h
  split at h
  · cases h
  · rename_i S1 R htr
    split at h
    · rename_i hord
      cases h
      exact drawX_good hP hm hS (traceX_of hcall hent _ _ _ _ htr) hord hQ
    · cases h
end
end Go.Proofs.YtjojaiomgdjhfaaGreatDoor.AE
namespace Go.Proofs.YtjojaiomgdjhfaaGreatDoor.AE
open Go
section
variable {P:Program} {tb:List TI} {cfg:Cfg} {gl:List (Nat × List AV)} {call:CallF} {n:Nat} {fid:FuncId}
def CodePost (gl:List (Nat × List AV)) (n:Nat) (g:Gh) (S:St) (w:World) (x:Ex) (S':St):Exit→Act→World→Prop
  | .normal,a',w'=>x = .normal∧StepTo gl n g S w S' a' w'
  | .exit id,a',w'=>x = .exit id∧StepTo gl n g S w S' a' w'
  | .ret,a',w'=>x = .ret∧StepTo gl n g S w S' a' w'
  | _,_,_=>False
theorem CodePost.trans {g g1:Gh} {S S1 S':St} {w w1:World} {x:Ex} (h1:Ctx w g S.H g1 S1.H w1) (h2:Keep (fun b=>¬ IsExt b) g g1) (h3:Pers S.H S1.H) :
    ∀ e a' w',CodePost gl n g1 S1 w1 x S' e a' w'→CodePost gl n g S w x S' e a' w'
  | .normal,_,_,h=>⟨h.1,StepTo.trans h1 h2 h3 h.2⟩
  | .exit _,_,_,h=>⟨h.1,StepTo.trans h1 h2 h3 h.2⟩
  | .ret,_,_,h=>⟨h.1,StepTo.trans h1 h2 h3 h.2⟩
  | .goto _,_,_,h=>h
  | .panic _,_,_,h=>h
  | .outgrown,_,_,h=>h
def CodeGood (P:Program) (gl:List (Nat × List AV)) (n:Nat) (F:St→Option (Ex × St)) (c:Code):Prop :=
  ∀ g S a w x S',StOk gl n g S a w→F S = some (x,S')→c.wp P (CodePost gl n g S w x S') a w
theorem loop_good {F:St→Option (Ex × St)} {c:Code} (hc:CodeGood P gl n F c):∀ k g S a w x S',StOk gl n g S a w→loopN F k S = some (x,S') →
    Code.rounds P c (CodePost gl n g S w x S') k a w∧x ≠ .normal
  | 0,_,_,_,_,_,_,_,h=>by simp [loopN] at h
  | k + 1,g,S,a,w,x,S',hS,h=>by
    simp only [loopN] at h
    cases hF:F S with
    | none=>rw [hF] at h; cases h
    | some y=>
      obtain ⟨y,S1⟩:=y
      rw [hF] at h
      have hwp:=hc g S a w y S1 hS hF
      cases y with
      | normal=>
        simp only at h
        constructor
        · rw [rounds_succ]
          refine wp_mono hwp fun e a1 w1 hp=>?_
          cases e with
          | normal=>
            obtain ⟨_,g1,k1,k2,k3,k4⟩:=hp
            have ih:=(loop_good hc k g1 S1 a1 w1 x S' k1 h).1
            exact rounds_mono k (CodePost.trans k2 k3 k4) ih
          | exit id=>exact (by cases hp.1)
          | ret=>exact (by cases hp.1)
          | goto _=>exact hp.elim
          | panic _=>exact hp.elim
          | outgrown=>exact hp.elim
        · -- some round comes out
          intro e; subst e
          exact loop_not_normal k S1 h
      | exit id=>
        simp only at h
        cases h
        refine ⟨?_,by simp⟩
        rw [rounds_succ]
        refine wp_mono hwp fun e a1 w1 hp=>?_
        cases e with
        | normal=>exact (by cases hp.1)
        | exit id=>exact hp
        | ret=>exact hp
        | goto _=>exact hp.elim
        | panic _=>exact hp.elim
        | outgrown=>exact hp.elim
      | ret=>
        simp only at h
        cases h
        refine ⟨?_,by simp⟩
        rw [rounds_succ]
        refine wp_mono hwp fun e a1 w1 hp=>?_
        cases e with
        | normal=>exact (by cases hp.1)
        | exit id=>exact hp
        | ret=>exact hp
        | goto _=>exact hp.elim
        | panic _=>exact hp.elim
        | outgrown=>exact hp.elim
where
  rounds_mono {c:Code} {Q Q':Exit→Act→World→Prop}:∀ (k:Nat) (_:∀ e a w,Q e a w→Q' e a w) {a:Act} {w:World},Code.rounds P c Q k a w→Code.rounds P c Q' k a w
    | 0,_,_,_,h=>h.elim
    | k + 1,hq,a,w,h=>by
      rw [rounds_succ] at h ⊢
      refine wp_mono h fun e a w hp=>?_
      cases e with
      | normal=>exact rounds_mono k hq hp
      | exit id=>exact hq _ _ _ hp
      | ret=>exact hq _ _ _ hp
      | goto _=>exact hq _ _ _ hp
      | panic _=>exact hq _ _ _ hp
      | outgrown=>exact hq _ _ _ hp
  loop_not_normal {F:St→Option (Ex × St)} {S':St}:∀ k S,loopN F k S ≠ some (.normal,S')
    | 0,S=>by simp [loopN]
    | k + 1,S=>by
      simp only [loopN]
      cases hF:F S with
      | none=>simp
      | some y=>
        obtain ⟨y,S1⟩:=y
        cases y with
        | normal=>exact loop_not_normal k S1
        | exit id=>simp
        | ret=>simp
theorem getA_args {g:Gh}:∀ (args:List AV) (vs:List Value) (i j:Nat),VL g args vs→V g (getA (argSlots i args) (i + j)) ((vs[j]?).getD undef)
  | [],vs,i,j,h=>by simp [argSlots,getA,find,V]
  | a :: as,_,i,j,h=>by
    simp only [VL] at h
    obtain ⟨v,vs,rfl,hv,h⟩:=h
    cases j with
    | zero=>simp [argSlots,getA,find]; exact hv
    | succ j=>
      have ih:=getA_args as vs (i + 1) j h
      simp only [argSlots,getA,find,if_neg (show i ≠ i + (j + 1) by omega),List.getElem?_cons_succ]
      rw [show i + (j + 1) = i + 1 + j by omega]
      exact ih
theorem run_loadVar {g:Gh} {t:TypeId} {av:AV} {v u:Value} {w:World} {H:Heap} {r:OpR} (he:evLoad tb H t av = some r) (hv:V g av v) (h:(Instr.loadAt t v).run P w = .ok u w) :
    (asAddr v >>= fun x=>loadVar t x).run P w = .ok u w:=by
  unfold evLoad at he
  split at he
  · obtain ⟨c,off,rfl,_⟩:=hv
    exact h
  · obtain ⟨c,_,rfl⟩:=hv
    exact h
  · cases he
def resF (a:Act):ResultVar→Sem Value
  | .tmp t=>pure (a.tmps.getD t undef)
  | .cell b t=>do loadVar t (← asAddr (a.tmps.getD b undef))
theorem evResults_good (hP:TbOk P tb) {g:Gh} {S:St} {a:Act} {w:World} (hS:StOk gl n g S a w):∀ (rs:List ResultVar) (vs:List AV),evResults tb S rs = some vs →
    ∃ us,(rs.mapM (resF a)).run P w = .ok us w∧VL g vs us
  | [],vs,h=>by
    simp only [evResults] at h
    cases h
    exact ⟨[],by rw [List.mapM_nil]; rfl,rfl⟩
  | x :: rs,vs,h=>by
    simp only [evResults] at h
    split at h
    · rename_i v vs' hv hvs
      cases h
      obtain ⟨us,h1,h2⟩:=evResults_good hP hS rs vs' hvs
      have hx:∃ u,(resF a x).run P w = .ok u w∧V g v u:=by
        cases x with
        | tmp t=>
          simp only [evResult] at hv
          cases hv
          exact ⟨_,rfl,hS.vals t⟩
        | cell b t=>
          simp only [evResult] at hv
          cases he:evLoad tb S.H t (getA S.A b) with
          | none=>rw [he] at hv; cases hv
          | some r=>
            rw [he] at hv; cases hv
            obtain ⟨⟨u,k1,k2⟩,_⟩:=run_evLoad hP hS.wc he (Agree.refl _ _) (hS.vals b)
            exact ⟨u,run_loadVar he (hS.vals b) k1,k2⟩
      obtain ⟨u,k1,k2⟩:=hx
      refine ⟨u :: us,?_,u,us,rfl,k2,h2⟩
      rw [List.mapM_cons,run_bind2,k1,Result.andThen_ok,run_bind2,h1]
      rfl
    · cases h
theorem results_good (hP:TbOk P tb) {g:Gh} {S:St} {a:Act} {w:World} (hS:StOk gl n g S a w) {fn:Func} {vs:List AV} (h:evResults tb S fn.results.toList = some vs) :
    ∃ v,(results fn a.tmps).run P w = .ok v w∧V g (oneOr vs) v:=by
  obtain ⟨us,h1,h2⟩:=evResults_good hP hS _ vs h
  have e:results fn a.tmps = (fn.results.mapM (resF a) >>= fun vs=>pure (if h:vs.size = 1 then vs[0] else .tuple vs)):=by
    unfold results
    rfl
  rw [e,run_bind2,Array.mapM_eq_mapM_toList,Sem.run_map,h1]
  simp only [Result.andThen_ok]
  have hl:=VL.length h2
  by_cases h1:us.length = 1
  · obtain ⟨u,rfl⟩:=List.length_eq_one_iff.1 h1
    obtain ⟨v,rfl⟩:=List.length_eq_one_iff.1 (by rw [← hl]; exact h1:vs.length = 1)
    obtain ⟨v1,vs1,e,k1,_⟩:=h2
    cases e
    exact ⟨u,rfl,k1⟩
  · refine ⟨.tuple us.toArray,?_,?_⟩
    · simp only [List.size_toArray,h1,dite_false]; rfl
    · have:oneOr vs = .tuple vs:=by
        match vs,hl with
        | [],_=>rfl
        | [_],hl=>exact (h1 (by simpa using hl)).elim
        | _ :: _ :: _,_=>rfl
      rw [this]
      exact ⟨us.toArray,rfl,by simpa using h2⟩
end
end Go.Proofs.YtjojaiomgdjhfaaGreatDoor.AE
namespace Go.Proofs.YtjojaiomgdjhfaaGreatDoor.AE
open Go
structure Seat where
  tb:List TI
  P:Program
  gl:List (Nat × List AV)
  hP:TbOk P tb
  hm:P.follows .mixedOrders = true
def c0:Cfg:={ ro:=fun _=>false,acc:=fun _ _=>false,accCells:=fun _ _=>[],kill:=fun _ _=>none,adopt:=fun _ _=>false,plainAp:=fun _ _=>false }
def cP (ds:List Nat):Cfg:={ c0 with plainAp:=fun _ d=>ds.contains d }
def noCall:CallF:=fun _ _ _=>none
theorem noCall_ok (Z:Seat):CallOk Z.P Z.gl noCall:=fun _ _ _ _ _ h=>by cases h
theorem noCall_ent (Z:Seat):Enters Z.P noCall:=fun _ _ _ _ h=>by cases h
structure SWk (S S1:St):Prop where
  a:awk S.A S1.A
  h:hwk S.H S1.H
  p:persB S.H S1.H = true
theorem StOk.weak {gl:List (Nat × List AV)} {n:Nat} {g:Gh} {S S1:St} {a:Act} {w:World} (h:StOk gl n g S a w) (hs:SWk S S1) :
    ∃ g1,StOk gl n g1 S1 a w∧Ctx w g S.H g1 S1.H w∧Keep (fun b=>¬ IsExt b) g g1∧Pers S.H S1.H:=by
  obtain ⟨l1,l2,l3⟩:=h.wc.weak (hwk_get hs.h)
  exact ⟨_,⟨l1,fun t=>awk_get hs.a t _ _ (l2.V (Off.none _) (h.vals t)),h.size,h.defers,fun x hx=>(h.glob x hx).mono l2.gam⟩,l3,l2.wider fun _ h=>h.elim,persB_pers hs.p⟩
def hasKey {K α:Type} [DecidableEq K] (l:List (K × α)) (k:K):Bool:=(find l k).isSome
def narrow (S1 S:St):Option St :=
  if persB S.H S1.H = true then some ⟨S.A.filter fun x=>hasKey S1.A x.1,S.H.filter fun x=>hasKey S1.H x.1⟩ else none
theorem awk_filter (A A1:Slots):∀ t,Wk (getA A t) (getA (A.filter fun x=>hasKey A1 x.1) t):=by
  intro t
  simp only [getA]
  rw [find_filter (fun x:Nat × AV=>hasKey A1 x.1) (fun b=>hasKey A1 b) (fun _=>rfl)]
  split
  · exact Wk.refl _
  · exact Wk.undef _
theorem narrow_good {gl:List (Nat × List AV)} {n:Nat} {g:Gh} {S0 S S1 S2:St} {a:Act} {w0 w:World} (h:StepTo gl n g S0 w0 S a w) (hn:narrow S1 S = some S2):StepTo gl n g S0 w0 S2 a w:=by
  unfold narrow at hn
  split at hn
  · rename_i hp
    cases hn
    obtain ⟨g1,k1,k2,k3,k4⟩:=h
    have hless:Less S.H (S.H.filter fun x=>hasKey S1.H x.1):=by
      refine ⟨fun b ob' hb=>?_⟩
      rw [find_filter (fun x:Oid × Ob=>hasKey S1.H x.1) (fun b=>hasKey S1.H b) (fun _=>rfl)] at hb
      split at hb
      · exact ⟨ob',fun _=>false,hb,(obStrip_never ob').symm⟩
      · cases hb
    obtain ⟨l1,l2,l3⟩:=k1.wc.less hless
    refine ⟨_,⟨l1,fun t=>awk_filter S.A S1.A t _ _ (l2.V (Off.none _) (k1.vals t)),k1.size,k1.defers,fun x hx=>(k1.glob x hx).mono l2.gam⟩,k2.trans l3,k3.trans (l2.wider fun _ h=>h.elim),k4.trans ?_⟩
    intro e he hs
    show (find (S.H.filter _) e).isSome = true
    rw [find_filter (fun x:Oid × Ob=>hasKey S1.H x.1) (fun b=>hasKey S1.H b) (fun _=>rfl),show hasKey S1.H e = true from persB_pers hp e he hs,if_pos rfl]
    exact hs
  · cases hn
theorem StepTo.weak {gl:List (Nat × List AV)} {n:Nat} {g:Gh} {S0 S S1:St} {a:Act} {w0 w:World} (h:StepTo gl n g S0 w0 S a w) (hs:SWk S S1):StepTo gl n g S0 w0 S1 a w:=by
  obtain ⟨g1,k1,k2,k3,k4⟩:=h
  obtain ⟨g2,l1,l2,l3,l4⟩:=k1.weak hs
  exact ⟨g2,l1,k2.trans l2,k3.trans l3,k4.trans l4⟩
section
variable (Z:Seat)
def SC (n:Nat) (c:Code) (S:St) (Q:Ex→St→Prop):Prop :=
  ∀ g a w,StOk Z.gl n g S a w→c.wp Z.P (fun e a' w'=>∃ x S',Q x S'∧CodePost Z.gl n g S w x S' e a' w') a w
def SO (n:Nat) (ops:Array Oper) (k e:Nat) (S:St) (K:St→Prop):Prop :=
  ∀ g a w,StOk Z.gl n g S a w→∀ (Q:Exit→Act→World→Prop) (m:Nat),(∀ S' a' w',K S'→StepTo Z.gl n g S w S' a' w'→wpOps Z.P ops Q (List.range' e m) a' w')→wpOps Z.P ops Q (List.range' k (e - k + m)) a w
def SF (f:FuncId) (args:List AV) (H:Heap) (r:AV) (H':Heap):Prop :=
  (∃ fn,Z.P.funcs[f]? = some fn∧fn.name ≠ "runtime.NumGoroutine"∧fn.body.isSome = true) ∧
  ∀ g (vs:Array Value) w,WC g H w→VL g args vs.toList→Glob Z.gl g→Calls Z.P f vs w (RetPost g H w r H')
end
section
variable {Z:Seat} {n:Nat}
theorem SC.mono {c:Code} {S:St} {Q Q':Ex→St→Prop} (h:SC Z n c S Q) (hq:∀ x S',Q x S'→Q' x S'):SC Z n c S Q' :=
  fun g a w hS=>wp_mono (h g a w hS) fun e a' w' ⟨x,S',h1,h2⟩=>⟨x,S',hq _ _ h1,h2⟩
theorem SC.weak {c:Code} {S S1:St} {Q:Ex→St→Prop} (hs:SWk S S1) (h:SC Z n c S1 Q):SC Z n c S Q:=by
  intro g a w hS
  obtain ⟨g1,k1,k2,k3,k4⟩:=hS.weak hs
  exact wp_mono (h g1 a w k1) fun e a' w' ⟨x,S',h1,h2⟩=>⟨x,S',h1,CodePost.trans k2 k3 k4 e a' w' h2⟩
def thenK (K:St→Prop) (Q:Ex→St→Prop):Ex→St→Prop
  | .normal,S=>K S
  | x,S=>Q x S
def blockK (id:Nat) (Q:Ex→St→Prop):Ex→St→Prop
  | .exit id',S=>if id' = id then Q .normal S else Q (.exit id') S
  | x,S=>Q x S
theorem SC.skip {S:St} {Q:Ex→St→Prop} (h:Q .normal S):SC Z n .skip S Q:=fun g a w hS=>wp_skip ⟨_,S,h,rfl,StepTo.refl hS⟩
theorem SC.exit {id:Nat} {S:St} {Q:Ex→St→Prop} (h:Q (.exit id) S):SC Z n (.exit id) S Q:=fun g a w hS=>wp_exit ⟨_,S,h,rfl,StepTo.refl hS⟩
theorem SC.ret {S:St} {Q:Ex→St→Prop} (h:Q .ret S):SC Z n .ret S Q:=fun g a w hS=>wp_ret ⟨_,S,h,rfl,StepTo.refl hS⟩
theorem SC.seq {a b:Code} {S:St} {Q:Ex→St→Prop} (h:SC Z n a S (thenK (fun S1=>SC Z n b S1 Q) Q)):SC Z n (.seq a b) S Q:=by
  intro g ac w hS
  refine wp_seq (wp_mono (h g ac w hS) ?_)
  rintro e a1 w1 ⟨x,S1,h1,h2⟩
  cases e with
  | normal=>
    obtain ⟨rfl,g1,k1,k2,k3,k4⟩:=h2
    exact wp_mono (h1 g1 a1 w1 k1) fun e a' w' ⟨x,S',q1,q2⟩=>⟨x,S',q1,CodePost.trans k2 k3 k4 e a' w' q2⟩
  | exit id=>obtain ⟨rfl,st⟩:=h2; exact ⟨_,S1,h1,rfl,st⟩
  | ret=>obtain ⟨rfl,st⟩:=h2; exact ⟨_,S1,h1,rfl,st⟩
  | goto _=>exact h2.elim
  | panic _=>exact h2.elim
  | outgrown=>exact h2.elim
theorem SC.cond {c:Operand} {a b:Code} {S:St} {Q:Ex→St→Prop} (t:Bool) (hc:evalA Z.gl S.A c = .bool t) (ht:t = true→SC Z n a S Q) (hf:t = false→SC Z n b S Q):SC Z n (.cond c a b) S Q:=by
  intro g ac w hS
  have hv:=hS.eval c
  rw [hc] at hv
  cases t with
  | true=>exact wp_cond_true hv (ht rfl g ac w hS)
  | false=>exact wp_cond_false hv (hf rfl g ac w hS)
theorem SC.block {id:Nat} {b:Code} {S:St} {Q:Ex→St→Prop} (h:SC Z n b S (blockK id Q)):SC Z n (.block id b) S Q:=by
  intro g ac w hS
  refine wp_block (wp_mono (h g ac w hS) ?_)
  rintro e a1 w1 ⟨x,S1,h1,h2⟩
  cases e with
  | normal=>obtain ⟨rfl,st⟩:=h2; exact ⟨_,S1,h1,rfl,st⟩
  | ret=>obtain ⟨rfl,st⟩:=h2; exact ⟨_,S1,h1,rfl,st⟩
  | exit id'=>
    obtain ⟨rfl,st⟩:=h2
    simp only [blockK] at h1
    simp only [Exit.inBlock]
    by_cases e:id' = id
    · rw [if_pos e] at h1 ⊢; exact ⟨_,S1,h1,rfl,st⟩
    · rw [if_neg e] at h1 ⊢; exact ⟨_,S1,h1,rfl,st⟩
  | goto _=>exact h2.elim
  | panic _=>exact h2.elim
  | outgrown=>exact h2.elim
theorem SC.region {id:Nat} {ops:Array Oper} {S:St} {Q:Ex→St→Prop} (e:Nat) (he:ops.size = e) (h:SO Z n ops 0 e S (Q .normal)):SC Z n (.region id ops false) S Q:=by
  intro g a w hS
  refine wp_region ?_
  have:=h g a w hS (fun e a' w'=>∃ x S',Q x S'∧CodePost Z.gl n g S w x S' e a' w') 0 fun S' a' w' h1 h2=>⟨_,S',h1,rfl,h2⟩
  rw [List.range_eq_range',he]
  simpa using this
theorem SC.draw {id:Nat} {ops:Array Oper} {S S1:St} {Q:Ex→St→Prop} {call:CallF} (hcall:CallOk Z.P Z.gl call) (hent:Enters Z.P call) {cfg:Cfg} {f:FuncId} (h:evDraw Z.tb cfg Z.gl call f n ops S = some S1) (S2:St) (hn:narrow S2 S1 = some S2) (hq:Q .normal S2) :
    SC Z n (.region id ops true) S Q :=
  fun g a w hS=>evDraw_good Z.hP hcall hent Z.hm hS h fun a' w' st=>⟨_,S2,hq,rfl,narrow_good st hn⟩
theorem SC.rounds {c:Code} {Q:Ex→St→Prop}:∀ (k:Nat) (I:Nat→St→Prop),(∀ j S,I j S→SC Z n c S (thenK (fun S1=>∃ i,j = i + 1∧I i S1) Q))→∀ S,I k S →
    ∀ g a w,StOk Z.gl n g S a w→Code.rounds Z.P c (fun e a' w'=>∃ x S',Q x S'∧CodePost Z.gl n g S w x S' e a' w') (k + 1) a w:=by
  intro k
  induction k with
  | zero=>
    intro I h S hI g a w hS
    rw [rounds_succ]
    refine wp_mono (h 0 S hI g a w hS) fun e a1 w1 ⟨x,S1,h1,h2⟩=>?_
    cases e with
    | normal=>obtain ⟨rfl,_⟩:=h2; obtain ⟨i,e,_⟩:=h1; omega
    | exit id=>obtain ⟨rfl,st⟩:=h2; exact ⟨_,S1,h1,rfl,st⟩
    | ret=>obtain ⟨rfl,st⟩:=h2; exact ⟨_,S1,h1,rfl,st⟩
    | goto _=>exact h2.elim
    | panic _=>exact h2.elim
    | outgrown=>exact h2.elim
  | succ k ih=>
    intro I h S hI g a w hS
    rw [rounds_succ]
    refine wp_mono (h (k + 1) S hI g a w hS) fun e a1 w1 ⟨x,S1,h1,h2⟩=>?_
    cases e with
    | normal=>
      obtain ⟨rfl,g1,k1,k2,k3,k4⟩:=h2
      obtain ⟨i,e,hi⟩:=h1
      have e':i = k:=by omega
      subst e'
      exact loop_good.rounds_mono (i + 1) (fun e a' w' ⟨x,S',q1,q2⟩=>⟨x,S',q1,CodePost.trans k2 k3 k4 e a' w' q2⟩) (ih I h S1 hi g1 a1 w1 k1)
    | exit id=>obtain ⟨rfl,st⟩:=h2; exact ⟨_,S1,h1,rfl,st⟩
    | ret=>obtain ⟨rfl,st⟩:=h2; exact ⟨_,S1,h1,rfl,st⟩
    | goto _=>exact h2.elim
    | panic _=>exact h2.elim
    | outgrown=>exact h2.elim
theorem SC.loopI {c:Code} {S:St} {Q:Ex→St→Prop} (k:Nat) (I:Nat→St→Prop) (h:∀ j S,I j S→SC Z n c S (thenK (fun S1=>∃ i,j = i + 1∧I i S1) Q)) (hS:I k S):SC Z n (.loop c) S Q :=
  fun g a w hs=>wp_loop_rounds (k + 1) (SC.rounds k I h S hS g a w hs)
theorem SO.done {ops:Array Oper} {e:Nat} {S:St} {K:St→Prop} (h:K S):SO Z n ops e e S K:=by
  intro g a w hS Q m hq
  have:=hq S a w h (StepTo.refl hS)
  rw [Nat.sub_self,Nat.zero_add]; exact this
theorem SO.weak {ops:Array Oper} {k e:Nat} {S S1:St} {K:St→Prop} (hs:SWk S S1) (h:SO Z n ops k e S1 K):SO Z n ops k e S K:=by
  intro g a w hS Q m hq
  obtain ⟨g1,k1,k2,k3,k4⟩:=hS.weak hs
  exact h g1 a w k1 Q m fun S' a' w' hK st=>hq S' a' w' hK (StepTo.trans k2 k3 k4 st)
theorem SO.cut {ops:Array Oper} {k e:Nat} {S:St} {K:St→Prop} (p:Nat) (h1:k ≤ p) (h2:p ≤ e) (h:SO Z n ops k p S fun S1=>SO Z n ops p e S1 K):SO Z n ops k e S K:=by
  intro g a w hS Q m hq
  have:=h g a w hS Q (e - p + m) fun S' a' w' hK st=>by
    obtain ⟨g1,k1,k2,k3,k4⟩:=st
    exact hK g1 a' w' k1 Q m fun S2 a2 w2 hK2 st2=>hq S2 a2 w2 hK2 (StepTo.trans k2 k3 k4 st2)
  rw [show e - k + m = p - k + (e - p + m) by omega]; exact this
theorem SO.step {ops:Array Oper} {k e:Nat} {S S1:St} {K:St→Prop} {cfg:Cfg} {call:CallF} {f:FuncId} (hcall:CallOk Z.P Z.gl call) (hent:Enters Z.P call) (hke:k < e) {o:Oper} (ho:ops[k]? = some o) {r:OpR} (h:evStep Z.tb cfg Z.gl call f n ops S o = some (S1,r))
    {S2:St} (hS2:narrow S2 S1 = some S2) (hn:SO Z n ops (k + 1) e S2 K):SO Z n ops k e S K:=by
  intro g a w hS Q m hq
  have main:=evStep_good Z.hP hcall hent hS h (wpOps Z.P ops Q (List.range' (k + 1) (e - (k + 1) + m))) Q fun a' w' st=>by
    obtain ⟨g1,k1,k2,k3,k4⟩:=narrow_good st hS2
    exact hn g1 a' w' k1 Q m fun S' a'' w'' hK st2=>hq S' a'' w'' hK (StepTo.trans k2 k3 k4 st2)
  rw [show e - k + m = (e - (k + 1) + m) + 1 by omega]
  simp only [List.range'_succ,wpOps,ho]
  cases hw:Region.wanted o (yielded ops a.tmps) with
  | true=>simp only [if_true]; exact .inl (main.1 hw)
  | false=>simp only [Bool.false_eq_true,if_false]; exact main.2 hw
def evSeg (tb:List TI) (cfg:Cfg) (gl:List (Nat × List AV)) (n:Nat) (ops:Array Oper) (k:Nat):Nat→St→Option St
  | 0,S=>some S
  | m + 1,S=>match ops[k]? with
    | none=>none
    | some o=>match evStep tb cfg gl noCall 0 n ops S o with
      | none=>none
      | some (S',_)=>evSeg tb cfg gl n ops (k + 1) m S'
theorem evSeg_good {cfg:Cfg} {ops:Array Oper} {Q:Exit→Act→World→Prop}:∀ (m k q:Nat) {g:Gh} {S S':St} {a:Act} {w:World},StOk Z.gl n g S a w →
    evSeg Z.tb cfg Z.gl n ops k m S = some S'→(∀ a' w',StepTo Z.gl n g S w S' a' w'→wpOps Z.P ops Q (List.range' (k + m) q) a' w')→wpOps Z.P ops Q (List.range' k (m + q)) a w
  | 0,k,q,g,S,S',a,w,hS,h,hQ=>by
    simp only [evSeg] at h; cases h
    have:=hQ a w (StepTo.refl hS)
    rw [Nat.zero_add]; exact this
  | m + 1,k,q,g,S,S',a,w,hS,h,hQ=>by
    simp only [evSeg] at h
    split at h
    · cases h
    · rename_i o ho
      split at h
      · cases h
      · rename_i S1 r hst
        have main:=evStep_good Z.hP (noCall_ok Z) (noCall_ent Z) hS hst (wpOps Z.P ops Q (List.range' (k + 1) (m + q))) Q fun a' w' st=>by
          obtain ⟨g1,k1,k2,k3,k4⟩:=st
          exact evSeg_good m (k + 1) q k1 h fun a' w' st=>by
            have:=hQ a' w' (StepTo.trans k2 k3 k4 st)
            rw [show k + 1 + m = k + (m + 1) by omega]; exact this
        rw [show m + 1 + q = m + q + 1 by omega]
        simp only [List.range'_succ,wpOps,ho]
        cases hw:Region.wanted o (yielded ops a.tmps) with
        | true=>simp only [if_true]; exact .inl (main.1 hw)
        | false=>simp only [Bool.false_eq_true,if_false]; exact main.2 hw
theorem SO.run {ops:Array Oper} {k e:Nat} {S:St} {K:St→Prop} (cfg:Cfg) (p:Nat) (S1:St) (hk:(k ≤ p∧p ≤ e)) (h:(evSeg Z.tb cfg Z.gl n ops k (p - k) S).bind (narrow S1) = some S1) (hn:SO Z n ops p e S1 K):SO Z n ops k e S K:=by
  intro g a w hS Q m hq
  obtain ⟨S0,h1,h2⟩:=Option.bind_eq_some_iff.1 h
  have:=evSeg_good (Q:=Q) (p - k) k (e - p + m) hS h1 fun a' w' st=>by
    obtain ⟨g1,k1,k2,k3,k4⟩:=narrow_good st h2
    have:=hn g1 a' w' k1 Q m fun S' a'' w'' hK st2=>hq S' a'' w'' hK (StepTo.trans k2 k3 k4 st2)
    rw [show k + (p - k) = p by omega]; exact this
  rw [show e - k + m = p - k + (e - p + m) by omega]; exact this
theorem SO.bool {ops:Array Oper} {k e:Nat} {K:St→Prop} (t:Bool) (F:Bool→St) (h1:t = true→SO Z n ops k e (F true) K) (h0:t = false→SO Z n ops k e (F false) K):SO Z n ops k e (F t) K:=by
  cases t with
  | true=>exact h1 rfl
  | false=>exact h0 rfl
def opR (tb:List TI) (cfg:Cfg) (gl:List (Nat × List AV)) (ops:Array Oper) (k:Nat) (S:St):Option OpR :=
  match ops[k]? with
  | none=>none
  | some o=>evStep0 tb cfg gl noCall 0 ops S o
def stepR (n:Nat) (ops:Array Oper) (k:Nat) (S:St) (r:OpR):Option St :=
  match ops[k]? with
  | none=>none
  | some o=>
    if isCallV o.op then none else
    (setDst n o.dst r.v (if r.fresh then (match o.dst with | some d=>if clear S d then S else purge d S | none=>S) else S).A).map fun A=>⟨A,insAll (if r.fresh then (match o.dst with | some d=>if clear S d then S else purge d S | none=>S) else S).H r.ws⟩
theorem SO.op {ops:Array Oper} {k e:Nat} {S:St} {K:St→Prop} (cfg:Cfg) (r:OpR) (S1:St) (hk:k < e) (h:opR Z.tb cfg Z.gl ops k S = some r) (hs:(stepR n ops k S r).bind (narrow S1) = some S1) (hn:SO Z n ops (k + 1) e S1 K):SO Z n ops k e S K:=by
  unfold opR at h
  split at h
  · cases h
  · rename_i o ho
    obtain ⟨S0,h1,h2⟩:=Option.bind_eq_some_iff.1 hs
    unfold stepR at h1
    rw [ho] at h1
    simp only at h1
    split at h1
    · cases h1
    · rename_i hnc
      have hnc:isCallV o.op = false:=by simpa using hnc
      unfold evStep0 at h
      cases hw:evWanted ops S.A o with
      | none=>rw [hw] at h; cases h
      | some b=>
        rw [hw] at h
        have:∃ r',evStep Z.tb cfg Z.gl noCall 0 n ops S o = some (S0,r'):=by
          unfold evStep
          rw [hw]
          cases b with
          | false=>
            simp only at h ⊢
            cases h
            simp only [Bool.false_eq_true,if_false] at h1
            cases hd:setDst n o.dst (.tuple []) S.A with
            | none=>rw [hd] at h1; cases h1
            | some A=>rw [hd] at h1; cases h1; exact ⟨_,rfl⟩
          | true=>
            simp only at h ⊢
            rw [h]
            simp only [hnc,Bool.and_false,Bool.false_and,Bool.false_eq_true,if_false]
            generalize hT:(if r.fresh then (match o.dst with | some d=>if clear S d then S else purge d S | none=>S) else S) = T at h1 ⊢
            cases hd:setDst n o.dst r.v T.A with
            | none=>rw [hd] at h1; cases h1
            | some A=>rw [hd] at h1; cases h1; exact ⟨_,rfl⟩
        obtain ⟨r',hst⟩:=this
        exact SO.step (noCall_ok Z) (noCall_ent Z) hk ho hst h2 hn
open Classical in
noncomputable def callL:List (FuncId × List AV × Heap × AV × Heap)→CallF
  | []=>noCall
  | (f,as,H,r,H') :: l=>fun f' as' K=>if f' = f∧as' = as∧K = H then some (r,H') else callL l f' as' K
def CallsOk (Z:Seat):List (FuncId × List AV × Heap × AV × Heap)→Prop
  | []=>True
  | (f,as,H,r,H') :: l=>SF Z f as H r H'∧CallsOk Z l
theorem callL_ok:∀ {l:List (FuncId × List AV × Heap × AV × Heap)},CallsOk Z l→CallOk Z.P Z.gl (callL l)∧Enters Z.P (callL l)
  | [],_=>⟨noCall_ok Z,noCall_ent Z⟩
  | (f,as,H,r,H') :: l,h=>by
    obtain ⟨i1,i2⟩:=callL_ok h.2
    refine ⟨fun f' as' K r' K' hc=>?_,fun f' as' K x hc=>?_⟩
    · simp only [callL] at hc
      split at hc
      · rename_i e
        obtain ⟨rfl,rfl,rfl⟩:=e
        cases hc
        exact h.1.2
      · exact i1 _ _ _ _ _ hc
    · simp only [callL] at hc
      split at hc
      · rename_i e
        obtain ⟨rfl,rfl,rfl⟩:=e
        exact h.1.1
      · exact i2 _ _ _ _ hc
theorem callL_hd {f:FuncId} {as:List AV} {H:Heap} {r:AV} {H':Heap} {l:List (FuncId × List AV × Heap × AV × Heap)}:callL ((f,as,H,r,H') :: l) f as H = some (r,H'):=by
  simp [callL]
structure Pre where
  f:FuncId
  args:List AV
  H:Heap
  ids:List Oid
  dst:Option Nat
def callPre (kt:Bool) (gl:List (Nat × List AV)) (ops:Array Oper) (k:Nat) (S:St):Option Pre :=
  match ops[k]? with
  | none=>none
  | some o=>match evWanted ops S.A o with
    | some true=>match o.op with
      | .call c=>match c.callee with
        | .value x=>match evalA gl S.A x with
          | .fn (.func f) first captured=>
            match reach S.H 64 (argRoots kt (first ++ c.args.toList.map (evalA gl S.A) ++ captured)) [] with
            | none=>none
            | some ids=>if ids.any isCl then none else
              match renL (toExt ids) (first ++ c.args.toList.map (evalA gl S.A) ++ captured),renHeap (toExt ids) S.H with
              | some args',some H'=>some ⟨f,argsOf kt args',H',ids,o.dst⟩
              | _,_=>none
          | _=>none
        | _=>none
      | _=>none
    | _=>none
def callPost (n:Nat) (S:St) (p:Pre) (r:AV) (H2:Heap):Option St :=
  match ren (ofExt p.ids) r,renHeap (ofExt p.ids) H2 with
  | some r',some ws=>(setDst n p.dst (clean r') S.A).map fun A=>⟨A,insAll S.H ws⟩
  | _,_=>none
theorem adopt_none {ids:List Oid} {r:AV} {H2 ws:Heap}:adopt none ids r H2 ws = none:=by
  unfold adopt
  split <;> first | rfl | contradiction
def RetQ (tb:List TI) (rs:List ResultVar) (r:AV) (H':Heap):Ex→St→Prop
  | .exit _,_=>False
  | _,S=>∃ vs,evResults tb S rs = some vs∧Wk (oneOr vs) r∧hwk S.H H'∧persB S.H H' = true
theorem SF.intro {f:FuncId} {fn:Func} {c:Code} {args:List AV} {H:Heap} {r:AV} {H':Heap} {m:Nat} {rs:List ResultVar} (hf:Z.P.funcs[f]? = some fn) (hb:fn.body = some c) (hm:fn.ntmps = m) (hrs:fn.results.toList = rs)
    (hn:args.length ≤ m) (hnm:fn.name ≠ "runtime.NumGoroutine") (h:SC Z m c ⟨argSlots 0 args,H⟩ (RetQ Z.tb rs r H')):SF Z f args H r H':=by
  refine ⟨⟨fn,hf,hnm,by rw [hb]; rfl⟩,fun g vs w hw hv hgl=>?_⟩
  subst hm hrs
  refine calls_of_wp hf hb ?_
  have hlen:vs.size = args.length:=by have:=VL.length hv; simpa using this
  have hS:StOk Z.gl fn.ntmps g ⟨argSlots 0 args,H⟩ { tmps:=vs ++ Array.replicate (fn.ntmps - vs.size) undef,defers:=[] } w:=by
    refine ⟨hw,fun t=>?_,by simp; omega,rfl,hgl⟩
    have:=getA_args args vs.toList 0 t hv
    rw [Nat.zero_add] at this
    show V g (getA (argSlots 0 args) t) _
    rw [Array.getD_eq_getD_getElem?,Array.getElem?_append]
    split
    · rw [Array.getElem?_toList] at this; exact this
    · rename_i hge
      rw [Array.getElem?_toList,Array.getElem?_eq_none (by omega)] at this
      have e:((Array.replicate (fn.ntmps - vs.size) undef)[t - vs.size]?).getD undef = undef:=by
        rw [Array.getElem?_replicate]; split <;> rfl
      rw [e]; exact this
  refine wp_mono (h g _ w hS) ?_
  rintro e a' w' ⟨x,S,h1,h2⟩
  have fin:∀ vs,evResults Z.tb S fn.results.toList = some vs→Wk (oneOr vs) r→hwk S.H H'→persB S.H H' = true→StepTo Z.gl fn.ntmps g ⟨argSlots 0 args,H⟩ w S a' w' →
      a'.defers = []∧∃ v,(results fn a'.tmps).run Z.P w' = .ok v w'∧RetPost g H w r H' (.returned v) w':=by
    rintro vs1 hr hwk hh hp ⟨g1,k1,k2,k3,k4⟩
    obtain ⟨v,q1,q2⟩:=results_good Z.hP k1 hr
    obtain ⟨l1,l2,l3⟩:=k1.wc.weak (hwk_get hh)
    exact ⟨k1.defers,v,q1,v,_,rfl,⟨hwk _ _ (l2.V (Off.none _) q2),l1,k3.trans (l2.wider fun _ h=>h.elim),k2.trans l3,k4.trans (persB_pers hp)⟩⟩
  cases e with
  | normal=>obtain ⟨rfl,st⟩:=h2; obtain ⟨vs,p1,p2,p3,p4⟩:=h1; exact fin vs p1 p2 p3 p4 st
  | exit id=>obtain ⟨rfl,st⟩:=h2; exact h1.elim
  | ret=>obtain ⟨rfl,st⟩:=h2; obtain ⟨vs,p1,p2,p3,p4⟩:=h1; exact fin vs p1 p2 p3 p4 st
  | goto _=>exact h2.elim
  | panic _=>exact h2.elim
  | outgrown=>exact h2.elim
theorem SF.weak {f:FuncId} {args args':List AV} {H H1:Heap} {r:AV} {H':Heap} (h:SF Z f args' H1 r H') (ha:WkL args args') (hh:hwk H H1) (hp:persB H H1 = true):SF Z f args H r H':=by
  refine ⟨h.1,fun g vs w hw hv hgl=>?_⟩
  obtain ⟨l1,l2,l3⟩:=hw.weak (hwk_get hh)
  refine (h.2 (g.heap H1) vs w l1 (l2.VL (OffL.none _) (ha.vl hv)) fun x hx=>(hgl x hx).mono l2.gam).mono ?_
  rintro e w' ⟨v,g',rfl,ret⟩
  exact ⟨v,g',rfl,⟨ret.val,ret.wc,(l2.wider fun _ h=>h.elim).trans ret.keep,l3.trans ret.ctx,(persB_pers hp).trans ret.pers⟩⟩
end
end Go.Proofs.YtjojaiomgdjhfaaGreatDoor.AE
namespace Go.Proofs.YtjojaiomgdjhfaaGreatDoor.AE
open Go
theorem evOp_noCall_some {tb:List TI} {cfg:Cfg} {f:FuncId} {ρ:Operand→AV} {H:Heap} {o:Oper} {r:OpR} (h:evOp tb cfg noCall f ρ H o = some r):isCallV o.op = false:=by
  cases hc:isCallV o.op with
  | false=>rfl
  | true=>
    exfalso
    unfold evOp at h
    cases hop:o.op <;> rw [hop] at hc <;> simp only [isCallV,Bool.false_eq_true] at hc
    rename_i c
    cases hcal:c.callee with
    | value x=>
      rw [hop] at h
      simp only [hcal] at h
      split at h
      · unfold evCall at h
        split at h
        · cases h
        · split at h
          · cases h
          · split at h
            · split at h
              · split at h
                · rename_i e; cases e
                · cases h
              · split at h
                · rename_i e; cases e
                · cases h
            · cases h
      · cases h
    | builtin b=>rw [hcal] at hc; cases hc
    | invoke _ _=>rw [hcal] at hc; cases hc
section
variable (Z:Seat) (n:Nat) (ops:Array Oper) (S0:St)
def DD (k:Nat) (S:St) (R0:List OpR) (K:St→Prop):Prop :=
  ∃ S' R,TraceX Z.P Z.tb Z.gl 0 n ops (ops.toList.drop k) S S' R∧orderOk S0 ops (R0 ++ R) = true∧K S'
end
section
variable {Z:Seat} {n:Nat} {ops:Array Oper} {S0:St}
def WQ (Q:St→Prop) (S:St):Prop:=Q S ∨ ∃ S3,SWk S S3∧Q S3
theorem stepX_nocall {tb:List TI} {gl:List (Nat × List AV)} {cfg:Cfg} {S:St} {o:Oper} {r:OpR} (Z:Seat) (h:evStep0 Z.tb cfg Z.gl noCall 0 ops S o = some r):StepX Z.P Z.tb Z.gl 0 ops S o r:=StepX.of (noCall_ok Z) (noCall_ent Z) h
theorem DD.fin {k:Nat} {S:St} {R0:List OpR} {Q:St→Prop} (S2:St) (hk:ops.size = k) (ho:orderOk S0 ops R0 = true) (hn:narrow S2 S = some S2) (hq:Q S2):DD Z n ops S0 k S R0 fun S1=>∃ S2,narrow S2 S1 = some S2∧WQ Q S2:=by
  refine ⟨S,[],?_,by simpa using ho,S2,hn,.inl hq⟩
  rw [List.drop_of_length_le (by simp [hk])]
  exact ⟨rfl,rfl⟩
theorem DD.done {k:Nat} {S:St} {R0:List OpR} {K:St→Prop} (hk:ops.size = k) (ho:orderOk S0 ops R0 = true) (hK:K S):DD Z n ops S0 k S R0 K:=by
  refine ⟨S,[],?_,by simpa using ho,hK⟩
  rw [List.drop_of_length_le (by simp [hk])]
  exact ⟨rfl,rfl⟩
def trSeg (tb:List TI) (cfg:Cfg) (gl:List (Nat × List AV)) (n:Nat) (ops:Array Oper) (k:Nat):Nat→St→Option (St × List OpR)
  | 0,S=>some (S,[])
  | m + 1,S=>match ops[k]? with
    | none=>none
    | some o=>match evStep0 tb cfg gl noCall 0 ops S o with
      | none=>none
      | some x=>match putO n o x S with
        | none=>none
        | some S'=>match trSeg tb cfg gl n ops (k + 1) m S' with
          | some (S'',xs)=>some (S'',x :: xs)
          | none=>none
def trR (tb:List TI) (cfg:Cfg) (gl:List (Nat × List AV)) (n:Nat) (ops:Array Oper) (k m:Nat) (S:St):List OpR:=((trSeg tb cfg gl n ops k m S).map (·.2)).getD []
theorem drop_cons {k:Nat} {o:Oper} (h:ops[k]? = some o):ops.toList.drop k = o :: ops.toList.drop (k + 1):=by
  obtain ⟨h1,h2⟩:=Array.getElem?_eq_some_iff.1 h
  rw [List.drop_eq_getElem_cons (by simpa using h1)]
  simp [h2]
theorem DD.one {k:Nat} {S S1:St} {R0:List OpR} {K:St→Prop} {o:Oper} (ho:ops[k]? = some o) {r:OpR} (h:StepX Z.P Z.tb Z.gl 0 ops S o r) (hp:putO n o r S = some S1) (hn:DD Z n ops S0 (k + 1) S1 (R0 ++ [r]) K):DD Z n ops S0 k S R0 K:=by
  obtain ⟨S',R,h1,h2,h3⟩:=hn
  refine ⟨S',r :: R,?_,by simpa using h2,h3⟩
  rw [drop_cons ho]
  exact ⟨r,S1,R,h,hp,h1,rfl⟩
theorem DD.seg {cfg:Cfg}:∀ (m k:Nat) {S S1:St} {R0 R1:List OpR} {K:St→Prop},trSeg Z.tb cfg Z.gl n ops k m S = some (S1,R1)→DD Z n ops S0 (k + m) S1 (R0 ++ R1) K→DD Z n ops S0 k S R0 K
  | 0,k,S,S1,R0,R1,K,h,hn=>by
    simp only [trSeg] at h
    cases h
    simpa using hn
  | m + 1,k,S,S1,R0,R1,K,h,hn=>by
    simp only [trSeg] at h
    split at h
    · cases h
    rename_i o ho
    split at h
    · cases h
    rename_i x hx
    split at h
    · cases h
    rename_i S2 hp
    split at h
    · rename_i S3 xs hr
      cases h
      exact DD.one ho (stepX_nocall (tb:=Z.tb) (gl:=Z.gl) Z hx) hp (DD.seg m (k + 1) (R0:=R0 ++ [x]) (R1:=xs) hr (by rw [show k + 1 + m = k + (m + 1) by omega]; simpa using hn))
    · cases h
theorem DD.run {k:Nat} {S:St} {R0:List OpR} {K:St→Prop} (cfg:Cfg) (p:Nat) (S1:St) (hk:k ≤ p) (h:(trSeg Z.tb cfg Z.gl n ops k (p - k) S).map (·.1) = some S1) (hn:DD Z n ops S0 p S1 (R0 ++ trR Z.tb cfg Z.gl n ops k (p - k) S) K):DD Z n ops S0 k S R0 K:=by
  cases hs:trSeg Z.tb cfg Z.gl n ops k (p - k) S with
  | none=>rw [hs] at h; cases h
  | some x=>
    obtain ⟨S2,R1⟩:=x
    rw [hs] at h
    cases h
    have e:trR Z.tb cfg Z.gl n ops k (p - k) S = R1:=by unfold trR; rw [hs]; rfl
    rw [e] at hn
    refine DD.seg (p - k) k hs ?_
    rw [show k + (p - k) = p by omega]; exact hn
def putR (n:Nat) (ops:Array Oper) (k:Nat) (r:OpR) (S:St):Option St :=
  match ops[k]? with
  | none=>none
  | some o=>putO n o r S
theorem DD.op {k:Nat} {S:St} {R0:List OpR} {K:St→Prop} (cfg:Cfg) (r:OpR) (S1:St) (h:opR Z.tb cfg Z.gl ops k S = some r) (hp:putR n ops k r S = some S1) (hn:DD Z n ops S0 (k + 1) S1 (R0 ++ [r]) K):DD Z n ops S0 k S R0 K:=by
  unfold opR at h
  unfold putR at hp
  split at h
  · cases h
  rename_i o ho
  rw [ho] at hp
  exact DD.one ho (stepX_nocall (tb:=Z.tb) (gl:=Z.gl) Z h) hp hn
def callR (p:Pre) (r:AV) (H2:Heap):OpR :=
  match ren (ofExt p.ids) r,renHeap (ofExt p.ids) H2 with
  | some r',some ws=>{ v:=clean r',ws,rd:=p.ids }
  | _,_=>{ v:=.undef }
theorem call_step0 {kt:Bool} {k:Nat} {S:St} (p:Pre) {r:AV} {H2:Heap} {S1:St} (hp:callPre kt Z.gl ops k S = some p) (hc:SF Z p.f p.args p.H r H2) (hs:callPost n S p r H2 = some S1) :
    ∃ o cfg call,ops[k]? = some o∧CallOk Z.P Z.gl call∧Enters Z.P call∧evStep0 Z.tb cfg Z.gl call 0 ops S o = some (callR p r H2)∧putO n o (callR p r H2) S = some S1:=by
  unfold callPre at hp
  split at hp
  · cases hp
  rename_i o ho
  split at hp <;> try cases hp
  rename_i hw
  split at hp <;> try cases hp
  rename_i c hop
  split at hp <;> try cases hp
  rename_i x hcal
  split at hp <;> try cases hp
  rename_i f first captured hx
  split at hp <;> try cases hp
  rename_i ids hreach
  split at hp <;> try cases hp
  rename_i hcl
  split at hp <;> try cases hp
  rename_i args' H' ha hH
  unfold callPost at hs
  split at hs <;> try cases hs
  rename_i r' ws hr hws
  simp only at hc hr hws hs
  obtain ⟨i1,i2⟩:=callL_ok (Z:=Z) (l:=[(f,argsOf kt args',H',r,H2)]) ⟨hc,trivial⟩
  cases hd:setDst n o.dst (clean r') S.A with
  | none=>rw [hd] at hs; cases hs
  | some A=>
    rw [hd] at hs
    cases hs
    have e:callR { f:=f,args:=argsOf kt args',H:=H',ids:=ids,dst:=o.dst } r H2 = { v:=clean r',ws:=ws,rd:=ids }:=by
      simp only [callR,hr,hws]
    rw [e]
    refine ⟨o,{ c0 with keep:=kt },_,ho,i1,i2,?_,?_⟩
    · unfold evStep0
      rw [hw]
      simp only [evOp,hop,hcal,hx]
      unfold evCall
      rw [hreach]
      simp only
      rw [if_neg hcl]
      simp only [ha,hH,c0,Bool.false_eq_true,if_false,callL_hd,hr,hws]
      have:adoptAt { ro:=fun _=>false,acc:=fun _ _=>false,accCells:=fun _ _=>[],kill:=fun _ _=>none,adopt:=fun _ _=>false,plainAp:=fun _ _=>false,keep:=kt } 0 o.dst = none:=by
        unfold adoptAt; split <;> simp
      rw [this,adopt_none]
      rfl
    · unfold putO; simp only [hd]
theorem DD.bool {k:Nat} {R0:List OpR} {K:St→Prop} (t:Bool) (F:Bool→St) (h1:t = true→DD Z n ops S0 k (F true) R0 K) (h0:t = false→DD Z n ops S0 k (F false) R0 K):DD Z n ops S0 k (F t) R0 K:=by
  cases t with
  | true=>exact h1 rfl
  | false=>exact h0 rfl
end
end Go.Proofs.YtjojaiomgdjhfaaGreatDoor.AE
namespace Go.Proofs.YtjojaiomgdjhfaaGreatDoor.AE
open Go
def tokFree (b:Oid) (S:St):Bool:=(S.A.all fun x=>!(toks x.2).contains b) && S.H.all fun x=>!x.2.toks.contains b
def emptyAt (s:Nat):AV→Bool
  | .nils=>true
  | .slice .full s' _=>s' == s
  | _=>false
def grows (b:Oid) (s:Nat):AV→AV
  | .slice _ _ es=>.slice (.buf b) s es
  | _=>.slice (.buf b) s []
def members:AV→Nat
  | .slice _ _ es=>es.length
  | _=>0
def beginOb (S:St) (b:Oid) (s:Nat) (o:Oid) (j:Nat):Option St :=
  match find S.H o with
  | some (.cells f cs)=>
    if (find S.H b).isNone && tokFree b S && !isExtB b && emptyAt s (cs.getD j .undef) && decide (j < cs.length) && f != .mw then some ⟨S.A,ins b (.buf s (members (cs.getD j .undef))) (ins o (.cells f (cs.set j (grows b s (cs.getD j .undef)))) S.H)⟩ else none
  | _=>none
def beginSt (S:St) (b:Oid) (s:Nat) (t:Nat):Option Nat→Option St
  | none=>if (find S.H b).isNone && tokFree b S && !isExtB b && emptyAt s (getA S.A t) then some ⟨put t (grows b s (getA S.A t)) S.A,ins b (.buf s (members (getA S.A t))) S.H⟩ else none
  | some j=>match getA S.A t with
    | .ptr o 0=>beginOb S b s o j
    | _=>none
theorem V_begin {g g1:Gh} {s:Nat} {b:Oid} {a:AV} {v:Value} (h:V g a v) (he:emptyAt s a = true) (hΓ:∀ c o x,g.Γ c o x→g1.Γ c o x) (ht:g1.tip b = some (s,members a)):V g1 (grows b s a) v:=by
  unfold emptyAt at he
  split at he
  · simp only [V,grows] at h ⊢
    exact .inl ⟨.inl h,trivial⟩
  · rename_i s' es
    have e:s' = s:=by simpa using he
    subst e
    simp only [V,grows] at h ⊢
    rcases h with ⟨hb,rfl⟩ | ⟨c,off,cap,h1,h2,h3,h4,h5⟩
    · refine .inl ⟨?_,rfl⟩
      rcases hb with hb | ⟨a,cap,hb,hc | hc⟩
      · exact .inl hb
      · cases hc
      · exact .inr ⟨a,cap,hb,.inr hc⟩
    · simp only [TokOk] at h5
      refine .inr ⟨c,off,cap,h1,h2,h3,h4.mono hΓ,fun s n hn=>?_⟩
      rw [ht] at hn
      cases hn
      exact ⟨Nat.le_refl _,fun _=>.inr h5⟩
  · cases he
def Gh.begun (g:Gh) (b:Oid) (H:Heap):Gh:={ g with bufc:=fun x=>if x = b then none else g.bufc x,tip:=tipOf H }
theorem begin_core {gl:List (Nat × List AV)} {n:Nat} {g:Gh} {S S1:St} {a:Act} {w:World} (h:StOk gl n g S a w) (b:Oid) (s:Nat) (m:Nat) (hb:find S.H b = none) (hf:tokFree b S = true) (hx:isExtB b = false)
    (hH:∀ x,x ≠ b→find S1.H x = find S.H x ∨ ∃ f cs j e,f ≠ .mw∧find S.H x = some (.cells f cs)∧find S1.H x = some (.cells f (cs.set j (grows b s e)))∧cs[j]? = some e∧emptyAt s e = true∧members e = m) (hHb:find S1.H b = some (.buf s m))
    (hA:∀ t,getA S1.A t = getA S.A t ∨ (getA S1.A t = grows b s (getA S.A t)∧emptyAt s (getA S.A t) = true∧members (getA S.A t) = m)) :
    ∃ g1,StOk gl n g1 S1 a w∧Ctx w g S.H g1 S1.H w∧Keep (fun b=>¬ IsExt b) g g1∧Pers S.H S1.H:=by
  simp only [tokFree,Bool.and_eq_true,List.all_eq_true,Bool.not_eq_true',List.contains_eq_mem,decide_eq_false_iff_not] at hf
  obtain ⟨f1,f2⟩:=hf
  have htip:∀ x,x ≠ b→tipOf S1.H x = tipOf S.H x:=by
    intro x hne
    unfold tipOf
    rcases hH x hne with e | ⟨f,cs,j,e,_,e1,e2,_⟩
    · rw [e]
    · rw [e1,e2]
  have hle:∀ x,x ≠ b→TokLe g (g.begun b S1.H) x:=fun x hne=>.same (by show tipOf S1.H x = g.tip x; rw [htip x hne,h.wc.tip]) (by simp [Gh.begun,hne])
  have hmono:∀ a v,(∀ y ∈ toks a,y ≠ b)→V g a v→V (g.begun b S1.H) a v:=fun a v ht hv=>V.mono (g:=g) (g':=g.begun b S1.H) (fun _ _ _ h=>h) a v (fun _ _ _ h=>h) (fun y hy=>hle y (ht y hy)) hv
  have hmonoL:∀ as vs,(∀ y ∈ toksL as,y ≠ b)→VL g as vs→VL (g.begun b S1.H) as vs:=fun a v ht hv=>VL.mono (g:=g) (g':=g.begun b S1.H) (fun _ _ _ h=>h) a v (fun _ _ _ h=>h) (fun y hy=>hle y (ht y hy)) hv
  have hslot:∀ t,∀ y ∈ toks (getA S.A t),y ≠ b:=by
    intro t y hy e
    subst e
    unfold getA at hy
    cases hq:find S.A t with
    | none=>rw [hq] at hy; simp [toks] at hy
    | some v=>rw [hq] at hy; exact f1 _ (find_mem hq) hy
  have hcell:∀ x ob,find S.H x = some ob→∀ y ∈ ob.toks,y ≠ b:=fun x ob hq y hy e=>f2 _ (find_mem hq) (e ▸ hy)
  have hblk:∀ x ob,find S1.H x = some ob→∀ c,(blockOf (g.begun b S1.H) x ob = some c→x ≠ b∧∃ ob0,find S.H x = some ob0∧blockOf g x ob0 = some c)∧(ownOf (g.begun b S1.H) x ob = some c→x ≠ b∧∃ ob0,find S.H x = some ob0∧ownOf g x ob0 = some c):=by
    intro x ob hq c
    by_cases hne:x = b
    · subst hne
      rw [hHb] at hq; cases hq
      exact ⟨fun h=>by simp [blockOf,Gh.begun] at h,fun h=>by simp [ownOf,Gh.begun] at h⟩
    · rcases hH x hne with e | ⟨f,cs,j,e,_,e1,e2,_⟩
      · rw [e] at hq
        refine ⟨fun h=>⟨hne,ob,hq,?_⟩,fun h=>⟨hne,ob,hq,?_⟩⟩
        · cases ob with
          | cells wr cs=>exact h
          | buf s n=>simp only [blockOf,Gh.begun,if_neg hne] at h ⊢; exact h
        · cases ob with
          | cells wr cs=>cases wr <;> exact h
          | buf s n=>simp only [ownOf,Gh.begun,if_neg hne] at h ⊢; exact h
      · rw [e2] at hq; cases hq
        exact ⟨fun h=>⟨hne,_,e1,h⟩,fun h=>⟨hne,_,e1,by cases f <;> exact h⟩⟩
  refine ⟨g.begun b S1.H,⟨⟨fun _=>rfl,fun c o x hc=>?_,fun x ob hq=>?_,fun x x' ob ob' c h1 h2 h3 h4=>?_⟩,fun t=>?_,h.size,h.defers,h.glob⟩,
    ⟨Nat.le_refl _,fun _ _ _=>⟨rfl,fun _=>rfl⟩,fun _ _ _ h=>h,fun c ⟨x,ob,q1,q2⟩=>.inl ?_,fun c ⟨x,ob,q1,q2⟩=>.inl ?_,rfl,rfl,rfl⟩,⟨fun _ _ _ h=>h,fun _ _ _ h=>h,fun x hne=>hle x ?_⟩,fun e he hs=>?_⟩
  · exact (h.wc.pin c o x hc).gam (g':=g.begun b S1.H) (fun _ _ _ h=>h) rfl
  · by_cases hne:x = b
    · subst hne
      rw [hHb] at hq; cases hq
      intro c cap hc
      simp [Gh.begun] at hc
    · rcases hH x hne with e | ⟨f,cs,j,e,e0,e1,e2,e3,e4,e5⟩
      · rw [e] at hq
        have h0:=h.wc.objs x ob hq
        cases ob with
        | cells wr cs=>
          obtain ⟨c,k1,k2,k4⟩:=h0
          exact ⟨c,k1,k2.mono rfl fun a v r1 r2 hv=>hmono a v (fun y hy=>hcell x _ hq y (r2 y hy)) hv,k4⟩
        | buf s n=>
          intro c cap hc
          simp only [Gh.begun,if_neg hne] at hc
          exact h0 c cap hc
      · rw [e2] at hq; cases hq
        obtain ⟨c,k1,k2,k4⟩:=h.wc.objs x _ e1
        refine ⟨c,k1,k2.point (g':=g.begun b S1.H) e0 (by simp) fun i a a' v ha ha' hv=>?_,k4⟩
        rw [List.getElem?_set] at ha'
        split at ha'
        · rename_i hji
          subst hji
          split at ha'
          · cases ha'
            rw [e3] at ha; cases ha
            exact V_begin hv e4 (fun _ _ _ h=>h) (by show tipOf S1.H b = _; simp [tipOf,hHb,e5])
          · cases ha'
        · rw [ha] at ha'; cases ha'
          exact hmono _ _ (fun y hy=>hcell x _ e1 y (toksL_mem (List.mem_of_getElem? ha) hy)) hv
  · obtain ⟨_,ob0,q1,q2⟩:=(hblk x ob h1 c).1 h3
    obtain ⟨_,ob0',q3,q4⟩:=(hblk x' ob' h2 c).1 h4
    exact h.wc.inj x x' ob0 ob0' c q1 q3 q2 q4
  · rcases hA t with e | ⟨e1,e2,e3⟩
    · rw [e]; exact hmono _ _ (hslot t) (h.vals t)
    · rw [e1]; exact V_begin (h.vals t) e2 (fun _ _ _ h=>h) (by show tipOf S1.H b = _; simp [tipOf,hHb,e3])
  · obtain ⟨_,ob0,q3,q4⟩:=(hblk x ob q1 c).2 q2
    exact ⟨x,ob0,q3,q4⟩
  · obtain ⟨_,ob0,q3,q4⟩:=(hblk x ob q1 c).1 q2
    exact ⟨x,ob0,q3,q4⟩
  · intro e
    subst e
    exact hne fun hi=>by rw [(isExtB_iff x).2 hi] at hx; cases hx
  · by_cases hne:e = b
    · subst hne; rw [hHb]; rfl
    · rcases hH e hne with q | ⟨f,cs,j,e',_,e1,e2,_⟩
      · rw [q]; exact hs
      · rw [e2]; rfl
theorem beginOb_ok {gl:List (Nat × List AV)} {n:Nat} {g:Gh} {S S1:St} {a:Act} {w:World} (h:StOk gl n g S a w) {b o:Oid} {s j:Nat} (hs:beginOb S b s o j = some S1) :
    ∃ g1,StOk gl n g1 S1 a w∧Ctx w g S.H g1 S1.H w∧Keep (fun b=>¬ IsExt b) g g1∧Pers S.H S1.H:=by
  unfold beginOb at hs
  split at hs
  case h_2=>cases hs
  rename_i f cs hcs
  split at hs
  case isFalse=>cases hs
  rename_i hc
  cases hs
  simp only [Bool.and_eq_true,Option.isNone_iff_eq_none,Bool.not_eq_true',decide_eq_true_eq,bne_iff_ne,ne_eq] at hc
  obtain ⟨⟨⟨⟨⟨c1,c2⟩,c3⟩,c4⟩,c5⟩,c6⟩:=hc
  have ec:cs.getD j .undef = cs[j]:=by rw [List.getD_eq_getElem?_getD,List.getElem?_eq_getElem c5,Option.getD_some]
  refine begin_core h b s (members cs[j]) c1 c2 c3 (fun x hne=>?_) ?_ fun u=>.inl rfl
  · by_cases e:o = x
    · subst e
      right
      refine ⟨f,cs,j,cs[j],c6,hcs,?_,List.getElem?_eq_getElem c5,?_,rfl⟩
      · rw [find_ins,if_neg (Ne.symm hne),find_ins,if_pos rfl,ec]
      · rwa [ec] at c4
    · left; rw [find_ins,if_neg (Ne.symm hne),find_ins,if_neg e]
  · rw [find_ins,if_pos rfl,ec]
theorem begin_ok {gl:List (Nat × List AV)} {n:Nat} {g:Gh} {S S1:St} {a:Act} {w:World} (h:StOk gl n g S a w) {b:Oid} {s t:Nat} {j:Option Nat} (hs:beginSt S b s t j = some S1) :
    ∃ g1,StOk gl n g1 S1 a w∧Ctx w g S.H g1 S1.H w∧Keep (fun b=>¬ IsExt b) g g1∧Pers S.H S1.H:=by
  cases j with
  | none=>
    simp only [beginSt] at hs
    split at hs
    · rename_i hc
      cases hs
      simp only [Bool.and_eq_true,Option.isNone_iff_eq_none,Bool.not_eq_true'] at hc
      obtain ⟨⟨⟨c1,c2⟩,c3⟩,c4⟩:=hc
      refine begin_core h b s _ c1 c2 c3 (fun x hne=>.inl ?_) (by rw [find_ins,if_pos rfl]) fun u=>?_
      · rw [find_ins,if_neg (Ne.symm hne)]
      · by_cases e:t = u
        · subst e; right; exact ⟨by rw [getA_put,if_pos rfl],c4,rfl⟩
        · left; rw [getA_put,if_neg e]
    · cases hs
  | some j=>
    simp only [beginSt] at hs
    split at hs <;> try cases hs
    exact beginOb_ok h hs
section
variable {Z:Seat} {n:Nat}
theorem SC.begin {c:Code} {S:St} {Q:Ex→St→Prop} (b:Oid) (s t:Nat) (j:Option Nat) (S1:St) (hs:beginSt S b s t j = some S1) (h:SC Z n c S1 Q):SC Z n c S Q:=by
  intro g a w hS
  obtain ⟨g1,k1,k2,k3,k4⟩:=begin_ok hS hs
  exact wp_mono (h g1 a w k1) fun e a' w' ⟨x,S',h1,h2⟩=>⟨x,S',h1,CodePost.trans k2 k3 k4 e a' w' h2⟩
theorem SO.begin {ops:Array Oper} {k e:Nat} {S:St} {K:St→Prop} (b:Oid) (s t:Nat) (j:Option Nat) (S1:St) (hs:beginSt S b s t j = some S1) (h:SO Z n ops k e S1 K):SO Z n ops k e S K:=by
  intro g a w hS Q m hq
  obtain ⟨g1,k1,k2,k3,k4⟩:=begin_ok hS hs
  exact h g1 a w k1 Q m fun S' a' w' hK st=>hq S' a' w' hK (StepTo.trans k2 k3 k4 st)
theorem SO.beginO {ops:Array Oper} {k e:Nat} {S:St} {K:St→Prop} (b:Oid) (s:Nat) (o:Oid) (j:Nat) (S1:St) (hs:beginOb S b s o j = some S1) (h:SO Z n ops k e S1 K):SO Z n ops k e S K:=by
  intro g a w hS Q m hq
  obtain ⟨g1,k1,k2,k3,k4⟩:=beginOb_ok hS hs
  exact h g1 a w k1 Q m fun S' a' w' hK st=>hq S' a' w' hK (StepTo.trans k2 k3 k4 st)
theorem SC.beginO {c:Code} {S:St} {Q:Ex→St→Prop} (b:Oid) (s:Nat) (o:Oid) (j:Nat) (S1:St) (hs:beginOb S b s o j = some S1) (h:SC Z n c S1 Q):SC Z n c S Q:=by
  intro g a w hS
  obtain ⟨g1,k1,k2,k3,k4⟩:=beginOb_ok hS hs
  exact wp_mono (h g1 a w k1) fun e a' w' ⟨x,S',h1,h2⟩=>⟨x,S',h1,CodePost.trans k2 k3 k4 e a' w' h2⟩
end
end Go.Proofs.YtjojaiomgdjhfaaGreatDoor.AE
namespace Go.Proofs.YtjojaiomgdjhfaaGreatDoor.AE
open Go
section
variable {Z:Seat} {n:Nat}
def Unr (Z:Seat) (n:Nat) (c:Code) (Q:Ex→St→Prop):Nat→St→Prop
  | 0,_=>False
  | m + 1,S=>SC Z n c S (thenK (Unr Z n c Q m) Q)
theorem thenK_mono {R R':St→Prop} {Q:Ex→St→Prop} (h:∀ S,R S→R' S):∀ e S,thenK R Q e S→thenK R' Q e S
  | .normal,S,hk=>h S hk
  | .exit _,S,hk=>hk
  | .ret,S,hk=>hk
theorem SC.post {c:Code} {S:St} {Q Q':Ex→St→Prop} (h:SC Z n c S Q) (hq:∀ e S,Q e S→Q' e S):SC Z n c S Q' :=
  fun g a w hs=>wp_mono (h g a w hs) fun e a' w' ⟨x,S',h1,h2⟩=>⟨x,S',hq _ _ h1,h2⟩
theorem SC.loopU {c:Code} {S:St} {Q:Ex→St→Prop} (m:Nat) (h:Unr Z n c Q m S):SC Z n (.loop c) S Q:=by
  cases m with
  | zero=>exact h.elim
  | succ m=>
    refine SC.loopI m (fun j S=>Unr Z n c Q (j + 1) S) (fun j S hj=>?_) h
    refine SC.post hj (thenK_mono fun S1 h1=>?_)
    cases j with
    | zero=>exact h1.elim
    | succ i=>exact ⟨i,rfl,h1⟩
end
def clearN (S:St) (m:Nat):Bool :=
  (S.A.all fun x=>!(refs x.2).any (rooted m) && !(toks x.2).any (rooted m)) &&
  (S.H.all fun x=>!rooted m x.1 && !x.2.refs.any (rooted m) && !x.2.toks.any (rooted m))
theorem clearN_spec {m:Nat} {S:St} (h:clearN S m = true):ClearH m S.H∧∀ t,Off (fun b=>rooted m b = true) (getA S.A t):=by
  simp only [clearN,Bool.and_eq_true,List.all_eq_true] at h
  obtain ⟨h1,h2⟩:=h
  refine ⟨⟨fun b hb=>?_,fun x ob hf y hy=>?_⟩,fun t=>?_⟩
  · cases hf:find S.H b with
    | none=>rfl
    | some ob=>
      have:=h2 _ (find_mem hf)
      simp only [Bool.not_eq_true'] at this
      rw [this.1.1] at hb; cases hb
  · have:=h2 _ (find_mem hf)
    simp only [Bool.not_eq_true',List.any_eq_false] at this
    rcases List.mem_append.1 hy with hy | hy
    · simpa using this.1.2 y hy
    · simpa using this.2 y hy
  · unfold getA
    cases hf:find S.A t with
    | none=>exact ⟨by simp [refs],by simp [toks]⟩
    | some v=>
      have:=h1 _ (find_mem hf)
      simp only [Bool.not_eq_true',List.any_eq_false] at this
      exact ⟨fun b hb=>by simpa using this.1 b hb,fun b hb=>by simpa using this.2 b hb⟩
def newCs:Fl→Option (List AV)
  | .mw=>some [.mapf [] []]
  | .mk _ [] _=>some []
  | _=>none
theorem newCs_body {g:Gh} {w:World} {c:Nat} {f:Fl} {cs:List AV} (h:newCs f = some cs) {k:Nat} (hw:w.heap[c]? = some (.map #[] k)):Body g w c f cs:=by
  unfold newCs at h
  split at h
  · cases h
    exact ⟨#[],k,[],[],_,hw,rfl,⟨rfl,rfl,rfl,rfl⟩,rfl,rfl,.inr rfl⟩
  · cases h
    exact ⟨#[],k,hw,by simp,rfl⟩
  · cases h
section
variable {Z:Seat} {n:Nat}
theorem SO.newMap {ops:Array Oper} {k e:Nat} {S:St} {K:St→Prop} {o:Oper} {t:TypeId} {d:Nat} (m:Nat) (f:Fl) {cs:List AV} (hk:k < e) (ho:ops[k]? = some o) (hop:o.op = .makeMap t none) (hd:o.dst = some d) (hdn:d < n)
    (hw:evWanted ops S.A o = some true) (hf:newCs f = some cs) (hc:clearN S m = true) (hn:SO Z n ops (k + 1) e ⟨put d (.mapr (.loc m)) S.A,ins (.loc m) (.cells f cs) S.H⟩ K):SO Z n ops k e S K:=by
  intro g a w hS Q q hq
  have hwt:Region.wanted o (yielded ops a.tmps) = true:=wanted_spec hS.vals _ hw
  obtain ⟨c1,c2⟩:=clearN_spec hc
  obtain ⟨g',h1,h2,h3,h4⟩:=hS.wc.newOb c1 f cs (.map #[] 0) [] (fun x hx=>by cases hx) fun g' _ _=>newCs_body hf (heap_alloc_new w (.map #[] 0))
  have hrun:(execOp a.eval o).run Z.P w = .ok (.value (.map (some w.heap.size))) (w.alloc (.map #[] 0)):=by
    simp only [execOp,hop]
    rfl
  have hset:setDst n o.dst (.mapr (.loc m)) S.A = some (put d (.mapr (.loc m)) S.A):=by rw [hd]; simp only [setDst,if_pos hdn]
  have st:StepTo Z.gl n g S w ⟨put d (.mapr (.loc m)) S.A,ins (.loc m) (.cells f cs) S.H⟩ (a.put o.dst (.map (some w.heap.size))) (w.alloc (.map #[] 0)):=by
    refine ⟨g',⟨h2,vals_put hS.size hset ⟨_,h1,rfl⟩ (fun t _=>h3.V (c2 t) (hS.vals t)),by rw [put_size]; exact hS.size,by rw [put_defers]; exact hS.defers,fun x hx=>(hS.glob x hx).mono h3.gam⟩,h4,h3.wider fun b hb he=>?_,fun x hx hs=>?_⟩
    · obtain ⟨i,hi⟩:=he
      unfold rooted at hb
      simp only [hi,decide_eq_true_eq] at hb
      cases hb
    · show (find (ins (.loc m) (.cells f cs) S.H) x).isSome = true
      rw [find_ins]
      split
      · rfl
      · exact hs
  rw [show e - k + q = (e - (k + 1) + q) + 1 by omega]
  simp only [List.range'_succ,wpOps,ho]
  rw [if_pos hwt]
  refine .inl ?_
  unfold Oper.wp
  rw [hrun]
  obtain ⟨g1,k1,k2,k3,k4⟩:=st
  exact hn g1 _ _ k1 Q q fun S' a' w' hK st2=>hq S' a' w' hK (StepTo.trans k2 k3 k4 st2)
end
mutual
def subM (b:Oid) (z:AV):AV→AV
  | .mapr c=>if c = b then z else .mapr c
  | .fn f x y=>.fn f (subML b z x) (subML b z y)
  | .iface t v=>.iface t (subM b z v)
  | .agg cs=>.agg (subML b z cs)
  | .tuple vs=>.tuple (subML b z vs)
  | v=>v
def subML (b:Oid) (z:AV):List AV→List AV
  | []=>[]
  | v :: r=>subM b z v :: subML b z r
end
theorem subML_map (b:Oid) (z:AV):∀ l:List AV,subML b z l = l.map (subM b z)
  | []=>rfl
  | v :: r=>by simp only [subML,List.map_cons,subML_map b z r]
mutual
theorem V_sub {g g':Gh} {b:Oid} {z:AV} (hg:∀ c o x,g.Γ c o x→g'.Γ c o x) (hm:∀ x,g'.μ x = g.μ x) (ht:∀ x,TokLe g g' x) (hz:∀ v,V g (.mapr b) v→V g' z v):∀ (a:AV) (v:Value),V g a v→V g' (subM b z a) v
  | .mapr c,v,h=>by
    simp only [subM]
    split
    · rename_i e; subst e; exact hz v h
    · obtain ⟨q,h1,h2⟩:=h; exact ⟨q,by rw [hm]; exact h1,h2⟩
  | .fn f x y,v,h=>by
    obtain ⟨p,q,h1,h2,h3⟩:=h
    exact ⟨p,q,h1,VL_sub hg hm ht hz x _ h2,VL_sub hg hm ht hz y _ h3⟩
  | .iface t x,v,h=>by
    obtain ⟨p,h1,h2⟩:=h
    exact ⟨p,h1,V_sub hg hm ht hz x _ h2⟩
  | .agg cs,v,h=>by
    obtain ⟨p,h1,h2⟩:=h
    exact ⟨p,h1,VL_sub hg hm ht hz cs _ h2⟩
  | .tuple cs,v,h=>by
    obtain ⟨p,h1,h2⟩:=h
    exact ⟨p,h1,VL_sub hg hm ht hz cs _ h2⟩
  | .undef,v,h=>trivial
  | .bool _,v,h=>h
  | .int _ _,v,h=>h
  | .str _,v,h=>h
  | .nilp,v,h=>h
  | .nils,v,h=>h
  | .nilm,v,h=>h
  | .nilf,v,h=>h
  | .nili,v,h=>h
  | .ptr b off,v,h=>V.mono hg _ v (fun x _ c hc=>by rw [hm]; exact hc) (fun x _=>ht x) h
  | .pin cs,v,h=>V.mono hg _ v (fun x _ c hc=>by rw [hm]; exact hc) (fun x _=>ht x) h
  | .slice tok s es,v,h=>V.mono hg _ v (fun x _ c hc=>by rw [hm]; exact hc) (fun x _=>ht x) h
  | .mref b s o l c,v,h=>V.mono hg _ v (fun x _ c hc=>by rw [hm]; exact hc) (fun x _=>ht x) h
  | .mapf ks vs,v,h=>V.mono hg _ v (fun x _ c hc=>by rw [hm]; exact hc) (fun x _=>ht x) h
theorem VL_sub {g g':Gh} {b:Oid} {z:AV} (hg:∀ c o x,g.Γ c o x→g'.Γ c o x) (hm:∀ x,g'.μ x = g.μ x) (ht:∀ x,TokLe g g' x) (hz:∀ v,V g (.mapr b) v→V g' z v):∀ (as:List AV) (vs:List Value),VL g as vs→VL g' (subML b z as) vs
  | [],_,h=>h
  | a :: as,_,h=>by
    obtain ⟨v,vs,h1,h2,h3⟩:=h
    exact ⟨v,vs,h1,V_sub hg hm ht hz a v h2,VL_sub hg hm ht hz as vs h3⟩
end
def subOb (b:Oid) (z:AV):Ob→Ob
  | .cells f cs=>.cells f (subML b z cs)
  | ob=>ob
def still (es:List (AV × AV)):Bool:=es.all fun e=>(refs e.1).isEmpty && (toks e.1).isEmpty && (refs e.2).isEmpty && (toks e.2).isEmpty
def frzOf (es:List (AV × AV)):AV:=.mapf (es.map (·.1)) (es.map (·.2))
def freezeM (S:St) (b:Oid):Option St :=
  match find S.H b with
  | some (.cells f cs)=>match entsOf f cs with
    | some es=>if still es && !isExtB b then some ⟨S.A.map fun x=>(x.1,subM b (frzOf es) x.2),(S.H.filter fun x=>!decide (x.1 = b)).map fun x=>(x.1,subOb b (frzOf es) x.2)⟩ else none
    | none=>none
  | _=>none
theorem zip_maps:∀ es:List (AV × AV),(es.map (·.1)).zip (es.map (·.2)) = es
  | []=>rfl
  | e :: r=>by simp only [List.map_cons,List.zip_cons_cons,zip_maps r]
theorem freezeM_ok {gl:List (Nat × List AV)} {n:Nat} {g:Gh} {S S1:St} {a:Act} {w:World} (h:StOk gl n g S a w) {b:Oid} (hs:freezeM S b = some S1) :
    ∃ g1,StOk gl n g1 S1 a w∧Ctx w g S.H g1 S1.H w∧Keep (fun b=>¬ IsExt b) g g1∧Pers S.H S1.H:=by
  unfold freezeM at hs
  split at hs
  case h_2=>cases hs
  rename_i f cs hb
  split at hs
  case h_2=>cases hs
  rename_i es he
  split at hs
  case isFalse=>cases hs
  rename_i hc
  cases hs
  simp only [Bool.and_eq_true,Bool.not_eq_true'] at hc
  obtain ⟨hst,hext⟩:=hc
  obtain ⟨c,m1,kb,m4⟩:=h.wc.objs b _ hb
  obtain ⟨l,k,hl,hml⟩:=kb.ents he
  have hst':∀ e ∈ es,(refs e.1 = []∧toks e.1 = [])∧refs e.2 = []∧toks e.2 = []:=by
    intro e hx
    have:=List.all_eq_true.1 hst e hx
    simp only [Bool.and_eq_true,List.isEmpty_iff] at this
    exact ⟨⟨this.1.1.1,this.1.1.2⟩,this.1.2,this.2⟩
  let ks:=es.map (·.1)
  let vs:=es.map (·.2)
  let H1:Heap:=(S.H.filter fun x=>!decide (x.1 = b)).map fun x=>(x.1,subOb b (frzOf es) x.2)
  let g1:Gh:={ g with Γ:=fun c' o x=>if c' = c then (o = 0∧x = mapMark ks vs) else g.Γ c' o x,tip:=tipOf H1 }
  have hf1:∀ x,find H1 x = if x = b then none else (find S.H x).map (subOb b (frzOf es)):=by
    intro x
    show find ((S.H.filter fun x=>!decide (x.1 = b)).map fun x=>(x.1,subOb b (frzOf es) x.2)) x = _
    rw [find_map (subOb b (frzOf es)),find_filter (fun x:Oid × Ob=>!decide (x.1 = b)) (fun y=>!decide (y = b)) (fun _=>rfl)]
    by_cases e:x = b <;> simp [e]
  have hΓ:∀ c' o x,g.Γ c' o x→g1.Γ c' o x:=by
    intro c' o x hx
    show if c' = c then _ else _
    rw [if_neg]
    · exact hx
    · rintro rfl; rw [m4 o] at hx; exact hx
  have htip:∀ x,g1.tip x = g.tip x:=by
    intro x
    show tipOf H1 x = _
    rw [h.wc.tip]
    unfold tipOf
    rw [hf1]
    by_cases e:x = b
    · subst e; rw [hb,if_pos rfl]
    · rw [if_neg e]
      cases hq:find S.H x with
      | none=>rfl
      | some ob=>cases ob <;> rfl
  have htok:∀ x,TokLe g g1 x:=fun x=>.same (htip x) rfl
  have hk:Keep (fun _=>False) g g1:=⟨hΓ,fun _ _ _ h=>h,fun x _=>htok x⟩
  have hz:∀ v,V g (.mapr b) v→V g1 (frzOf es) v:=by
    intro v hv
    obtain ⟨c',q1,rfl⟩:=hv
    rw [m1] at q1; cases q1
    refine .inr ⟨c,rfl,?_⟩
    show if c = c then _ else _
    rw [if_pos rfl]; exact ⟨rfl,rfl⟩
  have hV:=V_sub (g:=g) (g':=g1) (b:=b) (z:=frzOf es) hΓ (fun _=>rfl) htok hz
  have hblk:∀ x ob,blockOf g1 x (subOb b (frzOf es) ob) = blockOf g x ob∧ownOf g1 x (subOb b (frzOf es) ob) = ownOf g x ob:=by
    intro x ob
    cases ob with
    | cells wr _=>cases wr <;> exact ⟨rfl,rfl⟩
    | buf _ _=>exact ⟨rfl,rfl⟩
  have hsub:∀ x ob,find H1 x = some ob→x ≠ b∧∃ ob0,find S.H x = some ob0∧ob = subOb b (frzOf es) ob0:=by
    intro x ob hx
    rw [hf1] at hx
    split at hx
    · cases hx
    · rename_i e
      obtain ⟨ob0,q1,q2⟩:=Option.map_eq_some_iff.1 hx
      exact ⟨e,ob0,q1,q2.symm⟩
  have hne:∀ x ob0 c',x ≠ b→find S.H x = some ob0→blockOf g x ob0 = some c'→c' ≠ c:=by
    intro x ob0 c' h0 h1 h2 e
    subst e
    exact h0 (h.wc.inj x b _ _ _ h1 hb h2 m1)
  have hgam:∀ c',c' ≠ c→∀ o,g1.Γ c' o = g.Γ c' o:=fun c' hn o=>by
    funext x
    show (if c' = c then _ else _) = _
    rw [if_neg hn]
  refine ⟨g1,⟨⟨fun x=>rfl,fun c' o x hx=>?_,fun x ob hx=>?_,fun b1 b2 o1 o2 c' h1 h2 h3 h4=>?_⟩,fun t=>?_,h.size,h.defers,fun x hx=>(h.glob x hx).mono hΓ⟩,
    ⟨Nat.le_refl _,fun c' _ hn=>⟨rfl,fun o=>?_⟩,hΓ,fun c' hl=>.inl ?_,fun c' hl=>.inl ?_,rfl,rfl,rfl⟩,hk.wider fun _ h=>h.elim,fun x hx hsm=>?_⟩
  · have hx2:if c' = c then (o = 0∧x = mapMark ks vs) else g.Γ c' o x:=hx
    by_cases e:c' = c
    · rw [if_pos e] at hx2
      obtain ⟨ho,hxm⟩:=hx2
      subst e; subst ho; subst hxm
      have hzip:ks.zip vs = es:=zip_maps es
      refine .inr ⟨ks,vs,l,k,rfl,rfl,by simp [ks,vs],hl,?_,?_,?_,?_,?_⟩
      · rw [hzip]
        refine hml.map fun e hx v=>?_
        obtain ⟨⟨r1,r2⟩,r3,r4⟩:=hst' e hx
        exact ⟨fun h=>h.still hΓ r1 r2,fun h=>h.still hΓ r3 r4⟩
      · exact List.eq_nil_iff_forall_not_mem.2 fun y hy=>by
          obtain ⟨u,u1,u2⟩:=refsL_of hy
          obtain ⟨e,e1,rfl⟩:=List.mem_map.1 u1
          rw [(hst' e e1).1.1] at u2; cases u2
      · exact List.eq_nil_iff_forall_not_mem.2 fun y hy=>by
          obtain ⟨u,u1,u2⟩:=refsL_of hy
          obtain ⟨e,e1,rfl⟩:=List.mem_map.1 u1
          rw [(hst' e e1).2.1] at u2; cases u2
      · exact List.eq_nil_iff_forall_not_mem.2 fun y hy=>by
          obtain ⟨u,u1,u2⟩:=toksL_of hy
          obtain ⟨e,e1,rfl⟩:=List.mem_map.1 u1
          rw [(hst' e e1).1.2] at u2; cases u2
      · exact List.eq_nil_iff_forall_not_mem.2 fun y hy=>by
          obtain ⟨u,u1,u2⟩:=toksL_of hy
          obtain ⟨e,e1,rfl⟩:=List.mem_map.1 u1
          rw [(hst' e e1).2.2] at u2; cases u2
    · rw [if_neg e] at hx2; exact hk.pinOk (h.wc.pin c' o x hx2) rfl
  · obtain ⟨hxb,ob0,q1,rfl⟩:=hsub x ob hx
    have h0:=h.wc.objs x ob0 q1
    cases ob0 with
    | cells wr cs'=>
      obtain ⟨c2,k1,k2,k4⟩:=h0
      have hn:=hne x _ c2 hxb q1 k1
      refine ⟨c2,k1,?_,fun o=>by rw [hgam c2 hn]; exact k4 o⟩
      by_cases hmw:wr = .mw
      · subst hmw
        obtain ⟨l2,k3,ks2,vs2,a2,e1,e2,e3,e4,rfl,e6⟩:=k2
        have:subML b (frzOf es) [a2] = [a2]:=by rcases e6 with rfl | rfl <;> rfl
        rw [this]
        exact Body.mono (f:=.mw) (cs:=[a2]) (w:=w) ⟨l2,k3,ks2,vs2,a2,e1,e2,e3,e4,rfl,e6⟩ rfl (by
          rcases e6 with rfl | rfl <;> exact fun a v r1 r2 hv=>hv.still hΓ (List.eq_nil_iff_forall_not_mem.2 fun y hy=>by simpa [refsL,refs] using r1 y hy) (List.eq_nil_iff_forall_not_mem.2 fun y hy=>by simpa [toksL,toks] using r2 y hy))
      · refine k2.point hmw (by rw [subML_map,List.length_map]) fun i a a' v ha ha' hv=>?_
        rw [subML_map,List.getElem?_map,ha] at ha'
        cases ha'
        exact hV a v hv
    | buf s n2=>
      intro c2 cap hcb
      have hcb:g.bufc x = some (c2,cap):=hcb
      obtain ⟨us2,e2,k2,k3,k5,k4⟩:=h0 c2 cap hcb
      have hn:=hne x _ c2 hxb q1 (by simp only [blockOf]; rw [hcb]; rfl)
      exact ⟨us2,e2,k2,k3,k5,fun o ho=>by rw [hgam c2 hn]; exact k4 o ho⟩
  · obtain ⟨_,ob1,q1,rfl⟩:=hsub b1 o1 h1
    obtain ⟨_,ob2,q2,rfl⟩:=hsub b2 o2 h2
    rw [(hblk _ _).1] at h3 h4
    exact h.wc.inj b1 b2 ob1 ob2 c' q1 q2 h3 h4
  · have:getA (S.A.map fun x=>(x.1,subM b (frzOf es) x.2)) t = subM b (frzOf es) (getA S.A t):=by
      simp only [getA]
      rw [find_map (subM b (frzOf es))]
      cases find S.A t <;> rfl
    show V g1 (getA (S.A.map fun x=>(x.1,subM b (frzOf es) x.2)) t) _
    rw [this]
    exact hV _ _ (h.vals t)
  · by_cases e:c' = c
    · subst e
      exfalso
      exact hn ⟨b,_,hb,by cases f <;> first | exact m1 | (simp [entsOf] at he)⟩
    · exact congrFun (funext fun o=>hgam c' e o) o
  · obtain ⟨x,ob,q1,q2⟩:=hl
    obtain ⟨_,ob0,q3,rfl⟩:=hsub x ob q1
    rw [(hblk _ _).2] at q2
    exact ⟨x,ob0,q3,q2⟩
  · obtain ⟨x,ob,q1,q2⟩:=hl
    obtain ⟨_,ob0,q3,rfl⟩:=hsub x ob q1
    rw [(hblk _ _).1] at q2
    exact ⟨x,ob0,q3,q2⟩
  · show (find H1 x).isSome = true
    rw [hf1,if_neg]
    · rw [Option.isSome_map]; exact hsm
    · rintro rfl
      rw [(isExtB_iff x).2 hx] at hext; cases hext
section
variable {Z:Seat} {n:Nat}
theorem SO.freeze {ops:Array Oper} {k e:Nat} {S:St} {K:St→Prop} (b:Oid) (S1:St) (hs:freezeM S b = some S1) (h:SO Z n ops k e S1 K):SO Z n ops k e S K:=by
  intro g a w hS Q m hq
  obtain ⟨g1,k1,k2,k3,k4⟩:=freezeM_ok hS hs
  exact h g1 a w k1 Q m fun S' a' w' hK st=>hq S' a' w' hK (StepTo.trans k2 k3 k4 st)
end
end Go.Proofs.YtjojaiomgdjhfaaGreatDoor.AE
namespace Go.Proofs.YtjojaiomgdjhfaaGreatDoor.F
open Go
def joinK {α ρ:Type} (J:α→Option ρ) (B:(α→Option ρ)→Option ρ):Option ρ:=B J
def loopM {σ ρ:Type}:Nat→(σ→Option (σ ⊕ ρ))→σ→Option ρ
  | 0,_,_=>none
  | k + 1,body,s=>match body s with
    | some (.inl s')=>loopM k body s'
    | some (.inr r)=>some r
    | none=>none
def ix {α:Type} (l:List α) (i:Int):Option α:=if 0 ≤ i then l[i.toNat]? else none
def sub {α:Type} (l:List α) (lo hi:Int):Option (List α):=if 0 ≤ lo∧lo ≤ hi∧hi ≤ l.length then some ((l.take hi.toNat).drop lo.toNat) else none
def room (bytes n:Nat):Bool:=decide (0 < bytes∧(2 * n + 1024) * bytes ≤ 140737488355328)
def mx (a b:Int):Int:=if (if true = true then b > a else b < a) then b else a
def mn (a b:Int):Int:=if (if false = true then b > a else b < a) then b else a
theorem mx_eq (a b:Int):mx a b = max a b:=by unfold mx; simp only [if_true]; omega
theorem mn_eq (a b:Int):mn a b = min a b:=by unfold mn; simp only [Bool.false_eq_true,if_false]; omega
def mgetI {V:Type} (k:Int):List (Int × V)→Option V
  | []=>none
  | (a,v) :: r=>if a == k then some v else mgetI k r
def mgetS {V:Type} (k:List UInt8):List (List UInt8 × V)→Option V
  | []=>none
  | (a,v) :: r=>if a == k then some v else mgetS k r
def msetI {V:Type} (k:Int) (x:V):List (Int × V)→List (Int × V)
  | []=>[(k,x)]
  | (a,v) :: r=>if a == k then (a,x) :: r else (a,v) :: msetI k x r
def msetS {V:Type} (k:List UInt8) (x:V):List (List UInt8 × V)→List (List UInt8 × V)
  | []=>[(k,x)]
  | (a,v) :: r=>if a == k then (a,x) :: r else (a,v) :: msetS k x r
theorem Opt.t {α:Type} {c:Bool} {A B:Option α} {r:α} (h:(if c = true then A else B) = some r) (hc:c = true):A = some r:=by rw [if_pos hc] at h; exact h
theorem Opt.f {α:Type} {c:Bool} {A B:Option α} {r:α} (h:(if c = true then A else B) = some r) (hc:c = false):B = some r:=by rw [if_neg (by rw [hc]; simp)] at h; exact h
theorem Opt.g {α:Type} {c:Bool} {A:Option α} {r:α} (h:(if c = true then A else none) = some r):c = true∧A = some r:=by
  cases c with
  | true=>exact ⟨rfl,h⟩
  | false=>cases h
theorem Opt.ex {α β:Type} {m:Option α} {f:α→Option β} {r:β} (h:m.bind f = some r):∃ x,m = some x∧f x = some r:=Option.bind_eq_some_iff.1 h
theorem Opt.inr {σ ρ:Type} {m:Option ρ} {x:σ ⊕ ρ} (h:m.map Sum.inr = some x):∃ r,m = some r∧x = .inr r:=by
  cases m with
  | none=>cases h
  | some r=>cases h; exact ⟨r,rfl,rfl⟩
theorem loopM_step {σ ρ:Type} (k:Nat) (body:σ→Option (σ ⊕ ρ)) (s:σ):loopM (k + 1) body s = match body s with
    | some (.inl s')=>loopM k body s'
    | some (.inr r)=>some r
    | none=>none:=rfl
theorem wrap64_id {x:Int} (h1 : -9223372036854775808 ≤ x) (h2:x ≤ 9223372036854775807):IntKind.i64.wrap x = x:=by
  simp only [IntKind.wrap,IntKind.bits,IntKind.signed]
  simp
  omega
end Go.Proofs.YtjojaiomgdjhfaaGreatDoor.F
namespace Go.Proofs.YtjojaiomgdjhfaaGreatDoor.AE
open Go
mutual
inductive Lies (w:World):Nat→Nat→AV→Prop
  | mk {c o:Nat} {a:AV} {v:Value} (h:w.cell? ⟨c,o,none⟩ = some v) (hc:cellOk a = true) (hs:Stands w a v):Lies w c o a
inductive Stands (w:World):AV→Value→Prop
  | bool (b:Bool):Stands w (.bool b) (.bool b)
  | int (k:IntKind) (n:Int):Stands w (.int k n) (.int k n)
  | str (s:List UInt8):Stands w (.str s) (.string ⟨s.toArray⟩)
  | nilp:Stands w .nilp (.pointer none)
  | nils:Stands w .nils (.slice none 0 0)
  | pin {cs:List AV} {c off:Nat} (h:∀ i a,cs[i]? = some a→Lies w c (off + i) a):Stands w (.pin cs) (.pointer (some ⟨c,off,none⟩))
  | bareN (s:Nat):Stands w (.slice .none s []) (.slice none 0 0)
  | bare (s:Nat) (a:Addr) (cap:Nat):Stands w (.slice .none s []) (.slice (some a) 0 cap)
  | slice {s:Nat} {es:List AV} {c off cap:Nat} (hl:es.length ≤ cap) (he:∀ e ∈ es,(cellsOf e).length = s) (h:∀ i a,(es.flatMap cellsOf)[i]? = some a→Lies w c (off + i) a) :
    Stands w (.slice .none s es) (.slice (some ⟨c,off,none⟩) es.length cap)
end
def Gh.start (w:World):Gh:={ Γ:=Lies w,μ:=fun _=>none,tip:=fun _=>none,bufc:=fun _=>none }
theorem Lies.ok {w:World} {c o:Nat} {a:AV} (h:Lies w c o a):cellOk a = true:=by cases h with | mk _ hc _=>exact hc
theorem Stands.V {w:World} {a:AV} {v:Value} (h:Stands w a v):AE.V (Gh.start w) a v:=by
  cases h with
  | bool b=>rfl
  | int k n=>rfl
  | str s=>rfl
  | nilp=>rfl
  | nils=>rfl
  | pin h=>exact ⟨_,_,rfl,fun i a ha=>⟨h i a ha,(h i a ha).ok⟩⟩
  | bareN s=>exact .inl ⟨.inl rfl,rfl⟩
  | bare s a cap=>exact .inl ⟨.inr ⟨a,cap,rfl,.inl rfl⟩,rfl⟩
  | slice hl he h=>exact .inr ⟨_,_,_,rfl,hl,he,fun i a ha=>⟨h i a ha,(h i a ha).ok⟩,trivial⟩
theorem Stands.plain {w:World} {a:AV} {v:Value} (h:Stands w a v):refs a = []∧toks a = []:=by
  cases h <;> exact ⟨rfl,rfl⟩
theorem start_wc (w:World):WC (Gh.start w) [] w:=by
  refine ⟨fun b=>rfl,fun c o a h=>?_,fun b ob h=>(by cases h),fun b b' ob ob' c h=>(by cases h)⟩
  cases h with
  | mk h hc hs=>exact .inl ⟨hc,_,h,hs.V,hs.plain.1,hs.plain.2⟩
def litA:Lit→AV
  | .bool b=>.bool b
  | .int k n=>.int k n
  | .string s=>.str s
  | _=>.undef
def sizeD (tb:List TI) (e:TypeId):Nat:=(tsize tb e).getD 0
def nilA (tb:List TI):Option TD→AV
  | some (.ptr _)=>.nilp
  | some (.slice e)=>.slice .none (sizeD tb e) []
  | _=>.undef
def pack (tb:List TI) (e:TypeId) (cs:List AV):AV :=
  match tb[e]? with
  | some ti=>if ti.agg then .agg cs else cs.headD .undef
  | none=>.undef
mutual
def avs {H:Type} (tb:List TI) (t:TypeId):DataW H→List AV
  | .lit l=>[litA l]
  | .nil=>[nilA tb (descOf tb t)]
  | .ptr d=>match descOf tb t with
    | some (.ptr e)=>[.pin (avs tb e d)]
    | _=>[.undef]
  | .slice es _=>match descOf tb t with
    | some (.slice e)=>[.slice .none (sizeD tb e) (packs tb e es)]
    | _=>[.undef]
  | .agg ds=>match descOf tb t with
    | some (.struct fs)=>fieldsA tb fs ds
    | some (.array _ e)=>elemsA tb e ds
    | _=>[.undef]
  | _=>[.undef]
def packs {H:Type} (tb:List TI) (e:TypeId):List (DataW H)→List AV
  | []=>[]
  | d :: ds=>pack tb e (avs tb e d) :: packs tb e ds
def elemsA {H:Type} (tb:List TI) (e:TypeId):List (DataW H)→List AV
  | []=>[]
  | d :: ds=>avs tb e d ++ elemsA tb e ds
def fieldsA {H:Type} (tb:List TI):List (Nat × TypeId)→List (DataW H)→List AV
  | (_,t) :: fs,d :: ds=>avs tb t d ++ fieldsA tb fs ds
  | _,_=>[]
end
def av {H:Type} (tb:List TI) (t:TypeId) (d:DataW H):AV:=pack tb t (avs tb t d)
def consec (tb:List TI):List (Nat × TypeId)→Nat→Nat→Bool
  | [],off,n=>off == n
  | (o,t) :: fs,off,n=>o == off && (match tsize tb t with | some s=>consec tb fs (off + s) n | none=>false)
def plainT (tb:List TI) (T:List TypeId):Bool:=T.all fun t=>
  match tb[t]? with
  | some ti=>match ti.desc with
    | .bool=>ti.size == 1 && !ti.agg
    | .int _=>ti.size == 1 && !ti.agg
    | .string=>ti.size == 1 && !ti.agg
    | .ptr e=>ti.size == 1 && !ti.agg && T.contains e && decide (0 < sizeD tb e)
    | .slice e=>ti.size == 1 && !ti.agg && T.contains e && decide (0 < sizeD tb e)
    | .struct fs=>ti.agg && fs.all (fun f=>T.contains f.2) && consec tb fs 0 ti.size
    | .array n e=>ti.agg && T.contains e && n * sizeD tb e == ti.size
    | _=>false
  | none=>false
def All2 (w:World) (as:List AV) (cs:List Value):Prop:=as.length = cs.length∧∀ (i:Nat) (a:AV),as[i]? = some a→∃ v,cs[i]? = some v∧cellOk a = true∧Stands w a v
theorem All2.append {w:World} {as bs:List AV} {cs ds:List Value} (h:All2 w as cs) (k:All2 w bs ds):All2 w (as ++ bs) (cs ++ ds):=by
  refine ⟨by simp [h.1,k.1],fun i a ha=>?_⟩
  by_cases hi:i < as.length
  · rw [List.getElem?_append_left hi] at ha
    obtain ⟨v,h1,h2⟩:=h.2 i a ha
    exact ⟨v,by rw [List.getElem?_append_left (by rw [← h.1]; exact hi)]; exact h1,h2⟩
  · rw [List.getElem?_append_right (by omega)] at ha
    obtain ⟨v,h1,h2⟩:=k.2 _ a ha
    exact ⟨v,by rw [List.getElem?_append_right (by rw [← h.1]; omega),← h.1]; exact h1,h2⟩
theorem All2.one {w:World} {a:AV} {v:Value} (hc:cellOk a = true) (h:Stands w a v):All2 w [a] [v] :=
  ⟨rfl,fun i x hx=>by
    cases i with
    | zero=>simp at hx; subst hx; exact ⟨v,rfl,hc,h⟩
    | succ i=>simp at hx⟩
theorem All2.VL {w:World} {as:List AV} {cs:List Value} (h:All2 w as cs):AE.VL (Gh.start w) as cs :=
  VL.of_get h.1.symm fun i a v ha hv=>by
    obtain ⟨u,h1,_,h2⟩:=h.2 i a ha
    rw [h1] at hv; cases hv; exact h2.V
theorem cells_lie {w:World} {as:List AV} {cs:List Value} (h:All2 w as cs) {base n:Nat} {a:Addr} (hc:w.cells? base a n = some cs) (hs:a.spot = none) (i:Nat) (x:AV) (hx:as[i]? = some x):Lies w a.block (a.off + i) x:=by
  obtain ⟨_,h1,h2⟩:=World.cells?_some hc
  obtain ⟨v,k1,k2,k3⟩:=h.2 i x hx
  have hi:i < n:=by rw [← h1]; exact (List.getElem?_eq_some_iff.1 k1).1
  have:=h2 i hi
  rw [k1] at this
  refine .mk (v:=v) ?_ k2 k3
  rw [← this]
  congr 1
  obtain ⟨b,o,s⟩:=a
  simp only at hs; subst hs
  exact (add_eq b o i).symm
theorem spot_none {w:World} {base n:Nat} {a:Addr} {cs:List Value} (hc:w.cells? base a n = some cs) (hn:0 < n):a.spot = none:=by
  obtain ⟨_,h1,h2⟩:=World.cells?_some hc
  have h0:=h2 0 hn
  have:∃ c,cs[0]? = some c:=⟨cs[0]'(by omega),List.getElem?_eq_getElem _⟩
  obtain ⟨c,hc0⟩:=this
  rw [hc0] at h0
  simp only [Addr.add,if_true] at h0
  unfold World.cell? at h0
  split at h0
  · split at h0
    · cases h0
    · rename_i hs; cases hq:a.spot with
      | none=>rfl
      | some x=>rw [hq] at hs; simp at hs
  · cases h0
theorem cellsOf_size {P:Program} {tb:List TI} (hP:TbOk P tb) {t:TypeId} {n:Nat} (h:tsize tb t = some n):P.cellsOf t = n:=by
  obtain ⟨ti,h1,rfl⟩:=tsize_some hP h
  obtain ⟨i,d,k1,k2,k3,_⟩:=(hP.facts h1).ex
  simp only [Program.cellsOf,k1,Option.map_some,Option.getD_some,k3]
theorem cellsOf_sizeD {P:Program} {tb:List TI} (hP:TbOk P tb) {t:TypeId} (h:0 < sizeD tb t):P.cellsOf t = sizeD tb t:=by
  unfold sizeD at h ⊢
  cases hs:tsize tb t with
  | none=>rw [hs] at h; simp at h
  | some n=>exact cellsOf_size hP hs
section
variable {H:Type} {enc:TypeId × Value→H} {P:Program} {w:World} {base:Nat} {spare:Nat→Bool} {held:Bool} {tb:List TI} {T:List TypeId}
theorem pack_cells {t:TypeId} {ti:TI} (ht:tb[t]? = some ti) {as:List AV} (hl:as.length = ti.size) (h1:ti.agg = false→ti.size = 1) (hc:∀ a ∈ as,cellOk a = true):cellsOf (pack tb t as) = as:=by
  unfold pack
  rw [ht]
  simp only
  cases ha:ti.agg with
  | true=>rfl
  | false=>
    simp only [Bool.false_eq_true,if_false]
    have:=h1 ha
    match as,hl,hc with
    | [],hl,_=>simp at hl; omega
    | [a],_,hc=>
      have:=hc a (by simp)
      simp only [List.headD_cons]
      cases a <;> first | rfl | cases this
    | _ :: _ :: _,hl,_=>simp at hl; omega
theorem plainT_get (hT:plainT tb T = true) {t:TypeId} (ht:t ∈ T):∃ ti,tb[t]? = some ti∧(ti.agg = false→ti.size = 1):=by
  have:=List.all_eq_true.1 hT t ht
  split at this
  · rename_i ti h
    refine ⟨ti,h,fun ha=>?_⟩
    split at this <;> simp_all
  · cases this
theorem trod_lies (hP:TbOk P tb) (hT:plainT tb T = true):∀ (fuel:Nat) (t:TypeId) (cs:List Value) (x:DataW H × List MemPlace),t ∈ T→DataW.trod enc P w base spare held fuel t cs = some x →
    All2 w (avs tb t x.1) cs∧(avs tb t x.1).length = sizeD tb t:=by
  intro fuel
  induction fuel with
  | zero=>intro t cs x _ h; simp [DataW.trod] at h
  | succ fuel ih=>
    intro t cs x ht h
    obtain ⟨ti,hti,hone⟩:=plainT_get hT ht
    have hck:=List.all_eq_true.1 hT t ht
    rw [hti] at hck
    simp only at hck
    have hd:descOf tb t = some ti.desc:=by simp [descOf,hti]
    have hsz:sizeD tb t = ti.size:=by simp [sizeD,tsize,hti]
    obtain ⟨d',hu,hd'⟩:=(hP.facts hti).under
    cases hdesc:ti.desc with
    | bool=>
      rw [hdesc] at hck hd' hd
      simp only [Bool.and_eq_true,beq_iff_eq] at hck
      rw [ofDesc_bool hd'] at hu
      obtain ⟨b,rfl,rfl⟩:=DataW.trod_bool hu h
      exact ⟨.one rfl (.bool b),by rw [hsz,hck.1]; rfl⟩
    | int k=>
      rw [hdesc] at hck hd' hd
      simp only [Bool.and_eq_true,beq_iff_eq] at hck
      rw [ofDesc_int hd'] at hu
      obtain ⟨n,rfl,rfl,_⟩:=DataW.trod_int hu h
      exact ⟨.one rfl (.int k n),by rw [hsz,hck.1]; rfl⟩
    | string=>
      rw [hdesc] at hck hd' hd
      simp only [Bool.and_eq_true,beq_iff_eq] at hck
      rw [ofDesc_string hd'] at hu
      obtain ⟨s,rfl,rfl,_⟩:=DataW.trod_string hu h
      exact ⟨.one rfl (by have:=Stands.str (w:=w) s.data.toList; simpa [litA] using this),by rw [hsz,hck.1]; rfl⟩
    | ptr e=>
      rw [hdesc] at hck hd' hd
      simp only [Bool.and_eq_true,beq_iff_eq,decide_eq_true_eq] at hck
      obtain ⟨⟨⟨c1,c2⟩,c3⟩,c4⟩:=hck
      have he:e ∈ T:=by simpa using c3
      rw [ofDesc_ptr hd'] at hu
      rcases DataW.trod_pointer hu h with ⟨rfl,rfl⟩ | ⟨a,cs',y,n,hn,rfl,rfl,hcs,hy⟩
      · simp only [avs,hd,nilA]
        exact ⟨.one rfl .nilp,by rw [hsz,c1]; rfl⟩
      · cases hn
        obtain ⟨k1,k2⟩:=ih e cs' y he hy
        have hpos:0 < P.cellsOf e:=by rw [cellsOf_sizeD hP c4]; exact c4
        have hs:=spot_none hcs hpos
        simp only [avs,hd]
        refine ⟨.one rfl ?_,by rw [hsz,c1]; rfl⟩
        obtain ⟨b,o,s⟩:=a
        simp only at hs; subst hs
        exact .pin fun i a ha=>cells_lie k1 hcs rfl i a ha
    | slice e=>
      rw [hdesc] at hck hd' hd
      simp only [Bool.and_eq_true,beq_iff_eq,decide_eq_true_eq] at hck
      obtain ⟨⟨⟨c1,c2⟩,c3⟩,c4⟩:=hck
      have he:e ∈ T:=by simpa using c3
      obtain ⟨te,hte,hone'⟩:=plainT_get hT he
      have hste:sizeD tb e = te.size:=by simp [sizeD,tsize,hte]
      have hce:=cellsOf_sizeD hP c4
      rw [ofDesc_slice hd'] at hu
      rcases DataW.trod_slice hu h with ⟨rfl,rfl⟩ | ⟨a,len,cap,elems,rest,n,hn,rfl,rfl,_,hlc,_,hlen,hel,_,_⟩
      · simp only [avs,hd,nilA]
        exact ⟨.one rfl (.bareN _),by rw [hsz,c1]; rfl⟩
      · cases hn
        simp only [avs,hd]
        refine ⟨.one rfl ?_,by rw [hsz,c1]; rfl⟩
        -- each element
        have each:∀ i,i < len→∃ cs' y,w.cells? base (a.add (i * P.cellsOf e)) (P.cellsOf e) = some cs'∧elems[i]? = some y∧All2 w (avs tb e y.1) cs'∧(avs tb e y.1).length = sizeD tb e:=by
          intro i hi
          have h1:=hel i hi
          have h2:elems[i]? = some (elems[i]'(by omega)):=List.getElem?_eq_getElem _
          rw [h2,Option.bind_eq_some_iff] at h1
          obtain ⟨cs',k1,k2⟩:=h1
          obtain ⟨k3,k4⟩:=ih e cs' _ he k2
          exact ⟨cs',_,k1,h2,k3,k4⟩
        have hpk:∀ (i:Nat) (y:DataW H × List MemPlace),elems[i]? = some y→cellsOf (pack tb e (avs tb e y.1)) = avs tb e y.1∧(avs tb e y.1).length = sizeD tb e:=by
          intro i y hy
          have hi:i < len:=by rw [← hlen]; exact (List.getElem?_eq_some_iff.1 hy).1
          obtain ⟨cs',y',k1,k2,k3,k4⟩:=each i hi
          rw [hy] at k2; cases k2
          refine ⟨pack_cells hte (by rw [k4,hste]) hone' fun a ha=>?_,k4⟩
          obtain ⟨j,hj⟩:=List.getElem?_of_mem ha
          exact (k3.2 j a hj).choose_spec.2.1
        have hlp:∀ ds:List (DataW H),(packs tb e ds).length = ds.length:=by
          intro ds
          induction ds with
          | nil=>rfl
          | cons d ds ih=>simp [packs,ih]
        have hpm:∀ ds:List (DataW H),packs tb e ds = ds.map fun d=>pack tb e (avs tb e d):=by
          intro ds
          induction ds with
          | nil=>rfl
          | cons d ds ih=>simp [packs,ih]
        have hE:∀ x ∈ packs tb e (elems.map (·.1)),(cellsOf x).length = sizeD tb e:=by
          intro x hx
          rw [hpm,List.map_map] at hx
          obtain ⟨y,hy,rfl⟩:=List.mem_map.1 hx
          obtain ⟨i,hi⟩:=List.getElem?_of_mem hy
          obtain ⟨k1,k2⟩:=hpk i y hi
          simp only [Function.comp]
          rw [k1,k2]
        by_cases h0:len = 0
        · subst h0
          have:elems = []:=List.length_eq_zero_iff.1 hlen
          subst this
          exact .bare _ a cap
        · have hs:a.spot = none:=by
            obtain ⟨cs',y,k1,_⟩:=each 0 (by omega)
            have:=spot_none k1 (by rw [hce]; exact c4)
            simpa [Addr.add] using this
          obtain ⟨b,o,s⟩:=a
          simp only at hs; subst hs
          have hL:(packs tb e (elems.map (·.1))).length = len:=by rw [hlp,List.length_map,hlen]
          rw [← hL]
          refine .slice (by rw [hL]; exact hlc) hE fun i x hx=>?_
          -- the cell i lies in the element i / size
          have hflat:∀ (es:List AV) (s:Nat),0 < s→(∀ e ∈ es,(cellsOf e).length = s)→∀ (i:Nat) (x:AV),(es.flatMap cellsOf)[i]? = some x→∃ j k e',i = j * s + k∧es[j]? = some e'∧(cellsOf e')[k]? = some x:=by
            intro es s hs0
            induction es with
            | nil=>intro _ i x hx; simp at hx
            | cons e' es ihl=>
              intro hall i x hx
              have hl:=hall e' (by simp)
              rw [List.flatMap_cons] at hx
              by_cases hi:i < s
              · rw [List.getElem?_append_left (by rw [hl]; exact hi)] at hx
                exact ⟨0,i,e',by simp,rfl,hx⟩
              · rw [List.getElem?_append_right (by rw [hl]; omega),hl] at hx
                obtain ⟨j,k,e2,k1,k2,k3⟩:=ihl (fun e he=>hall e (by simp [he])) _ x hx
                exact ⟨j + 1,k,e2,by rw [Nat.add_mul,Nat.one_mul]; omega,by simpa using k2,k3⟩
          obtain ⟨j,k,e',rfl,k2,k3⟩:=hflat _ _ c4 hE i x hx
          rw [hpm,List.map_map,List.getElem?_map,Option.map_eq_some_iff] at k2
          obtain ⟨y,hy,rfl⟩:=k2
          have hjl:j < len:=by rw [← hlen]; exact (List.getElem?_eq_some_iff.1 hy).1
          simp only [Function.comp] at k3
          rw [(hpk j y hy).1] at k3
          obtain ⟨cs',y',q1,q2,q3,q4⟩:=each j hjl
          rw [hy] at q2; cases q2
          have hadd:(⟨b,o,none⟩:Addr).add (j * P.cellsOf e) = ⟨b,o + j * P.cellsOf e,none⟩:=add_eq b o _
          rw [hadd] at q1
          have:=cells_lie q3 q1 rfl k x k3
          rw [← Nat.add_assoc,← hce]
          exact this
    | struct fs=>
      rw [hdesc] at hck hd' hd
      simp only [Bool.and_eq_true,beq_iff_eq,List.all_eq_true] at hck
      obtain ⟨⟨c1,c2⟩,c3⟩:=hck
      obtain ⟨fs',e1,e2⟩:=ofDesc_struct hd'
      rw [e1] at hu
      obtain ⟨xs,n,hn,rfl,hlc,hxl,hf⟩:=DataW.trod_struct hu h
      cases hn
      simp only [avs,hd]
      have hsize:P.cellsOf t = ti.size:=cellsOf_size hP (by simp [tsize,hti])
      have key:∀ (l:List Field) (ys:List (DataW H × List MemPlace)) (off:Nat),ys.length = l.length→consec tb (l.map fun f=>(f.offset,f.type)) off ti.size = true→(∀ f ∈ l,f.type ∈ T) →
          (∀ (i:Nat) (f:Field),l[i]? = some f→DataW.trod enc P w base spare held fuel f.type ((cs.drop f.offset).take (P.cellsOf f.type)) = ys[i]?) →
          All2 w (fieldsA tb (l.map fun f=>(f.offset,f.type)) (ys.map (·.1))) (cs.drop off)∧(fieldsA tb (l.map fun f=>(f.offset,f.type)) (ys.map (·.1))).length + off = ti.size:=by
        intro l
        induction l with
        | nil=>
          intro ys off hl hco _ _
          simp only [List.map_nil,consec,beq_iff_eq] at hco
          have:ys = []:=List.length_eq_zero_iff.1 (by simpa using hl)
          subst this
          simp only [List.map_nil,fieldsA]
          refine ⟨⟨?_,fun i a ha=>by simp at ha⟩,by simp [hco]⟩
          simp; omega
        | cons f l ihl=>
          intro ys off hl hco hm hff
          cases ys with
          | nil=>simp at hl
          | cons y ys=>
            simp only [List.map_cons,consec,Bool.and_eq_true,beq_iff_eq] at hco
            obtain ⟨hoff,hco⟩:=hco
            split at hco
            · rename_i s hs
              have h0:=hff 0 f rfl
              simp only [List.getElem?_cons_zero] at h0
              obtain ⟨k1,k2⟩:=ih f.type _ y (hm f (by simp)) h0
              have hcs:P.cellsOf f.type = s:=cellsOf_size hP hs
              have hsd:sizeD tb f.type = s:=by simp [sizeD,hs]
              obtain ⟨q1,q2⟩:=ihl ys (off + s) (by simpa using hl) hco (fun f hf=>hm f (by simp [hf])) fun i f' hi=>hff (i + 1) f' (by simpa using hi)
              simp only [List.map_cons,fieldsA]
              refine ⟨?_,by rw [List.length_append,k2,hsd]; omega⟩
              have:=k1.append q1
              rw [hcs,hoff] at this
              have e:(cs.drop off).take s ++ cs.drop (off + s) = cs.drop off:=by
                rw [← List.drop_drop,List.take_append_drop]
              rw [e] at this
              exact this
            · cases hco
      obtain ⟨q1,q2⟩:=key fs'.toList xs 0 (by simpa using hxl) (by rw [← e2]; exact c3) (fun f hf=>by
        have:=c2 (f.offset,f.type) (by rw [e2]; exact List.mem_map.2 ⟨f,hf,rfl⟩)
        simpa using this) fun i f hi=>hf i f (by simpa using hi)
      rw [← e2] at q1 q2
      exact ⟨by simpa using q1,by rw [hsz]; omega⟩
    | array m e=>
      rw [hdesc] at hck hd' hd
      simp only [Bool.and_eq_true,beq_iff_eq] at hck
      obtain ⟨⟨c1,c2⟩,c3⟩:=hck
      have he:e ∈ T:=by simpa using c2
      obtain ⟨te,hte,_⟩:=plainT_get hT he
      have hste:tsize tb e = some te.size:=by simp [tsize,hte]
      have hse:sizeD tb e = te.size:=by simp [sizeD,hste]
      have hce:P.cellsOf e = te.size:=cellsOf_size hP hste
      rw [ofDesc_array hd'] at hu
      obtain ⟨xs,n,hn,rfl,hlc,hxl,hf⟩:=DataW.trod_array hu h
      cases hn
      simp only [avs,hd]
      have hsize:P.cellsOf t = ti.size:=cellsOf_size hP (by simp [tsize,hti])
      have key:∀ (ys:List (DataW H × List MemPlace)) (j:Nat),ys.length + j = m→(∀ i,i < ys.length→DataW.trod enc P w base spare held fuel e ((cs.drop ((j + i) * P.cellsOf e)).take (P.cellsOf e)) = ys[i]?) →
          All2 w (elemsA tb e (ys.map (·.1))) (cs.drop (j * te.size))∧(elemsA tb e (ys.map (·.1))).length + j * te.size = ti.size:=by
        intro ys
        induction ys with
        | nil=>
          intro j hj _
          simp only [List.length_nil,Nat.zero_add] at hj
          subst hj
          simp only [List.map_nil,elemsA]
          rw [hse] at c3
          refine ⟨⟨?_,fun i a ha=>by simp at ha⟩,by simp [c3]⟩
          simp; omega
        | cons y ys ihl=>
          intro j hj hff
          have h0:=hff 0 (by simp)
          simp only [List.getElem?_cons_zero,Nat.add_zero] at h0
          obtain ⟨k1,k2⟩:=ih e _ y he h0
          obtain ⟨q1,q2⟩:=ihl (j + 1) (by simp only [List.length_cons] at hj; omega) fun i hi=>by
            have:=hff (i + 1) (by simpa using hi)
            rw [List.getElem?_cons_succ] at this
            rw [← this]; congr 4; omega
          simp only [List.map_cons,elemsA]
          refine ⟨?_,by rw [List.length_append,k2,hse]; rw [Nat.add_mul] at q2; omega⟩
          have:=k1.append q1
          rw [hce] at this
          have e:(cs.drop (j * te.size)).take te.size ++ cs.drop ((j + 1) * te.size) = cs.drop (j * te.size):=by
            rw [Nat.add_mul,Nat.one_mul,← List.drop_drop,List.take_append_drop]
          rw [e] at this
          exact this
      obtain ⟨q1,q2⟩:=key xs 0 (by omega) fun i hi=>by rw [Nat.zero_add]; exact hf i (by omega)
      rw [Nat.zero_mul,List.drop_zero] at q1
      exact ⟨q1,by rw [hsz]; omega⟩
    | map k e=>rw [hdesc] at hck; cases hck
    | iface n=>rw [hdesc] at hck; cases hck
    | fn=>rw [hdesc] at hck; cases hck
    | other=>rw [hdesc] at hck; cases hck
end
end Go.Proofs.YtjojaiomgdjhfaaGreatDoor.AE
namespace Go.Proofs.YtjojaiomgdjhfaaGreatDoor.AE
open Go Go.RowKit
section
variable {H:Type} {enc:TypeId × Value→H} {P:Program} {w:World} {tb:List TI} {T:List TypeId}
theorem cells_one {r:Reach} {b:Nat} {t:TypeId} {d:TypeDesc} (hu:P.underlying t = some d) (ha:aggD d = false) {v:Value} (h:Value.okWide P w r b t v):v.cells.toList = [v]:=by
  cases v with
  | agg cs=>
    exfalso
    unfold Value.okWide at h
    rw [hu] at h
    cases d <;> simp only [aggD] at ha <;> first
      | (cases ha; done)
      | (simp only [Cell.okWide,hu,Cell.ok] at h; done)
  | _=>rfl
theorem cells_agg {r:Reach} {b:Nat} {t:TypeId} {d:TypeDesc} (hu:P.underlying t = some d) (ha:aggD d = true) {v:Value} (h:Value.okWide P w r b t v):∃ cs,v = .agg cs:=by
  unfold Value.okWide at h
  rw [hu] at h
  cases d <;> simp only [aggD] at ha <;> first
    | (cases ha; done)
    | (obtain ⟨cs,h1,_⟩:=h; exact ⟨cs,h1⟩)
theorem arg_V (hP:TbOk P tb) (hT:plainT tb T = true) {t:TypeId} (ht:t ∈ T) {r:Reach} {b base:Nat} {sp:Nat→Bool} {held:Bool} {v:Value} {d:DataW H} {ps:List MemPlace}
    (hval:Value.okWide P w r b t v) (h:DataW.Trod enc P w base sp held t v d ps):V (Gh.start w) (av tb t d) v:=by
  obtain ⟨fuel,h⟩:=h
  obtain ⟨k1,k2⟩:=trod_lies hP hT fuel t _ _ ht h
  obtain ⟨ti,hti,hone⟩:=plainT_get hT ht
  obtain ⟨i,d',hi,hu,_,hagg,_,_,_⟩:=(hP.facts hti).ex
  unfold av pack
  rw [hti]
  simp only
  cases ha:ti.agg with
  | true=>
    simp only [if_true]
    obtain ⟨cs,rfl⟩:=cells_agg hu (by rw [← hagg]; exact ha) hval
    exact ⟨cs,rfl,k1.VL⟩
  | false=>
    simp only [Bool.false_eq_true,if_false]
    rw [cells_one hu (by rw [← hagg]; exact ha) hval] at k1
    have:=k1.VL
    match avs tb t d,this with
    | [a],⟨v',vs,e,hv,_⟩=>cases e; exact hv
    | [],h=>cases h
    | a :: b :: r,⟨v',vs,e,_,v2,vs2,e2,_⟩=>cases e; cases e2
def glOf (P:Program) (tb:List TI):List (String × DataW Unit)→List (Nat × List AV)
  | []=>[]
  | (n,d) :: r=>match P.globalNamed n with
    | some g=>match (P.globals[g]?).map (·.type) with
      | some t=>(g,avs tb t d) :: glOf P tb r
      | none=>glOf P tb r
    | none=>glOf P tb r
def glTypes (P:Program) (T:List TypeId) (laid:List (String × DataW Unit)):Bool:=laid.all fun x=>match (P.globalNamed x.1).bind fun g=>(P.globals[g]?).map (·.type) with
  | some t=>T.contains t
  | none=>true
theorem glob_of (hP:TbOk P tb) (hT:plainT tb T = true):∀ (laid:List (String × DataW Unit)) (ps:List MemPlace),glTypes P T laid = true→DataW.LaidVars P w laid ps→Glob (glOf P tb laid) (Gh.start w)
  | [],_,_,_=>by intro x hx; simp [glOf] at hx
  | (n,d) :: r,ps,hm,h=>by
    obtain ⟨g,t,cs,fuel,p,q,h1,h2,h3,h4,h5,_⟩:=h
    simp only [glTypes,List.all_cons,Bool.and_eq_true,h1,Option.bind_some,h2] at hm
    obtain ⟨m1,m2⟩:=hm
    obtain ⟨k1,k2⟩:=trod_lies hP hT fuel t _ _ (by simpa using m1) h4
    have ih:=glob_of hP hT r q m2 h5
    intro x hx
    simp only [glOf,h1,h2,List.mem_cons] at hx
    rcases hx with rfl | hx
    · intro i a ha
      obtain ⟨v,q1,q2,q3⟩:=k1.2 i a ha
      refine ⟨.mk (v:=v) ?_ q2 q3,q2⟩
      rw [Nat.zero_add,World.var?_cell h1 h3]
      rw [Array.getElem?_toList] at q1
      exact q1
    · exact ih x hx
theorem below_of {g':Gh} {H':AE.Heap} {w':World} (h:Ctx w (Gh.start w) [] g' H' w'):Below w.heap.size w w' :=
  ⟨h.os,h.tape,h.out,h.size,fun k hk=>(h.keep k hk (fun hl=>by obtain ⟨b,ob,e,_⟩:=hl; cases e)).1⟩
theorem back_all (hl:laidOutB P = true) {W W':World} (hb:Below W.heap.size W W'):∀ (ts:List TypeId) (vs:List Value) (ds:List (DataW H)) (ps:List MemPlace),(∀ t ∈ ts,P.readableRec t = true∧t < P.types.size) →
    DataW.TrodAll enc P W 0 (fun _=>true) true ts vs ds ps→(∀ x ∈ ps,x.block < W.heap.size)→DataW.TrodAll enc P W' 0 (fun b=>decide (b < W.heap.size)) true ts vs ds ps
  | [],[],[],_,_,h,_=>h
  | t :: ts,v :: vs,d :: ds,ps,hm,h,hlt=>by
    obtain ⟨p,q,h1,h2,rfl⟩:=h
    obtain ⟨m1,m2⟩:=hm t (by simp)
    exact ⟨p,q,Below.trod hl m1 m2 h1 hb (fun x hx=>hlt x (by simp [hx])),back_all hl hb ts vs ds q (fun t ht=>hm t (by simp [ht])) h2 (fun x hx=>hlt x (by simp [hx])),rfl⟩
  | [],_ :: _,_,_,_,h,_=>h.elim
  | [],[],_ :: _,_,_,h,_=>h.elim
  | _ :: _,[],_,_,_,h,_=>h.elim
  | _ :: _,_ :: _,[],_,_,h,_=>h.elim
end
end Go.Proofs.YtjojaiomgdjhfaaGreatDoor.AE
