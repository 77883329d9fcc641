/- The plain law. No condition. -/
import Derived.Test.YtjojaiomgdjhfaaGreatDoorZA1
import Derived.Test.YtjojaiomgdjhfaaGreatDoorZF0
import Derived.KernelRfl
set_option linter.unusedVariables false
namespace Go.Proofs.YtjojaiomgdjhfaaGreatDoor.F
open Go
def Ev {α:Type} (g:Nat→Option α) (x:α):Prop:=∃ k0,∀ k,k0 ≤ k→g k = some x
def EvL {σ ρ:Type} (body:Nat→σ→Option (σ ⊕ ρ)) (s:σ) (r:ρ):Prop:=∃ k0,∀ k j,k0 ≤ k→k0 ≤ j→loopM j (body k) s = some r
section
variable {α β σ ρ:Type}
theorem Ev.of {g:Nat→Option α} {x:α} (h:∀ k,g k = some x):Ev g x:=⟨0,fun k _=>h k⟩
theorem Ev.at {g:Nat→Option α} {x:α} (n:Nat) (h:∀ k,g (k + n) = some x):Ev g x:=⟨n,fun k hk=>by have:=h (k - n); rwa [show k - n + n = k by omega] at this⟩
theorem Ev.pure {x:α}:Ev (fun _=>some x) x:=⟨0,fun _ _=>rfl⟩
theorem Ev.bind {g:Nat→Option α} {f:Nat→α→Option β} {x:α} {y:β} (h:Ev g x) (h2:Ev (fun k=>f k x) y):Ev (fun k=>(g k).bind (f k)) y:=by
  obtain ⟨k1,h1⟩:=h
  obtain ⟨k2,h2⟩:=h2
  exact ⟨max k1 k2,fun k hk=>by show (g k).bind (f k) = _; rw [h1 k (by omega)]; exact h2 k (by omega)⟩
theorem Ev.bindS {g:Nat→Option α} {f:Nat→α→Option β} {x:α} {y:β} (h:∀ k,g k = some x) (h2:Ev (fun k=>f k x) y):Ev (fun k=>(g k).bind (f k)) y:=Ev.bind (Ev.of h) h2
theorem Ev.ite_t {c:Bool} {A B:Nat→Option α} {x:α} (hc:c = true) (h:Ev A x):Ev (fun k=>if c = true then A k else B k) x:=by
  obtain ⟨k1,h1⟩:=h
  exact ⟨k1,fun k hk=>by show (if c = true then A k else B k) = _; rw [if_pos hc]; exact h1 k hk⟩
theorem Ev.ite_f {c:Bool} {A B:Nat→Option α} {x:α} (hc:c = false) (h:Ev B x):Ev (fun k=>if c = true then A k else B k) x:=by
  obtain ⟨k1,h1⟩:=h
  exact ⟨k1,fun k hk=>by show (if c = true then A k else B k) = _; rw [if_neg (by rw [hc]; simp)]; exact h1 k hk⟩
theorem Ev.map {g:Nat→Option ρ} {r:ρ} (h:Ev g r):Ev (fun k=>(g k).map (Sum.inr (α:=σ))) (.inr r):=by
  obtain ⟨k1,h1⟩:=h
  exact ⟨k1,fun k hk=>by show (g k).map _ = _; rw [h1 k hk]; rfl⟩
theorem Ev.succ {g h:Nat→Option α} {x:α} (e:∀ k,g (k + 1) = h k) (hh:Ev h x):Ev g x:=by
  obtain ⟨k1,h1⟩:=hh
  refine ⟨k1 + 1,fun k hk=>?_⟩
  obtain ⟨k,rfl⟩:∃ j,k = j + 1:=⟨k - 1,by omega⟩
  rw [e]; exact h1 k (by omega)
theorem Ev.congr {g h:Nat→Option α} {x:α} (e:∀ k,g k = h k) (hh:Ev h x):Ev g x:=by
  obtain ⟨k1,h1⟩:=hh
  exact ⟨k1,fun k hk=>by rw [e]; exact h1 k hk⟩
theorem Ev.eq {g:Nat→Option α} {x y:α} (h:Ev g x) (e:x = y):Ev g y:=e ▸ h
theorem EvL.done {body:Nat→σ→Option (σ ⊕ ρ)} {s:σ} {r:ρ} (h:Ev (fun k=>body k s) (.inr r)):EvL body s r:=by
  obtain ⟨k1,h1⟩:=h
  refine ⟨k1 + 1,fun k j hk hj=>?_⟩
  obtain ⟨j,rfl⟩:∃ i,j = i + 1:=⟨j - 1,by omega⟩
  have:=h1 k (by omega)
  simp only at this
  rw [loopM_step,this]
theorem EvL.step {body:Nat→σ→Option (σ ⊕ ρ)} {s s':σ} {r:ρ} (h:Ev (fun k=>body k s) (.inl s')) (h2:EvL body s' r):EvL body s r:=by
  obtain ⟨k1,h1⟩:=h
  obtain ⟨k2,h2⟩:=h2
  refine ⟨k1 + k2 + 1,fun k j hk hj=>?_⟩
  obtain ⟨j,rfl⟩:∃ i,j = i + 1:=⟨j - 1,by omega⟩
  have:=h1 k (by omega)
  simp only at this
  rw [loopM_step,this]
  exact h2 k j (by omega) (by omega)
theorem Ev.loop {body:Nat→σ→Option (σ ⊕ ρ)} {s:σ} {r:ρ} (h:EvL body s r):Ev (fun k=>loopM k (body k) s) r:=by
  obtain ⟨k1,h1⟩:=h
  exact ⟨k1,fun k hk=>h1 k k hk hk⟩
theorem Ev.joinK {J:Nat→α→Option ρ} {B:Nat→(α→Option ρ)→Option ρ} {r:ρ} (h:Ev (fun k=>B k (J k)) r):Ev (fun k=>F.joinK (J k) (B k)) r:=h
theorem Ev.uniq {g:Nat→Option α} {x y:α} (h:Ev g x) (h2:Ev g y):x = y:=by
  obtain ⟨k1,h1⟩:=h
  obtain ⟨k2,h2⟩:=h2
  have a:=h1 (max k1 k2) (by omega)
  have b:=h2 (max k1 k2) (by omega)
  rw [a] at b; exact Option.some.inj b
end
theorem Ev.succ1 {α:Type} {f:Nat→Option α} {x:α} (h:Ev (fun k=>f (k + 1)) x):Ev f x:=Ev.succ (fun _=>rfl) h
theorem loop_ex {σ ρ:Type} {body:Nat→σ→Option (σ ⊕ ρ)} (Inv:σ→Prop) (m:σ→Nat) (Q:ρ→Prop)
    (h:∀ s,Inv s→(∃ r,Ev (fun k=>body k s) (.inr r)∧Q r) ∨ (∃ s',Ev (fun k=>body k s) (.inl s')∧Inv s'∧m s' < m s)) :
    ∀ s,Inv s→∃ r,EvL body s r∧Q r:=by
  intro s
  induction hn:m s using Nat.strongRecOn generalizing s with
  | _ n ih=>
  intro hs
  rcases h s hs with ⟨r,h1,h2⟩ | ⟨s',h1,h2,h3⟩
  · exact ⟨r,EvL.done h1,h2⟩
  · obtain ⟨r,g1,g2⟩:=ih (m s') (by omega) s' rfl h2
    exact ⟨r,EvL.step h1 g1,g2⟩
theorem ix_of {α:Type} {l:List α} {i:Int} {x:α} (h0:0 ≤ i) (h:l[i.toNat]? = some x):ix l i = some x:=by unfold ix; rw [if_pos h0]; exact h
theorem ix_nat {α:Type} {l:List α} {i:Nat} (h:i < l.length):ix l (i:Int) = some l[i]:=by unfold ix; rw [if_pos (by omega)]; simp [h]
theorem room_of {b n:Nat} (h0:0 < b) (h:(2 * n + 1024) * b ≤ 140737488355328):room b n = true:=by unfold room; exact decide_eq_true ⟨h0,h⟩
theorem qb:((!true) = false)∧((!false) = true)∧((false = true) = False)∧(∀ b:Bool,(b || true) = true)∧(∀ b:Bool,(true || b) = true)∧(∀ b:Bool,(false || b) = b)∧(∀ b:Bool,(b || false) = b) ∧
    (∀ b:Bool,(b && true) = b)∧(∀ b:Bool,(b && false) = false)∧(∀ b:Bool,(true && b) = b)∧(∀ b:Bool,(false && b) = false)∧(∀ a:Int,(a == a) = true)∧(∀ a:Int,(a != a) = false) ∧
    (∀ a:List UInt8,(a == a) = true)∧(∀ a:Bool,(a == a) = true):=by
  refine ⟨rfl,rfl,by simp,?_,?_,?_,?_,?_,?_,?_,?_,?_,?_,?_,?_⟩ <;> intro b <;> simp
end Go.Proofs.YtjojaiomgdjhfaaGreatDoor.F
set_option linter.unusedSimpArgs false
set_option maxRecDepth 100000
set_option maxHeartbeats 4000000
namespace Go.Proofs.YtjojaiomgdjhfaaGreatDoor.F
open Go
abbrev Nm (s:List UInt8):Prop:=Ev (fun k=>ref11_Named k s) true
theorem qe:∀ b:Bool,(b && true) = b:=fun b=>by simp
def tk (l:List TToken) (i:Int):TToken:=if 0 ≤ i then (l[i.toNat]?).getD ⟨0,0,0,[]⟩ else ⟨0,0,0,[]⟩
def spells:List (List UInt8):=[[43],[45],[42],[47],[37],[61,61],[33,61],[60],[60,61],[62],[62,61],[38,38],[124,124],[33]]
theorem spell_at (s:Nat) (h1:1 ≤ s) (h2:s ≤ 14) {x:List UInt8} (hx:spells[s - 1]? = some x) (k:Nat):ref09_Spell k (s:Int) = some x:=by
  unfold ref09_Spell
  rw [if_neg (by simp; omega)]
  rw [ix_of (x:=x) (by rw [wrap64_id (by omega) (by omega)]; omega) (by rw [wrap64_id (by omega) (by omega)]; rw [show ((s:Int) - 1).toNat = s - 1 by omega]; exact hx)]
  rfl
theorem scan_to {ρ:Type} {body:Nat→Int→Option (Int ⊕ ρ)} {r:ρ}:∀ (d i:Nat),(∀ p:Nat,i ≤ p→p < i + d→Ev (fun k=>body k (p:Int)) (.inl ((p + 1:Nat):Int)))→Ev (fun k=>body k ((i + d:Nat):Int)) (.inr r)→EvL body (i:Int) r
  | 0,i,_,h2=>EvL.done h2
  | d + 1,i,h,h2=>EvL.step (h i (by omega) (by omega)) (scan_to d (i + 1) (fun p a b=>h p (by omega) (by omega)) (by rw [show i + 1 + d = i + (d + 1) by omega]; exact h2))
theorem stretch (P:Nat→Bool) (n:Nat):∀ (e i:Nat),i + e = n→∃ d,i + d ≤ n∧(∀ p,i ≤ p→p < i + d→P p = true)∧(i + d = n ∨ P (i + d) = false)
  | 0,i,h=>⟨0,by omega,fun p a b=>by omega,.inl (by omega)⟩
  | e + 1,i,h=>by
    cases hp:P i with
    | false=>exact ⟨0,by omega,fun p a b=>by omega,.inr hp⟩
    | true=>
      obtain ⟨d,h1,h2,h3⟩:=stretch P n e (i + 1) (by omega)
      refine ⟨d + 1,by omega,fun p a b=>?_,?_⟩
      · by_cases hpi:p = i
        · rw [hpi]; exact hp
        · exact h2 p (by omega) (by omega)
      · rw [show i + (d + 1) = i + 1 + d by omega]; exact h3
def bt (s:List UInt8) (p:Nat):UInt8:=(s[p]?).getD 0
theorem ix_bt {s:List UInt8} {p:Nat} (h:p < s.length):ix s (p:Int) = some (bt s p):=by
  rw [ix_nat h]; unfold bt; simp [h]
def cls (a0:Int):Int :=
    if (((a0 == 95) || ((decide (a0 ≥ 97)) && (decide (a0 ≤ 122)))) || ((decide (a0 ≥ 65)) && (decide (a0 ≤ 90)))) then 1 else
    if ((decide (a0 ≥ 48)) && (decide (a0 ≤ 57))) then 2 else
    if ((((a0 == 32) || (a0 == 9)) || (a0 == 10)) || (a0 == 13)) then 3 else
    if (a0 == 35) then 4 else 0
theorem class_eq (k:Nat) (a:Int):ref10_class k a = some (cls a):=by
  unfold ref10_class cls
  repeat' split
  all_goals first | rfl | simp_all
abbrev cl (s:List UInt8) (p:Nat):Int:=cls ((bt s p).toNat:Int)
def isW (s:List UInt8) (p:Nat):Bool:=(cl s p == 1) || (cl s p == 2)
def cut (s:List UInt8) (i d:Nat):List UInt8:=(s.take (i + d)).drop i
theorem cut_len {s:List UInt8} {i d:Nat} (h:i + d ≤ s.length):(cut s i d).length = d:=by unfold cut; simp; omega
theorem sub_cut {s:List UInt8} {i d:Nat} (h:i + d ≤ s.length):sub s (i:Int) ((i + d:Nat):Int) = some (cut s i d):=by
  unfold sub cut
  rw [if_pos ⟨by omega,by omega,by omega⟩]
  rw [Int.toNat_natCast,Int.toNat_natCast]
theorem bt_cut {s:List UInt8} {i d p:Nat} (h:i + d ≤ s.length) (hp:p < d):bt (cut s i d) p = bt s (i + p):=by
  unfold bt cut
  rw [List.getElem?_drop,List.getElem?_take]
  rw [if_pos (by omega)]
theorem cut_all (s:List UInt8):cut s 0 s.length = s:=by unfold cut; simp
def wordsL:List (List UInt8):=[[114,101,99],[105,115,111],[102,117,110],[109,101,114,103,101],[109,97,105,110],[118,97,114],[105,102],[101,108,115,101],[119,104,105,108,101],[114,101,116,117,114,110],[102,111,114,107],[106,111,105,110],[112,114,105,110,116],[110,101,119],[98,121],[105,110,116],[98,111,111,108],[114,101,118],[116,114,117,101],[102,97,108,115,101]]
theorem wordsL_len:wordsL.length = 20:=rfl
theorem is_ex (t:List UInt8):∃ b,Ev (fun k=>ref09_Is k t) b:=by
  have h:∃ r,EvL (σ:=Int) (ρ:=Bool) (fun k (l1_4:Int)=>
    if (decide (l1_4 < ((wordsL.length:Int)))) then
    (ix wordsL l1_4).bind fun x5_2=>
    if (x5_2 == t) then
    some (.inr true)
    else
    some (.inl (IntKind.i64.wrap (l1_4 + 1)))
    else
    (some false).map .inr) 0 r∧True:=by
    refine loop_ex (fun i=>0 ≤ i∧i ≤ 20) (fun i=>(20 - i).toNat) (fun _=>True) ?_ 0 (by omega)
    intro i hi
    have hlen:=wordsL_len
    by_cases h20:i < 20
    · obtain ⟨y,hy⟩:∃ y,ix wordsL i = some y:=by
        refine ⟨wordsL[i.toNat]'(by omega),?_⟩
        unfold ix; rw [if_pos hi.1]; exact List.getElem?_eq_getElem (by omega)
      have hd:decide (i < (wordsL.length:Int)) = true:=by simp; omega
      cases hyt:(y == t) with
      | true=>exact .inl ⟨true,Ev.ite_t hd (Ev.bindS (fun _=>hy) (Ev.ite_t hyt Ev.pure)),trivial⟩
      | false=>exact .inr ⟨i + 1,Ev.ite_t hd (Ev.bindS (fun _=>hy) (Ev.ite_f hyt (Ev.of fun _=>by rw [wrap64_id (by omega) (by omega)]))),by omega,by omega⟩
    · exact .inl ⟨false,Ev.ite_f (by simp; omega) (Ev.of fun _=>rfl),trivial⟩
  obtain ⟨r,h,_⟩:=h
  exact ⟨r,Ev.bindS (x:=wordsL) (fun _=>rfl) (Ev.joinK (Ev.loop h))⟩
theorem word_one {s:List UInt8} {i d:Nat} (hl:s.length ≤ 16384) (hd:1 ≤ d) (h:i + d ≤ s.length) (hc:cl s i = 1) (hall:∀ p,i ≤ p→p < i + d→isW s p = true) (hend:i + d = s.length ∨ isW s (i + d) = false) {b:Bool} (hb:Ev (fun k=>ref09_Is k (cut s i d)) b) :
    Ev (fun k=>ref10_one k s (i:Int)) (⟨if b then 3 else 1,i,0,cut s i d⟩,if 32 < d then 3 else 0):=by
  unfold ref10_one
  simp only [class_eq]
  refine Ev.bindS (fun _=>ix_bt (by omega)) ?_
  simp only [qe,Option.bind_some,Option.map_some,joinK,qb,↓reduceIte,if_true,if_false,eq_self,Int.reduceBEq,Int.reduceBNe,hc]
  refine Ev.loop (scan_to d i (fun p h1 h2=>?_) ?_)
  · have hw:=hall p h1 h2
    have hp:decide ((p:Int) < (s.length:Int)) = true:=by simp; omega
    have hwr:IntKind.i64.wrap ((p:Int) + 1) = ((p + 1:Nat):Int):=by rw [wrap64_id (by omega) (by omega)]; simp
    unfold isW at hw
    by_cases h1:cl s p = 1
    · have:(cl s p == 1) = true:=by simpa using h1
      simp only [qe,Option.bind_some,Option.map_some,joinK,qb,↓reduceIte,if_true,if_false,eq_self,Int.reduceBEq,Int.reduceBNe,hp,ix_bt (show p < s.length by omega),this,hwr]; exact Ev.pure
    · have h1b:(cl s p == 1) = false:=by simpa using h1
      have h2b:(cl s p == 2) = true:=by simpa [h1b] using hw
      simp only [qe,Option.bind_some,Option.map_some,joinK,qb,↓reduceIte,if_true,if_false,eq_self,Int.reduceBEq,Int.reduceBNe,hp,ix_bt (show p < s.length by omega),h1b,h2b,hwr]; exact Ev.pure
  · have fin:∀ {σ:Type},Ev (fun k=>Option.map (Sum.inr (α:=σ)) ((sub s (i:Int) ((i + d:Nat):Int)).bind fun x6_4=>(ref09_Is k x6_4).bind fun x7_2=>if x7_2 then (if (decide (((x6_4.length:Int)) > 32)) then some ((TToken.mk 3 i 0 x6_4),3) else some ((TToken.mk 3 i 0 x6_4),(0:Int))) else (if (decide (((x6_4.length:Int)) > 32)) then some ((TToken.mk 1 i 0 x6_4),3) else some ((TToken.mk 1 i 0 x6_4),0)))) (.inr (⟨if b then 3 else 1,i,0,cut s i d⟩,if 32 < d then 3 else 0)):=by
      intro σ
      refine Ev.map (Ev.bindS (fun _=>sub_cut h) (Ev.bind hb ?_))
      rw [cut_len h]
      refine Ev.of fun _=>?_
      cases b
      · by_cases h32:32 < d
        · rw [if_pos h32]; simp; omega
        · rw [if_neg h32]; simp; omega
      · by_cases h32:32 < d
        · rw [if_pos h32]; simp; omega
        · rw [if_neg h32]; simp; omega
    rcases hend with he | he
    · have hp:decide (((i + d:Nat):Int) < (s.length:Int)) = false:=by simp; omega
      simp only [qe,Option.bind_some,Option.map_some,joinK,qb,↓reduceIte,if_true,if_false,eq_self,Int.reduceBEq,Int.reduceBNe,hp]; exact fin
    · by_cases he2:i + d = s.length
      · have hp:decide (((i + d:Nat):Int) < (s.length:Int)) = false:=by simp; omega
        simp only [qe,Option.bind_some,Option.map_some,joinK,qb,↓reduceIte,if_true,if_false,eq_self,Int.reduceBEq,Int.reduceBNe,hp]; exact fin
      · have hp:decide (((i + d:Nat):Int) < (s.length:Int)) = true:=by simp; omega
        unfold isW at he
        have h1b:(cl s (i + d) == 1) = false:=by
          cases hx:(cl s (i + d) == 1) with
          | false=>rfl
          | true=>rw [hx] at he; cases he
        have h2b:(cl s (i + d) == 2) = false:=by simpa [h1b] using he
        simp only [qe,Option.bind_some,Option.map_some,joinK,qb,↓reduceIte,if_true,if_false,eq_self,Int.reduceBEq,Int.reduceBNe,hp,ix_bt (show i + d < s.length by omega),h1b,h2b]; exact fin
def allB (k:Nat) (s:List UInt8) (st:List TToken × Int):Option ((List TToken × Int) ⊕ (List TToken × Int × Int)) :=
  match st with
  | (l1_5,l1_6)=>
    if (decide (l1_6 < ((s.length:Int)))) then
    (ix s l1_6).bind fun x6_2=>
    (ref10_class k (x6_2.toNat:Int)).bind fun x6_3=>
    if (x6_3 == 3) then
    some (.inl (l1_5,(IntKind.i64.wrap (l1_6 + 1))))
    else
    if (x6_3 == 4) then
    joinK (fun (j2_6:Int)=>
    some (.inl (l1_5,j2_6))) fun j_j2=>
    loopM k (fun (l3_6:Int)=>
    joinK (fun (g10_9_36:Bool)=>
    if g10_9_36 then
    some (.inl (IntKind.i64.wrap (l3_6 + 1)))
    else
    (j_j2 l3_6).map .inr) fun j_g10_9=>
    if (decide (l3_6 < ((s.length:Int)))) then
    (ix s l3_6).bind fun x10_7=>
    j_g10_9 ((x10_7.toNat:Int) != 10)
    else
    j_g10_9 false) l1_6
    else
    (ref10_one k s l1_6).bind fun (x12_2_0,x12_2_1)=>
    if (x12_2_1 != 0) then
    some (.inr ([],l1_6,x12_2_1))
    else
    if (room 40 (l1_5.length + [x12_2_0].length)) then
    some (.inl ((l1_5 ++ [x12_2_0]),(IntKind.i64.wrap (l1_6 + ((x12_2_0.Text.length:Int))))))
    else none
    else
    (if (room 40 (l1_5.length + [(TToken.mk 0 ((s.length:Int)) 0 [])].length)) then
    some ((l1_5 ++ [(TToken.mk 0 ((s.length:Int)) 0 [])]),(0:Int),(0:Int))
    else none).map .inr
theorem all_eq (k:Nat) (s:List UInt8) (h:s.length ≤ 16384):ref10_All k s = loopM k (allB k s) ([],0):=by
  unfold ref10_All
  rw [if_neg (by simp; omega)]
  rfl
theorem all_long (k:Nat) (s:List UInt8) (h:16384 < s.length):ref10_All k s = some ([],16384,3):=by
  unfold ref10_All
  rw [if_pos (by simp; omega)]
theorem allB_one {s:List UInt8} {i:Nat} {out:List TToken} {t:TToken} {e:Int} (hi:i < s.length) (h3:cl s i ≠ 3) (h4:cl s i ≠ 4) (h:Ev (fun k=>ref10_one k s i) (t,e)) {x:(List TToken × Int) ⊕ (List TToken × Int × Int)}
    (hx:(if (e != 0) then some (.inr ([],(i:Int),e)) else if (room 40 (out.length + [t].length)) then some (.inl ((out ++ [t]),(IntKind.i64.wrap ((i:Int) + ((t.Text.length:Int)))))) else none) = some x):Ev (fun k=>allB k s (out,(i:Int))) x:=by
  have hd:decide ((i:Int) < (s.length:Int)) = true:=by simp; omega
  have h3b:(cl s i == 3) = false:=by simpa using h3
  have h4b:(cl s i == 4) = false:=by simpa using h4
  simp only [allB,class_eq]
  refine Ev.ite_t hd (Ev.bindS (fun _=>ix_bt hi) (Ev.bindS (fun _=>rfl) (Ev.ite_f h3b (Ev.ite_f h4b ?_))))
  refine Ev.bind h ?_
  exact Ev.of fun _=>hx
theorem allB_end {s:List UInt8} {out:List TToken} (h:out.length ≤ 100000):Ev (fun k=>allB k s (out,(s.length:Int))) (.inr (out ++ [⟨0,s.length,0,[]⟩],0,0)):=by
  have hd:decide ((s.length:Int) < (s.length:Int)) = false:=by simp
  have hr:room 40 (out.length + [(TToken.mk 0 ((s.length:Int)) 0 [])].length) = true:=room_of (by omega) (by simp; omega)
  simp only [allB]
  simp only [qe,Option.bind_some,Option.map_some,joinK,qb,↓reduceIte,if_true,if_false,eq_self,Int.reduceBEq,Int.reduceBNe,hd,hr]; exact Ev.pure
structure NmC (t:List UInt8):Prop where
  one:1 ≤ t.length
  most:t.length ≤ 32
  first:cl t 0 = 1
  all:∀ p,p < t.length→isW t p = true
  no:Ev (fun k=>ref09_Is k t) false
theorem named_of {t:List UInt8} (h1:1 ≤ t.length) (h32:t.length ≤ 32) (hc:cl t 0 = 1) (hall:∀ p,p < t.length→isW t p = true) (hb:Ev (fun k=>ref09_Is k t) false):Nm t:=by
  have ho:Ev (fun k=>ref10_one k t (0:Nat)) (⟨1,0,0,t⟩,0):=by
    have:=word_one (s:=t) (i:=0) (d:=t.length) (by omega) h1 (by omega) hc (fun p _ h=>hall p (by omega)) (.inl (by omega)) (b:=false) (by rw [cut_all]; exact hb)
    rw [cut_all,if_neg (c:=32 < t.length) (by omega)] at this
    simpa using this
  have ha:Ev (fun k=>ref10_All k t) ([⟨1,0,0,t⟩,⟨0,t.length,0,[]⟩],0,0):=by
    refine Ev.congr (fun k=>all_eq k t (by omega)) (Ev.loop (EvL.step (s':=([⟨1,0,0,t⟩],(t.length:Int))) ?_ (EvL.done (allB_end (by simp)))))
    refine allB_one (out:=[]) (i:=0) (by omega) (by omega) (by omega) ho ?_
    rw [if_neg (by simp),if_pos (room_of (by omega) (by simp)),wrap64_id (by simp <;> omega) (by simp <;> omega)]
    simp
  refine Ev.bind ha ?_
  simp only [qe,Option.bind_some,Option.map_some,joinK,qb,↓reduceIte,if_true,if_false,eq_self,Int.reduceBEq,Int.reduceBNe,show decide (0 < 1) = true from rfl]
  refine Ev.ite_t rfl (Ev.bindS (fun _=>rfl) (Ev.ite_t rfl (Ev.bindS (fun _=>rfl) ?_)))
  simp only [qe,Option.bind_some,Option.map_some,joinK,qb,↓reduceIte,if_true,if_false,eq_self,Int.reduceBEq,Int.reduceBNe]; exact Ev.pure
theorem u64_nn (x:Int):0 ≤ IntKind.u64.wrap x:=by
  simp only [IntKind.wrap,IntKind.bits,IntKind.signed]
  simp
  omega
theorem read_ex (t:List UInt8) (hl:t.length ≤ 16384):∃ r:Int × Int,Ev (fun k=>ref01_Read k t) r∧0 ≤ r.1:=by
  unfold ref01_Read
  by_cases h0:(t == []) = true
  · exact ⟨(0,1),Ev.ite_t h0 Ev.pure,by simp⟩
  have h0:(t == []) = false:=by simpa using h0
  have:=loop_ex (σ:=Int × Bool × Int) (ρ:=Int × Int) (body:=fun k (s:Int × Bool × Int)=>match s with
    | (l1_4,l1_5,l1_6)=>
      if (decide (l1_6 < ((t.length:Int)))) then
      joinK (fun ((j2_4,j2_5):Int × Bool)=>
      some (.inl (j2_4,j2_5,(IntKind.i64.wrap (l1_6 + 1))))) fun j_j2=>
      (ix t l1_6).bind fun x8_2=>
      joinK (fun (g8_9_24:Bool)=>
      if g8_9_24 then
      some (.inr (0,1))
      else
      joinK (fun (j3_5:Bool)=>
      if (!j3_5) then
      (ix t l1_6).bind fun x13_4=>
      j_j2 ((IntKind.u64.wrap ((IntKind.u64.wrap (10 * l1_4)) + (IntKind.u64.wrap (IntKind.u8.wrap ((x13_4.toNat:Int) - 48))))),j3_5)
      else
      j_j2 (l1_4,j3_5)) fun j_j3=>
      if (decide (l1_4 > 1000000000000000000)) then
      j_j3 true
      else
      j_j3 l1_5) fun j_g8_9=>
      if (decide ((x8_2.toNat:Int) < 48)) then
      j_g8_9 true
      else
      (ix t l1_6).bind fun x8_7=>
      j_g8_9 (decide ((x8_7.toNat:Int) > 57))
      else
      (if (l1_5 || (decide (l1_4 ≥ 9223372036854775808))) then
      some (0,2)
      else
      some ((IntKind.i64.wrap l1_4),0)).map .inr)
    (fun s=>0 ≤ s.1∧0 ≤ s.2.2∧s.2.2 ≤ t.length) (fun s=>(t.length - s.2.2).toNat) (fun r=>0 ≤ r.1) ?_ (0,false,0) (by simp)
  · obtain ⟨r,h1,h2⟩:=this
    exact ⟨r,Ev.ite_f h0 (Ev.joinK (Ev.loop h1)),h2⟩
  rintro ⟨v,big,i⟩ ⟨hv,hi0,hil⟩
  simp only at hv hi0 hil
  by_cases hd:i < t.length
  · have hdb:decide (i < (t.length:Int)) = true:=by simpa using hd
    obtain ⟨p,rfl⟩:∃ p:Nat,i = p:=⟨i.toNat,by omega⟩
    have hix:ix t (p:Int) = some (bt t p):=ix_bt (by omega)
    have hw:IntKind.i64.wrap ((p:Int) + 1) = (p:Int) + 1:=wrap64_id (by omega) (by omega)
    by_cases hlo:((bt t p).toNat:Int) < 48
    · refine .inl ⟨(0,1),?_,by simp⟩
      have hlob:decide (((bt t p).toNat:Int) < 48) = true:=by simpa using hlo
      simp only; simp only [qe,Option.bind_some,Option.map_some,joinK,qb,↓reduceIte,if_true,if_false,eq_self,Int.reduceBEq,Int.reduceBNe,hdb,hix,hlob]; exact Ev.pure
    · have hlob:decide (((bt t p).toNat:Int) < 48) = false:=by simpa using hlo
      cases hhi:decide (((bt t p).toNat:Int) > 57) with
      | true=>
        refine .inl ⟨(0,1),?_,by simp⟩
        simp only; simp only [qe,Option.bind_some,Option.map_some,joinK,qb,↓reduceIte,if_true,if_false,eq_self,Int.reduceBEq,Int.reduceBNe,hdb,hix,hlob,hhi]; exact Ev.pure
      | false=>
        right
        cases hbig:decide (v > 1000000000000000000) with
        | true=>
          refine ⟨(v,true,(p:Int) + 1),?_,⟨hv,by simp; omega,by simp; omega⟩,by simp; omega⟩
          simp only; simp only [qe,Option.bind_some,Option.map_some,joinK,qb,↓reduceIte,if_true,if_false,eq_self,Int.reduceBEq,Int.reduceBNe,hdb,hix,hlob,hhi,hbig,hw]; exact Ev.pure
        | false=>
          cases big with
          | true=>
            refine ⟨(v,true,(p:Int) + 1),?_,⟨hv,by simp; omega,by simp; omega⟩,by simp; omega⟩
            simp only; simp only [qe,Option.bind_some,Option.map_some,joinK,qb,↓reduceIte,if_true,if_false,eq_self,Int.reduceBEq,Int.reduceBNe,hdb,hix,hlob,hhi,hbig,hw]; exact Ev.pure
          | false=>
            refine ⟨(IntKind.u64.wrap ((IntKind.u64.wrap (10 * v)) + (IntKind.u64.wrap (IntKind.u8.wrap (((bt t p).toNat:Int) - 48)))),false,(p:Int) + 1),?_,⟨u64_nn _,by simp; omega,by simp; omega⟩,by simp; omega⟩
            simp only; simp only [qe,Option.bind_some,Option.map_some,joinK,qb,↓reduceIte,if_true,if_false,eq_self,Int.reduceBEq,Int.reduceBNe,hdb,hix,hlob,hhi,hbig,hw]; exact Ev.pure
  · have hdb:decide (i < (t.length:Int)) = false:=by simpa using hd
    left
    cases hc:(big || (decide (v ≥ 9223372036854775808))) with
    | true=>
      refine ⟨(0,2),?_,by simp⟩
      simp only; simp only [qe,Option.bind_some,Option.map_some,joinK,qb,↓reduceIte,if_true,if_false,eq_self,Int.reduceBEq,Int.reduceBNe,hdb,hc]; exact Ev.pure
    | false=>
      refine ⟨(IntKind.i64.wrap v,0),?_,?_⟩
      · simp only; simp only [qe,Option.bind_some,Option.map_some,joinK,qb,↓reduceIte,if_true,if_false,eq_self,Int.reduceBEq,Int.reduceBNe,hdb,hc]; exact Ev.pure
      · simp at hc
        rw [wrap64_id (by omega) (by omega)]; exact hv
def markB (t:List UInt8) (L:List (List UInt8)) (k:Nat) (s:List UInt8 × Int):Option ((List UInt8 × Int) ⊕ List UInt8) :=
  match s with
  | (l3_5,l3_6)=>
    if (decide (l3_6 < ((L.length:Int)))) then
    joinK (fun (j4_5:List UInt8)=>
    some (.inl (j4_5,(IntKind.i64.wrap (l3_6 + 1))))) fun j_j4=>
    (ix L l3_6).bind fun x10_2=>
    joinK (fun (g10_21_44:Bool)=>
    joinK (fun (g10_31_54:Bool)=>
    if g10_31_54 then
    (ix L l3_6).bind fun x11_2=>
    j_j4 x11_2
    else
    j_j4 l3_5) fun j_g10_31=>
    if g10_21_44 then
    (ix L l3_6).bind fun x10_25=>
    j_g10_31 (decide (((x10_25.length:Int)) > ((l3_5.length:Int))))
    else
    j_g10_31 false) fun j_g10_21=>
    if (decide (((x10_2.length:Int)) ≤ ((t.length:Int)))) then
    (ix L l3_6).bind fun x10_12=>
    (sub t 0 (x10_12.length:Int)).bind fun x10_15=>
    (ix L l3_6).bind fun x10_18=>
    j_g10_21 (x10_15 == x10_18)
    else
    j_g10_21 false
    else
    (some l3_5).map .inr
def marks0:List (List UInt8):=[[40],[41],[123],[125],[91],[93],[44],[59],[46],[61]]
def markA (t:List UInt8) (k:Nat) (s:List (List UInt8) × Int):Option ((List (List UInt8) × Int) ⊕ List UInt8) :=
  match s with
  | (l1_3,l1_4)=>
    if (decide (l1_4 ≤ 14)) then
    (ref09_Spell k l1_4).bind fun x5_2=>
    if (room 16 (l1_3.length + [x5_2].length)) then
    some (.inl ((l1_3 ++ [x5_2]),(IntKind.i64.wrap (l1_4 + 1))))
    else none
    else
    (loopM k (markB t l1_3 k) ([],0)).map .inr
theorem mark_eq (k:Nat) (t:List UInt8):ref09_Mark k t = loopM k (markA t k) (marks0,1):=rfl
theorem marks_add (t:List UInt8):∀ (d n:Nat) (L:List (List UInt8)),n + d = 15→1 ≤ n→L.length = n + 9→∀ {r:List UInt8},EvL (markB t (L ++ spells.drop (n - 1))) ([],0) r→EvL (markA t) (L,(n:Int)) r
  | 0,n,L,e,h1,hl,r,h=>by
    have e:n = 15:=by omega
    subst e
    refine EvL.done ?_
    simp only [markA]
    refine Ev.ite_f (by simp) (Ev.map (Ev.loop ?_))
    simpa [spells] using h
  | d + 1,n,L,e,h1,hl,r,h=>by
    obtain ⟨x,hx⟩:∃ x,spells[n - 1]? = some x:=⟨_,List.getElem?_eq_getElem (by simp [spells]; omega)⟩
    have hdr:spells.drop (n - 1) = x :: spells.drop n:=by
      have h2:=(List.getElem?_eq_some_iff.1 hx)
      rw [List.drop_eq_getElem_cons h2.1,h2.2,show n - 1 + 1 = n by omega]
    refine EvL.step (s':=(L ++ [x],((n + 1:Nat):Int))) ?_ (marks_add t d (n + 1) (L ++ [x]) (by omega) (by omega) (by simp; omega) ?_)
    · have hr:room 16 (L.length + [x].length) = true:=room_of (by omega) (by simp; omega)
      have hw:IntKind.i64.wrap ((n:Int) + 1) = ((n + 1:Nat):Int):=by rw [wrap64_id (by omega) (by omega)]; simp
      simp only [markA]
      refine Ev.ite_t (by simp; omega) (Ev.bindS (spell_at n h1 (by omega) hx) ?_)
      simp only [qe,Option.bind_some,Option.map_some,joinK,qb,↓reduceIte,if_true,if_false,eq_self,Int.reduceBEq,Int.reduceBNe,hr,hw]; exact Ev.pure
    · rw [show n + 1 - 1 = n by omega]
      rw [hdr] at h
      simpa using h
def marksL:List (List UInt8):=marks0 ++ spells
theorem mark_ex (t:List UInt8):∃ r,Ev (fun k=>ref09_Mark k t) r∧r.length ≤ t.length:=by
  obtain ⟨r,h1,h2⟩:=loop_ex (body:=markB t marksL) (fun s=>0 ≤ s.2∧s.2 ≤ marksL.length∧s.1.length ≤ t.length) (fun s=>(marksL.length - s.2).toNat) (fun r=>r.length ≤ t.length) (by
    have hlen:marksL.length = 24:=rfl
    rintro ⟨best,i⟩ ⟨hi0,hil,hb⟩
    simp only at hi0 hil hb
    by_cases hd:i < marksL.length
    · right
      have hdb:decide (i < (marksL.length:Int)) = true:=by simpa using hd
      obtain ⟨m,hm⟩:∃ m,ix marksL i = some m:=by
        refine ⟨marksL[i.toNat]'(by omega),?_⟩
        unfold ix; rw [if_pos hi0]; exact List.getElem?_eq_getElem (by omega)
      have hw:IntKind.i64.wrap (i + 1) = i + 1:=wrap64_id (by omega) (by omega)
      cases hle:decide ((m.length:Int) ≤ (t.length:Int)) with
      | false=>
        refine ⟨(best,i + 1),?_,⟨by simp; omega,by simp; omega,hb⟩,by simp; omega⟩
        simp only [markB]; simp only [qe,Option.bind_some,Option.map_some,joinK,qb,↓reduceIte,if_true,if_false,eq_self,Int.reduceBEq,Int.reduceBNe,hdb,hm,hle,hw]; exact Ev.pure
      | true=>
        have hle':m.length ≤ t.length:=by simpa using hle
        have hs:sub t 0 (m.length:Int) = some (t.take m.length):=by
          unfold sub
          rw [if_pos ⟨by omega,by omega,by omega⟩]; simp
        cases heq:(t.take m.length == m) with
        | false=>
          refine ⟨(best,i + 1),?_,⟨by simp; omega,by simp; omega,hb⟩,by simp; omega⟩
          simp only [markB]; simp only [qe,Option.bind_some,Option.map_some,joinK,qb,↓reduceIte,if_true,if_false,eq_self,Int.reduceBEq,Int.reduceBNe,hdb,hm,hle,hs,heq,hw]; exact Ev.pure
        | true=>
          cases hgt:decide ((m.length:Int) > (best.length:Int)) with
          | false=>
            refine ⟨(best,i + 1),?_,⟨by simp; omega,by simp; omega,hb⟩,by simp; omega⟩
            simp only [markB]; simp only [qe,Option.bind_some,Option.map_some,joinK,qb,↓reduceIte,if_true,if_false,eq_self,Int.reduceBEq,Int.reduceBNe,hdb,hm,hle,hs,heq,hgt,hw]; exact Ev.pure
          | true=>
            refine ⟨(m,i + 1),?_,⟨by simp; omega,by simp; omega,hle'⟩,by simp; omega⟩
            simp only [markB]; simp only [qe,Option.bind_some,Option.map_some,joinK,qb,↓reduceIte,if_true,if_false,eq_self,Int.reduceBEq,Int.reduceBNe,hdb,hm,hle,hs,heq,hgt,hw]; exact Ev.pure
    · have hdb:decide (i < (marksL.length:Int)) = false:=by simpa using hd
      left
      refine ⟨best,?_,hb⟩
      simp only [markB]; simp only [qe,Option.bind_some,Option.map_some,joinK,qb,↓reduceIte,if_true,if_false,eq_self,Int.reduceBEq,Int.reduceBNe,hdb]; exact Ev.pure) ([],0) (by simp)
  refine ⟨r,Ev.congr (fun k=>mark_eq k t) (Ev.loop (marks_add t 14 1 marks0 (by omega) (by omega) rfl ?_)),h2⟩
  exact h1
theorem one_ex {s:List UInt8} (hl:s.length ≤ 16384) {i:Nat} (hi:i < s.length):∃ t e,Ev (fun k=>ref10_one k s (i:Int)) (t,e)∧(e = 0→1 ≤ t.Text.length∧i + t.Text.length ≤ s.length∧(t.Kind = 1→NmC t.Text)∧(t.Kind = 2→0 ≤ t.N)):=by
  by_cases h1:cl s i = 1
  · obtain ⟨d,d1,d2,d3⟩:=stretch (isW s) s.length (s.length - i) i (by omega)
    have hd:1 ≤ d:=by
      rcases Nat.eq_zero_or_pos d with h | h
      · subst h
        rcases d3 with h | h
        · omega
        · unfold isW at h; simp only [Nat.add_zero] at h; rw [h1] at h; simp at h
      · exact h
    obtain ⟨b,hb⟩:=is_ex (cut s i d)
    refine ⟨_,_,word_one hl hd d1 h1 d2 d3 hb,fun he=>?_⟩
    have h32:d ≤ 32:=by
      by_cases h:32 < d
      · rw [if_pos h] at he; simp at he
      · omega
    have hcl:=cut_len d1
    refine ⟨by simp only [hcl]; omega,by simp only [hcl]; omega,fun hk=>?_,fun hk=>?_⟩
    · cases b with
      | true=>simp at hk
      | false=>
        refine ⟨(by simp only [hcl]; omega),(by simp only [hcl]; omega),?_,(fun p hp=>?_),hb⟩
        · have:bt (cut s i d) 0 = bt s i:=by rw [bt_cut d1 (by omega)]; rfl
          unfold cl; rw [this]; exact h1
        · simp only [hcl] at hp
          have hx:=d2 (i + p) (by omega) (by omega)
          unfold isW cl at hx ⊢
          simp only [bt_cut d1 hp]; exact hx
    · cases b <;> simp at hk
  have h1b:(cl s i == 1) = false:=by simpa using h1
  by_cases h2:cl s i = 2
  · have h2b:(cl s i == 2) = true:=by simpa using h2
    obtain ⟨d,d1,d2,d3⟩:=stretch (fun p=>cl s p == 2) s.length (s.length - i) i (by omega)
    have hd:1 ≤ d:=by
      rcases Nat.eq_zero_or_pos d with h | h
      · subst h
        rcases d3 with h | h
        · omega
        · simp only [Nat.add_zero] at h; rw [h2b] at h; cases h
      · exact h
    have hcl:=cut_len d1
    obtain ⟨⟨v,e⟩,r1,r2⟩:=read_ex (cut s i d) (by omega)
    refine ⟨⟨2,i,v,cut s i d⟩,e,?_,fun he=>⟨by simp only [hcl]; omega,by simp only [hcl]; omega,fun hk=>by simp at hk,fun _=>r2⟩⟩
    unfold ref10_one
    simp only [class_eq]
    refine Ev.bindS (fun _=>ix_bt (by omega)) ?_
    simp only [qe,Option.bind_some,Option.map_some,joinK,qb,↓reduceIte,if_true,if_false,eq_self,Int.reduceBEq,Int.reduceBNe,h1b,h2b]
    refine Ev.loop (scan_to d i (fun p q1 q2=>?_) ?_)
    · have hw:=d2 p q1 q2
      have hp:decide ((p:Int) < (s.length:Int)) = true:=by simp; omega
      have hwr:IntKind.i64.wrap ((p:Int) + 1) = ((p + 1:Nat):Int):=by rw [wrap64_id (by omega) (by omega)]; simp
      simp only [qe,Option.bind_some,Option.map_some,joinK,qb,↓reduceIte,if_true,if_false,eq_self,Int.reduceBEq,Int.reduceBNe,hp,ix_bt (show p < s.length by omega),hw,hwr]; exact Ev.pure
    · have fin:∀ {σ:Type},Ev (fun k=>Option.map (Sum.inr (α:=σ)) ((sub s (i:Int) ((i + d:Nat):Int)).bind fun x=>(ref01_Read k x).bind fun y=>(sub s (i:Int) ((i + d:Nat):Int)).bind fun z=>some (TToken.mk 2 i y.1 z,y.2))) (.inr (⟨2,i,v,cut s i d⟩,e)):=by
        intro σ
        exact Ev.map (Ev.bindS (fun _=>sub_cut d1) (Ev.bind r1 (Ev.bindS (fun _=>sub_cut d1) Ev.pure)))
      by_cases he2:i + d = s.length
      · have hp:decide (((i + d:Nat):Int) < (s.length:Int)) = false:=by simp; omega
        simp only [qe,Option.bind_some,Option.map_some,joinK,qb,↓reduceIte,if_true,if_false,eq_self,Int.reduceBEq,Int.reduceBNe,hp]; exact fin
      · have hp:decide (((i + d:Nat):Int) < (s.length:Int)) = true:=by simp; omega
        have he:(cl s (i + d) == 2) = false:=by
          rcases d3 with h | h
          · exact (he2 h).elim
          · exact h
        simp only [qe,Option.bind_some,Option.map_some,joinK,qb,↓reduceIte,if_true,if_false,eq_self,Int.reduceBEq,Int.reduceBNe,hp,ix_bt (show i + d < s.length by omega),he]; exact fin
  have h2b:(cl s i == 2) = false:=by simpa using h2
  have hwr:IntKind.i64.wrap ((i:Int) + 2) = (i:Int) + 2:=wrap64_id (by omega) (by omega)
  obtain ⟨d,hd1,hd2,hm⟩:∃ d,1 ≤ d∧i + d ≤ s.length∧mn ((i:Int) + 2) (s.length:Int) = ((i + d:Nat):Int):=by
    refine ⟨min 2 (s.length - i),by omega,by omega,?_⟩
    rw [mn_eq]; omega
  have hcl:=cut_len hd2
  obtain ⟨r,r1,r2⟩:=mark_ex (cut s i d)
  cases hr:(r == []) with
  | true=>
    refine ⟨⟨0,i,0,[]⟩,1,?_,fun he=>by simp at he⟩
    unfold ref10_one
    simp only [class_eq]
    refine Ev.bindS (fun _=>ix_bt (by omega)) ?_
    simp only [qe,Option.bind_some,Option.map_some,joinK,qb,↓reduceIte,if_true,if_false,eq_self,Int.reduceBEq,Int.reduceBNe,h1b,h2b,hwr,hm]
    refine Ev.bindS (fun _=>sub_cut hd2) (Ev.bind r1 ?_)
    simp only [qe,Option.bind_some,Option.map_some,joinK,qb,↓reduceIte,if_true,if_false,eq_self,Int.reduceBEq,Int.reduceBNe,hr]; exact Ev.pure
  | false=>
    have hr':r ≠ []:=by simpa using hr
    refine ⟨⟨4,i,0,r⟩,0,?_,fun he=>⟨?_,?_,fun hk=>by simp at hk,fun hk=>by simp at hk⟩⟩
    · unfold ref10_one
      simp only [class_eq]
      refine Ev.bindS (fun _=>ix_bt (by omega)) ?_
      simp only [qe,Option.bind_some,Option.map_some,joinK,qb,↓reduceIte,if_true,if_false,eq_self,Int.reduceBEq,Int.reduceBNe,h1b,h2b,hwr,hm]
      refine Ev.bindS (fun _=>sub_cut hd2) (Ev.bind r1 ?_)
      simp only [qe,Option.bind_some,Option.map_some,joinK,qb,↓reduceIte,if_true,if_false,eq_self,Int.reduceBEq,Int.reduceBNe,hr]; exact Ev.pure
    · have:=List.length_pos_iff.2 hr'; simp only; omega
    · simp only; omega
structure TokG (t:TToken):Prop where
  name:t.Kind = 1→NmC t.Text
  num:t.Kind = 2→0 ≤ t.N
theorem all_loop {s:List UInt8} (hl:s.length ≤ 16384):∃ r,EvL (allB · s) (([]:List TToken),(0:Int)) r∧(r.2.2 = 0→(∀ t ∈ r.1,TokG t)∧0 < r.1.length):=by
  refine loop_ex (body:=(allB · s)) (fun st=>0 ≤ st.2∧st.2 ≤ s.length∧(st.1.length:Int) ≤ st.2∧∀ t ∈ st.1,TokG t) (fun st=>(s.length - st.2).toNat) (fun r=>r.2.2 = 0→(∀ t ∈ r.1,TokG t)∧0 < r.1.length) ?_ ([],0) (by simp)
  rintro ⟨out,i⟩ ⟨hi0,hil,ho,hg⟩
  simp only at hi0 hil ho hg
  obtain ⟨i,rfl⟩:∃ n:Nat,i = n:=⟨i.toNat,by omega⟩
  by_cases hd:i < s.length
  · have hdb:decide ((i:Int) < (s.length:Int)) = true:=by simpa using hd
    have hw:IntKind.i64.wrap ((i:Int) + 1) = (i:Int) + 1:=wrap64_id (by omega) (by omega)
    by_cases h3:cl s i = 3
    · right
      have h3b:(cl s i == 3) = true:=by simpa using h3
      refine ⟨(out,(i:Int) + 1),?_,⟨by simp; omega,by simp; omega,by simp; omega,hg⟩,by simp; omega⟩
      simp only [allB,class_eq]; simp only [qe,Option.bind_some,Option.map_some,joinK,qb,↓reduceIte,if_true,if_false,eq_self,Int.reduceBEq,Int.reduceBNe,hdb,ix_bt hd,h3b,hw]; exact Ev.pure
    have h3b:(cl s i == 3) = false:=by simpa using h3
    by_cases h4:cl s i = 4
    · right
      have h4b:(cl s i == 4) = true:=by simpa using h4
      obtain ⟨d,d1,d2,d3⟩:=stretch (fun p=>((bt s p).toNat:Int) != 10) s.length (s.length - i) i (by omega)
      have hd':1 ≤ d:=by
        rcases Nat.eq_zero_or_pos d with h | h
        · subst h
          rcases d3 with h | h
          · omega
          · simp only [Nat.add_zero] at h
            have:((bt s i).toNat:Int) = 10:=by simpa using h
            unfold cl at h4; rw [this] at h4; exact absurd h4 (by decide)
        · exact h
      refine ⟨(out,((i + d:Nat):Int)),?_,⟨by simp; omega,by simp; omega,by simp; omega,hg⟩,by simp; omega⟩
      simp only [allB,class_eq]; simp only [qe,Option.bind_some,Option.map_some,joinK,qb,↓reduceIte,if_true,if_false,eq_self,Int.reduceBEq,Int.reduceBNe,hdb,ix_bt hd,h3b,h4b]
      refine Ev.loop (scan_to d i (fun p q1 q2=>?_) ?_)
      · have hp:decide ((p:Int) < (s.length:Int)) = true:=by simp; omega
        have hwr:IntKind.i64.wrap ((p:Int) + 1) = ((p + 1:Nat):Int):=by rw [wrap64_id (by omega) (by omega)]; simp
        have hx:=d2 p q1 q2
        simp only [qe,Option.bind_some,Option.map_some,joinK,qb,↓reduceIte,if_true,if_false,eq_self,Int.reduceBEq,Int.reduceBNe,hp,ix_bt (show p < s.length by omega),hx,hwr]; exact Ev.pure
      · by_cases he2:i + d = s.length
        · have hp:decide (((i + d:Nat):Int) < (s.length:Int)) = false:=by simp; omega
          simp only [qe,Option.bind_some,Option.map_some,joinK,qb,↓reduceIte,if_true,if_false,eq_self,Int.reduceBEq,Int.reduceBNe,hp]; exact Ev.pure
        · have hp:decide (((i + d:Nat):Int) < (s.length:Int)) = true:=by simp; omega
          have he:(((bt s (i + d)).toNat:Int) != 10) = false:=by
            rcases d3 with h | h
            · exact (he2 h).elim
            · exact h
          simp only [qe,Option.bind_some,Option.map_some,joinK,qb,↓reduceIte,if_true,if_false,eq_self,Int.reduceBEq,Int.reduceBNe,hp,ix_bt (show i + d < s.length by omega),he]; exact Ev.pure
    · obtain ⟨t,e,h1,h2⟩:=one_ex hl hd
      by_cases he:e = 0
      · subst he
        obtain ⟨g1,g2,g3,g4⟩:=h2 rfl
        right
        have hr:room 40 (out.length + [t].length) = true:=room_of (by omega) (by simp; omega)
        refine ⟨(out ++ [t],(i:Int) + (t.Text.length:Int)),allB_one hd h3 h4 h1 ?_,⟨by simp; omega,by simp; omega,by simp; omega,?_⟩,by simp; omega⟩
        · rw [if_neg (by simp),if_pos hr,wrap64_id (by omega) (by omega)]
        · intro x hx
          rcases List.mem_append.1 hx with hx | hx
          · exact hg x hx
          · simp at hx; subst hx; exact ⟨g3,g4⟩
      · left
        refine ⟨([],(i:Int),e),allB_one hd h3 h4 h1 ?_,fun h=>(he h).elim⟩
        rw [if_pos (by simpa using he)]
  · left
    have hi:i = s.length:=by omega
    subst hi
    exact ⟨_,allB_end (by omega),fun _=>⟨fun t ht=>(by
      rcases List.mem_append.1 ht with hx | hx
      · exact hg _ hx
      · simp only [List.mem_singleton] at hx; subst hx; exact ⟨fun hk=>by simp at hk,fun hk=>by simp at hk⟩),by simp⟩⟩
theorem all_ex2 (s:List UInt8):∃ r,Ev (fun k=>ref10_All k s) r∧(r.2.2 = 0→(∀ t ∈ r.1,TokG t)∧0 < r.1.length):=by
  by_cases h:s.length ≤ 16384
  · obtain ⟨r,h1,h2⟩:=all_loop h
    exact ⟨r,Ev.congr (fun k=>all_eq k s h) (Ev.loop h1),h2⟩
  · exact ⟨([],16384,3),Ev.of (fun k=>all_long k s (by omega)),fun h=>by simp at h⟩
theorem NmC.nm {s:List UInt8} (h:NmC s):Nm s:=named_of h.one h.most h.first h.all h.no
theorem named_ex (s:List UInt8):∃ b,Ev (fun k=>ref11_Named k s) b∧(b = true→NmC s):=by
  obtain ⟨⟨l,p,e⟩,h1,h2⟩:=all_ex2 s
  by_cases hc:((e == 0) && ((l.length:Int) == 2)) = true
  · have he:e = 0:=by simp at hc; exact hc.1
    have hl:l.length = 2:=by simp at hc; omega
    obtain ⟨g,_⟩:=h2 he
    obtain ⟨t,u,rfl⟩:∃ t u,l = [t,u]:=by
      match l,hl with
      | [t,u],_=>exact ⟨t,u,rfl⟩
    have ht:=g t (by simp)
    have i0:ix [t,u] 0 = some t:=rfl
    by_cases hk:t.Kind = 1
    · by_cases hx:t.Text = s
      · refine ⟨true,?_,fun _=>hx ▸ ht.name hk⟩
        refine Ev.bind h1 ?_
        refine Ev.ite_t hc ?_
        simp only [i0,Option.bind_some]
        refine Ev.ite_t (by simpa using hk) ?_
        simp only [hx,beq_self_eq_true]
        exact Ev.pure
      · refine ⟨false,?_,fun h=>by cases h⟩
        refine Ev.bind h1 ?_
        refine Ev.ite_t hc ?_
        simp only [i0,Option.bind_some]
        refine Ev.ite_t (by simpa using hk) ?_
        rw [show (t.Text == s) = false from by simpa using hx]
        exact Ev.pure
    · refine ⟨false,?_,fun h=>by cases h⟩
      refine Ev.bind h1 ?_
      refine Ev.ite_t hc ?_
      simp only [i0,Option.bind_some]
      refine Ev.ite_f (by simpa using hk) ?_
      exact Ev.pure
  · refine ⟨false,?_,fun h=>by cases h⟩
    refine Ev.bind h1 ?_
    refine Ev.ite_f (by simpa using hc) ?_
    exact Ev.pure
end Go.Proofs.YtjojaiomgdjhfaaGreatDoor.F
namespace Go.Proofs.YtjojaiomgdjhfaaGreatDoor.F
open Go
theorem w64 {x:Int} (h : -9223372036854775808 ≤ x) (h2:x ≤ 9223372036854775807):IntKind.i64.wrap x = x:=by
  simp only [IntKind.wrap,IntKind.bits,IntKind.signed]
  simp
  omega
theorem idxf {α:Type} (g:Nat→α→Option Bool) (l:List α) (hl:l.length ≤ 1000000000) (f:α→Bool) (hf:∀ x ∈ l,Ev (fun k=>g k x) (f x)):∀ m i:Nat,i + m = l.length→∃ r:Int,EvL (fun k (l1_8:Int)=>
    if (decide (l1_8 < (l.length:Int))) then
    (ix l l1_8).bind fun x4_3=>
    (g k x4_3).bind fun x4_5=>
    if x4_5 then
    some (.inr l1_8)
    else
    some (.inl (IntKind.i64.wrap (l1_8 + 1)))
    else
    ((some (-1):Option Int)).map .inr) (i:Int) r∧decide (r ≥ 0) = (l.drop i).any f
  | 0,i,h=>by
    refine ⟨-1,EvL.done ?_,?_⟩
    · rw [show (decide ((i:Int) < (l.length:Int))) = false by simp; omega]
      exact Ev.pure
    · rw [List.drop_of_length_le (by omega)]; rfl
  | m + 1,i,h=>by
    have hi:i < l.length:=by omega
    have e1:(decide ((i:Int) < (l.length:Int))) = true:=by simp; omega
    have hF:=hf l[i] (List.getElem_mem hi)
    rw [List.drop_eq_getElem_cons hi,List.any_cons]
    cases he:f l[i] with
    | true=>
      rw [he] at hF
      refine ⟨i,EvL.done ?_,by simp⟩
      simp only [e1,if_true,ix_nat hi,Option.bind_some]
      refine Ev.bind hF ?_
      exact Ev.pure
    | false=>
      rw [he] at hF
      obtain ⟨r,r1,r2⟩:=idxf g l hl f hf m (i + 1) (by omega)
      refine ⟨r,EvL.step (s':=((i + 1:Nat):Int)) ?_ r1,by rw [r2]; simp⟩
      simp only [e1,if_true,ix_nat hi,Option.bind_some]
      refine Ev.bind hF ?_
      simp only [Bool.false_eq_true,if_false]
      rw [w64 (by omega) (by omega)]
      exact Ev.pure
theorem allf {α ρ:Type} (g:Nat→α→Option Bool) (l:List α) (hl:l.length ≤ 1000000000) (f:α→Bool) (hf:∀ x ∈ l,Ev (fun k=>g k x) (f x)) (no:ρ) (J:Nat→Option ρ) {yes:ρ} (hJ:Ev J yes) (n:Nat) (hn:n ≤ l.length):∀ m i:Nat,i + m = n→EvL (fun k (l1_3:Int)=>
    if (decide (l1_3 < (n:Int))) then
    (ix l l1_3).bind fun x4_2=>
    (g k x4_2).bind fun x4_4=>
    if (!x4_4) then
    some (.inr no)
    else
    some (.inl (IntKind.i64.wrap (l1_3 + 1)))
    else
    (J k).map .inr) (i:Int) (if ((l.take n).drop i).all f = true then yes else no)
  | 0,i,h=>by
    refine EvL.done ?_
    rw [show (decide ((i:Int) < (n:Int))) = false by simp; omega,List.drop_of_length_le (by rw [List.length_take]; omega)]
    simp only [Bool.false_eq_true,if_false,List.all_nil,if_true]
    exact Ev.map hJ
  | m + 1,i,h=>by
    have hi:i < l.length:=by omega
    have hi2:i < (l.take n).length:=by rw [List.length_take]; omega
    have e1:(decide ((i:Int) < (n:Int))) = true:=by simp; omega
    have hF:=hf l[i] (List.getElem_mem hi)
    have hg:(l.take n)[i] = l[i]:=by rw [List.getElem_take]
    rw [List.drop_eq_getElem_cons hi2,List.all_cons,hg]
    cases he:f l[i] with
    | false=>
      rw [he] at hF
      refine EvL.done ?_
      simp only [e1,if_true,ix_nat hi,Option.bind_some,Bool.false_and,Bool.false_eq_true,if_false]
      refine Ev.bind hF ?_
      exact Ev.pure
    | true=>
      rw [he] at hF
      refine EvL.step (s':=((i + 1:Nat):Int)) ?_ (by simpa using allf g l hl f hf no J hJ n hn m (i + 1) (by omega))
      simp only [e1,if_true,ix_nat hi,Option.bind_some]
      refine Ev.bind hF ?_
      simp only [Bool.not_true,Bool.false_eq_true,if_false]
      rw [w64 (by omega) (by omega)]
      exact Ev.pure
def lettersL:List UInt8:=[97,98,99,100,101,102,103,104,105,106,107,108,109,110,111,112,113,114,115,116,117,118,119,120,121,122,65,66,67,68,69,70,71,72,73,74,75,76,77,78,79,80,81,82,83,84,85,86,87,88,89,90,95]
def digitsL:List UInt8:=lettersL ++ [48,49,50,51,52,53,54,55,56,57]
theorem letters_all:(List.range 256).all (fun n=>!(cls (n:Int) == 1) || decide (Lib.indexByte lettersL (UInt8.ofNat n) ≥ 0)) = true:=by kernel_rfl
theorem digits_all:(List.range 256).all (fun n=>!((cls (n:Int) == 1) || (cls (n:Int) == 2)) || decide (Lib.indexByte digitsL (UInt8.ofNat n) ≥ 0)) = true:=by kernel_rfl
theorem letter_of (b:UInt8) (h:cls (b.toNat:Int) = 1):Lib.indexByte lettersL b ≥ 0:=by
  have:=List.all_eq_true.1 letters_all b.toNat (List.mem_range.2 b.toNat_lt)
  rw [h] at this
  simpa using this
theorem digit_of (b:UInt8) (h:((cls (b.toNat:Int) == 1) || (cls (b.toNat:Int) == 2)) = true):Lib.indexByte digitsL b ≥ 0:=by
  have:=List.all_eq_true.1 digits_all b.toNat (List.mem_range.2 b.toNat_lt)
  rw [h] at this
  simpa using this
theorem inner1 (k:Nat) (b:UInt8):tree_inner_1 k (b.toNat:Int) = some (decide (Lib.indexByte digitsL b < 0)):=by
  have e:((b.toNat:Int)).toNat.toUInt8 = b:=by simp
  unfold tree_inner_1 strings_IndexByte
  rw [e]
  rfl
theorem words_same (k:Nat):word_All k = some wordsL:=by kernel_rfl
theorem is_word {w:List UInt8} (h:w ∈ wordsL) (k:Nat):ref09_Is (k + 30) w = some true:=by
  simp only [wordsL,List.mem_cons,List.not_mem_nil,or_false] at h
  rcases h with rfl | rfl | rfl | rfl | rfl | rfl | rfl | rfl | rfl | rfl | rfl | rfl | rfl | rfl | rfl | rfl | rfl | rfl | rfl | rfl <;> kernel_rfl
theorem no_word {s:List UInt8} (h:Ev (fun k=>ref09_Is k s) false):∀ w ∈ wordsL,(s == w) = false:=by
  intro w hw
  cases e:s == w with
  | false=>rfl
  | true=>
    have e2:s = w:=by simpa using e
    subst e2
    have:=Ev.uniq h (Ev.at 30 (is_word hw))
    cases this
theorem tnamed {s:List UInt8} (h:NmC s):Ev (fun k=>tree_named k s) true:=by
  obtain ⟨h1,h32,hc,hall,hb⟩:=h
  have hw:Ev (fun k=>word_Is k s) false:=by
    have hno:=no_word hb
    obtain ⟨r,r1,r2⟩:=idxf (fun _ w=>some (s == w)) wordsL (by decide) (fun w=>s == w) (fun w _=>Ev.pure) wordsL.length 0 (by omega)
    have hx:Ev (fun k=>slices_Index_string k wordsL s) r:=by
      unfold slices_Index_string
      exact Ev.loop r1
    have hr:decide (r ≥ 0) = false:=by
      rw [r2,List.drop_zero,List.any_eq_false]
      intro w hw
      simp [hno w hw]
    unfold word_Is
    refine Ev.bindS (fun k=>words_same k) ?_
    unfold slices_Contains_string
    refine Ev.bind (x:=decide (r ≥ 0)) (Ev.bind hx Ev.pure) ?_
    rw [hr]; exact Ev.pure
  have hin:Ev (fun k=>tree_inner k s) true:=by
    have hf:∀ x ∈ s.map (fun b=>(b.toNat:Int)),Ev (fun k=>tree_inner_1 k x) false:=by
      intro x hx
      obtain ⟨b,hb,rfl⟩:=List.mem_map.1 hx
      refine Ev.of fun k=>?_
      rw [inner1]
      obtain ⟨p,hp,rfl⟩:=List.mem_iff_getElem.1 hb
      have:=hall p hp
      have hbt:bt s p = s[p]:=by unfold bt; rw [List.getElem?_eq_getElem hp]; rfl
      unfold isW cl at this
      rw [hbt] at this
      have:=digit_of _ this
      rw [decide_eq_false (by omega)]
    obtain ⟨r,r1,r2⟩:=idxf tree_inner_1 (s.map fun b=>(b.toNat:Int)) (by rw [List.length_map]; omega) (fun _=>false) hf (s.map fun b=>(b.toNat:Int)).length 0 (by omega)
    have hx:Ev (fun k=>slices_IndexFunc_byte k (s.map fun b=>(b.toNat:Int))) r:=by
      unfold slices_IndexFunc_byte
      exact Ev.loop r1
    have hr:decide (r ≥ 0) = false:=by rw [r2]; simp
    unfold tree_inner slices_ContainsFunc_byte
    refine Ev.bind (x:=decide (r ≥ 0)) (Ev.bind hx Ev.pure) ?_
    rw [hr]; exact Ev.pure
  have h0:ix s 0 = some (bt s 0):=ix_bt (p:=0) (by omega)
  have hidx:∀ k,strings_IndexByte k lettersL ((bt s 0).toNat:Int) = some (Lib.indexByte lettersL (bt s 0)):=by
    intro k
    unfold strings_IndexByte
    simp
  have hge:=letter_of (bt s 0) hc
  have e1:((!(s == [])) && (decide ((s.length:Int) ≤ 32))) = true:=by
    have:s ≠ []:=by intro h; subst h; simp at h1
    simp [this]; omega
  unfold tree_named
  refine Ev.ite_t e1 ?_
  refine Ev.bind hin ?_
  simp only [joinK,if_true]
  refine Ev.bindS (fun _=>h0) ?_
  refine Ev.bindS hidx ?_
  rw [decide_eq_true hge]
  simp only [if_true]
  refine Ev.bind hw ?_
  exact Ev.pure
end Go.Proofs.YtjojaiomgdjhfaaGreatDoor.F
namespace Go.Proofs.YtjojaiomgdjhfaaGreatDoor.F
open Go
inductive Bd:TNode→Prop
  | mk (kd a n:Int) (s:List UInt8) (l:List TNode) (hl:l.length ≤ 10000000) (hk:∀ x ∈ l,Bd x):Bd (TNode.mk kd a n s l)
theorem Bd.len {n:TNode} (h:Bd n):n.Kids.length ≤ 10000000:=by cases h; assumption
theorem Bd.kid {n:TNode} (h:Bd n):∀ x ∈ n.Kids,Bd x:=by cases h; assumption
noncomputable def nb (s:List UInt8):Bool:=(named_ex s).choose
theorem nb_ev (s:List UInt8):Ev (fun k=>ref11_Named k s) (nb s):=(named_ex s).choose_spec.1
theorem nb_ok {s:List UInt8} (h:nb s = true):Ev (fun k=>tree_named k s) true:=tnamed ((named_ex s).choose_spec.2 h)
def RI (r i:Nat→TNode→Option Bool) (n:TNode):Prop:=∃ b,Ev (fun k=>r k n) b∧(b = true→Ev (fun k=>i k n) true)
def callF (k:Nat) (f:Nat) (x:TNode):Option Bool :=
  match f with
  | 0=>tree_Expr k x
  | 1=>tree_place k x
  | 2=>tree_block k x
  | 3=>tree_branch k x
  | 4=>tree_call k x
  | 5=>tree_Type k x
  | 6=>tree_merger k x
  | 7=>tree_param k x
  | _=>none
theorem kids_loop (n:TNode) (fs:List Nat) (hl:n.Kids.length = fs.length) (hlen:fs.length ≤ 10) (h8:∀ f ∈ fs,f < 8) (hf:∀ (i:Nat) x f,n.Kids[i]? = some x→fs[i]? = some f→Ev (fun k=>callF k f x) true):∀ m i:Nat,i + m = fs.length→EvL (fun k (l1_36:Int)=>
    if (decide (l1_36 < (n.Kids.length:Int))) then
    (ix n.Kids l1_36).bind fun x5_1=>
    (ix fs l1_36).bind fun x6_2=>
    if (x6_2 == 0) then
    (tree_Expr k x5_1).bind fun x6_5=>
    if (!x6_5) then
    some (.inr false)
    else
    some (.inl (IntKind.i64.wrap (l1_36 + 1)))
    else if (x6_2 == 1) then
    (tree_place k x5_1).bind fun x6_5=>
    if (!x6_5) then
    some (.inr false)
    else
    some (.inl (IntKind.i64.wrap (l1_36 + 1)))
    else if (x6_2 == 2) then
    (tree_block k x5_1).bind fun x6_5=>
    if (!x6_5) then
    some (.inr false)
    else
    some (.inl (IntKind.i64.wrap (l1_36 + 1)))
    else if (x6_2 == 3) then
    (tree_branch k x5_1).bind fun x6_5=>
    if (!x6_5) then
    some (.inr false)
    else
    some (.inl (IntKind.i64.wrap (l1_36 + 1)))
    else if (x6_2 == 4) then
    (tree_call k x5_1).bind fun x6_5=>
    if (!x6_5) then
    some (.inr false)
    else
    some (.inl (IntKind.i64.wrap (l1_36 + 1)))
    else if (x6_2 == 5) then
    (tree_Type k x5_1).bind fun x6_5=>
    if (!x6_5) then
    some (.inr false)
    else
    some (.inl (IntKind.i64.wrap (l1_36 + 1)))
    else if (x6_2 == 6) then
    (tree_merger k x5_1).bind fun x6_5=>
    if (!x6_5) then
    some (.inr false)
    else
    some (.inl (IntKind.i64.wrap (l1_36 + 1)))
    else if (x6_2 == 7) then
    (tree_param k x5_1).bind fun x6_5=>
    if (!x6_5) then
    some (.inr false)
    else
    some (.inl (IntKind.i64.wrap (l1_36 + 1)))
    else none
    else
    ((some true:Option Bool)).map .inr) (i:Int) true
  | 0,i,h=>by
    refine EvL.done ?_
    rw [show (decide ((i:Int) < (n.Kids.length:Int))) = false by simp; omega]
    exact Ev.pure
  | m + 1,i,h=>by
    have hi:i < fs.length:=by omega
    have hi2:i < n.Kids.length:=by omega
    have e1:(decide ((i:Int) < (n.Kids.length:Int))) = true:=by simp; omega
    have h1:=hf i n.Kids[i] fs[i] (List.getElem?_eq_getElem hi2) (List.getElem?_eq_getElem hi)
    have h2:=h8 fs[i] (List.getElem_mem hi)
    refine EvL.step (s':=((i + 1:Nat):Int)) ?_ (kids_loop n fs hl hlen h8 hf m (i + 1) (by omega))
    simp only [e1,if_true,ix_nat hi,ix_nat hi2,Option.bind_some]
    generalize fs[i] = f at h1 h2
    have hw:IntKind.i64.wrap ((i:Int) + 1) = ((i + 1:Nat):Int):=by rw [w64 (by omega) (by omega)]; omega
    rw [hw]
    have fin:∀ g:Nat→Option Bool,Ev g true→Ev (fun k=>(g k).bind fun x6_5=>if (!x6_5) = true then some (Sum.inr (α:=Int) false) else some (Sum.inl ((i + 1:Nat):Int))) (Sum.inl ((i + 1:Nat):Int)):=fun g hg=>Ev.bind hg (Ev.of fun _=>rfl)
    match f,h2,h1 with
    | 0,_,h1=>exact Ev.ite_t rfl (fin _ h1)
    | 1,_,h1=>exact Ev.ite_f rfl (Ev.ite_t rfl (fin _ h1))
    | 2,_,h1=>exact Ev.ite_f rfl (Ev.ite_f rfl (Ev.ite_t rfl (fin _ h1)))
    | 3,_,h1=>exact Ev.ite_f rfl (Ev.ite_f rfl (Ev.ite_f rfl (Ev.ite_t rfl (fin _ h1))))
    | 4,_,h1=>exact Ev.ite_f rfl (Ev.ite_f rfl (Ev.ite_f rfl (Ev.ite_f rfl (Ev.ite_t rfl (fin _ h1)))))
    | 5,_,h1=>exact Ev.ite_f rfl (Ev.ite_f rfl (Ev.ite_f rfl (Ev.ite_f rfl (Ev.ite_f rfl (Ev.ite_t rfl (fin _ h1))))))
    | 6,_,h1=>exact Ev.ite_f rfl (Ev.ite_f rfl (Ev.ite_f rfl (Ev.ite_f rfl (Ev.ite_f rfl (Ev.ite_f rfl (Ev.ite_t rfl (fin _ h1)))))))
    | 7,_,h1=>exact Ev.ite_f rfl (Ev.ite_f rfl (Ev.ite_f rfl (Ev.ite_f rfl (Ev.ite_f rfl (Ev.ite_f rfl (Ev.ite_f rfl (Ev.ite_t rfl (fin _ h1))))))))
theorem kids_ok {n:TNode} {nm:Bool} {fs:List Nat} (hn:if nm = true then nb n.Name = true else n.Name = []) (hl:n.Kids.length = fs.length) (hlen:fs.length ≤ 10) (h8:∀ f ∈ fs,f < 8) (hf:∀ (i:Nat) x f,n.Kids[i]? = some x→fs[i]? = some f→Ev (fun k=>callF k f x) true):Ev (fun k=>tree_kids k n nm fs) true:=by
  have hL:=kids_loop n fs hl hlen h8 hf fs.length 0 (by omega)
  have e:((n.Kids.length:Int) != (fs.length:Int)) = false:=by simp; omega
  refine Ev.succ1 ?_
  simp only [tree_kids,joinK,e]
  cases nm with
  | true=>
    simp only [if_true] at hn ⊢
    refine Ev.bind (nb_ok hn) ?_
    simp only [Bool.not_true,Bool.false_and,Bool.or_self,Bool.false_eq_true,if_false]
    exact Ev.loop hL
  | false=>
    simp only [Bool.false_eq_true,if_false] at hn ⊢
    simp only [hn,beq_self_eq_true,Bool.not_true,Bool.not_false,Bool.and_false,Bool.or_self,Bool.false_eq_true,if_false]
    exact Ev.loop hL
theorem plain_ok {n:TNode} {nm:Bool} {fs:List Nat} (h0:n.N = 0) (h:Ev (fun k=>tree_kids k n nm fs) true):Ev (fun k=>tree_plain k n nm fs) true:=by
  refine Ev.succ1 ?_
  simp only [tree_plain,joinK,h0,beq_self_eq_true,if_true]
  exact Ev.bind h Ev.pure
theorem fs_nil {n:TNode} {P:Nat→TNode→Nat→Prop}:∀ (i:Nat) x f,n.Kids[i]? = some x→([]:List Nat)[i]? = some f→P i x f:=by
  intro i x f _ h; simp at h
theorem fs_one {a:TNode} {g:Nat} (h:Ev (fun k=>callF k g a) true):∀ (i:Nat) x f,[a][i]? = some x→[g][i]? = some f→Ev (fun k=>callF k f x) true:=by
  intro i x f h1 h2
  match i with
  | 0=>simp at h1 h2; subst h1 h2; exact h
  | i + 1=>simp at h1
theorem fs_two {a b:TNode} {g1 g2:Nat} (h:Ev (fun k=>callF k g1 a) true) (hb:Ev (fun k=>callF k g2 b) true):∀ (i:Nat) x f,[a,b][i]? = some x→[g1,g2][i]? = some f→Ev (fun k=>callF k f x) true:=by
  intro i x f h1 h2
  match i with
  | 0=>simp at h1 h2; subst h1 h2; exact h
  | 1=>simp at h1 h2; subst h1 h2; exact hb
  | i + 2=>simp at h1
theorem fs_three {a b c:TNode} {g1 g2 g3:Nat} (h:Ev (fun k=>callF k g1 a) true) (hb:Ev (fun k=>callF k g2 b) true) (hc:Ev (fun k=>callF k g3 c) true):∀ (i:Nat) x f,[a,b,c][i]? = some x→[g1,g2,g3][i]? = some f→Ev (fun k=>callF k f x) true:=by
  intro i x f h1 h2
  match i with
  | 0=>simp at h1 h2; subst h1 h2; exact h
  | 1=>simp at h1 h2; subst h1 h2; exact hb
  | 2=>simp at h1 h2; subst h1 h2; exact hc
  | i + 3=>simp at h1
theorem type_ok {n:TNode} (h:Bd n):RI ref11_Type tree_Type n:=by
  induction h with
  | mk kd a nn s l hl hk ih=>
    by_cases h0:nn = 0
    · subst h0
      by_cases h4:kd = 4
      · subst h4
        refine ⟨nb s && ((l.length:Int) == 0),?_,fun hb=>?_⟩
        · refine Ev.succ1 ?_
          simp only [ref11_Type]
          refine Ev.ite_f rfl (Ev.ite_t rfl ?_)
          exact Ev.bind (nb_ev s) Ev.pure
        · simp only [Bool.and_eq_true,beq_iff_eq] at hb
          have hl0:l = []:=List.length_eq_zero_iff.1 (by omega)
          subst hl0
          refine Ev.succ1 ?_
          simp only [tree_Type,joinK]
          refine Ev.ite_f rfl (Ev.ite_f rfl (Ev.ite_f rfl (Ev.ite_t rfl ?_)))
          exact Ev.bind (plain_ok rfl (kids_ok hb.1 rfl (by simp) (by simp) fs_nil)) Ev.pure
      · have e4:(kd == 4) = false:=by simpa using h4
        by_cases hs:s = []
        · subst hs
          by_cases h5:kd = 5
          · subst h5
            by_cases h1:l.length = 1
            · obtain ⟨x,rfl⟩:=List.length_eq_one_iff.1 h1
              obtain ⟨b,q1,q2⟩:=ih x (by simp)
              refine ⟨b,?_,fun hb=>?_⟩
              · refine Ev.succ1 ?_
                simp only [ref11_Type,joinK]
                refine Ev.ite_f rfl (Ev.ite_f rfl (Ev.ite_f rfl (Ev.ite_t rfl (Ev.ite_t rfl ?_))))
                refine Ev.bindS (fun _=>rfl) ?_
                exact Ev.bind q1 Ev.pure
              · refine Ev.succ1 ?_
                simp only [tree_Type,joinK]
                refine Ev.ite_f rfl (Ev.ite_f rfl (Ev.ite_f rfl (Ev.ite_f rfl (Ev.ite_t rfl ?_))))
                exact Ev.bind (plain_ok rfl (kids_ok (n:=TNode.mk 5 a 0 [] [x]) rfl rfl (by simp) (by simp) (fs_one (g:=5) (q2 hb)))) Ev.pure
            · refine ⟨false,?_,fun hb=>by cases hb⟩
              refine Ev.succ1 ?_
              simp only [ref11_Type,joinK]
              refine Ev.ite_f rfl (Ev.ite_f rfl (Ev.ite_f rfl (Ev.ite_t rfl (Ev.ite_f (by simp; omega) ?_))))
              exact Ev.pure
          · have e5:(kd == 5) = false:=by simpa using h5
            refine ⟨((decide (kd ≥ 1)) && (decide (kd ≤ 3))) && ((l.length:Int) == 0),?_,fun hb=>?_⟩
            · refine Ev.succ1 ?_
              simp only [ref11_Type,joinK]
              refine Ev.ite_f rfl (Ev.ite_f e4 (Ev.ite_f rfl (Ev.ite_f e5 ?_)))
              exact Ev.pure
            · simp only [Bool.and_eq_true,beq_iff_eq,decide_eq_true_eq] at hb
              have hl0:l = []:=List.length_eq_zero_iff.1 (by omega)
              subst hl0
              have hp:Ev (fun k=>tree_plain k (TNode.mk kd a 0 [] []) false []) true:=plain_ok rfl (kids_ok rfl rfl (by simp) (by simp) fs_nil)
              refine Ev.succ1 ?_
              simp only [tree_Type,joinK]
              have hc:kd = 1 ∨ kd = 2 ∨ kd = 3:=by omega
              rcases hc with rfl | rfl | rfl
              · exact Ev.ite_t rfl (Ev.ite_t rfl (Ev.bind hp Ev.pure))
              · exact Ev.ite_f rfl (Ev.ite_t rfl (Ev.ite_t rfl (Ev.bind hp Ev.pure)))
              · exact Ev.ite_f rfl (Ev.ite_f rfl (Ev.ite_t rfl (Ev.bind hp Ev.pure)))
        · refine ⟨false,?_,fun hb=>by cases hb⟩
          refine Ev.succ1 ?_
          simp only [ref11_Type,joinK]
          refine Ev.ite_f rfl (Ev.ite_f e4 (Ev.ite_t (by simpa using hs) ?_))
          exact Ev.pure
    · refine ⟨false,?_,fun hb=>by cases hb⟩
      refine Ev.succ1 ?_
      simp only [ref11_Type]
      refine Ev.ite_t (by simpa using h0) ?_
      exact Ev.pure
end Go.Proofs.YtjojaiomgdjhfaaGreatDoor.F
namespace Go.Proofs.YtjojaiomgdjhfaaGreatDoor.F
open Go
noncomputable def ch (r:Nat→TNode→Option Bool) (n:TNode):Bool:=by
  classical exact if h:∃ b,Ev (fun k=>r k n) b then h.choose else false
theorem ch_ev {r:Nat→TNode→Option Bool} {n:TNode} (h:∃ b,Ev (fun k=>r k n) b):Ev (fun k=>r k n) (ch r n):=by
  unfold ch
  rw [dif_pos h]
  exact h.choose_spec
theorem RI.ev {r i:Nat→TNode→Option Bool} {n:TNode} (h:RI r i n):Ev (fun k=>r k n) (ch r n):=by
  obtain ⟨b,h1,_⟩:=h
  exact ch_ev ⟨b,h1⟩
theorem RI.imp {r i:Nat→TNode→Option Bool} {n:TNode} (h:RI r i n) (hc:ch r n = true):Ev (fun k=>i k n) true:=by
  have h2:=h.ev
  obtain ⟨b,h1,h3⟩:=h
  exact h3 ((Ev.uniq h1 h2).trans hc)
theorem exprs_ev {l:List TNode} (hl:l.length ≤ 10000000) (h:∀ x ∈ l,RI ref11_Expr tree_Expr x):Ev (fun k=>ref11_exprs k l) (l.all (ch ref11_Expr)):=by
  have:=allf ref11_Expr l (by omega) (ch ref11_Expr) (fun x hx=>(h x hx).ev) false (fun _=>some true) (yes:=true) Ev.pure l.length (Nat.le_refl _) l.length 0 (by omega)
  rw [List.take_length,List.drop_zero] at this
  have e:(if l.all (ch ref11_Expr) = true then true else false) = l.all (ch ref11_Expr):=by cases l.all (ch ref11_Expr) <;> rfl
  rw [e] at this
  refine Ev.succ1 ?_
  simp only [ref11_exprs,joinK]
  exact Ev.loop this
theorem every4 {l:List TNode} (hl:l.length ≤ 10000000) (h:∀ x ∈ l,Ev (fun k=>tree_Expr k x) true):Ev (fun k=>tree_every_v4 k l) true:=by
  obtain ⟨r,r1,r2⟩:=idxf tree_every_1_v4 l (by omega) (fun _=>false) (fun x hx=>by
    refine Ev.succ1 ?_
    simp only [tree_every_1_v4]
    exact Ev.bind (h x hx) Ev.pure) l.length 0 (by omega)
  have hr:decide (r ≥ 0) = false:=by rw [r2]; simp
  refine Ev.succ1 ?_
  simp only [tree_every_v4]
  refine Ev.bind (x:=decide (r ≥ 0)) ?_ ?_
  · refine Ev.succ1 ?_
    simp only [slices_ContainsFunc_Node_v7]
    refine Ev.bind (x:=r) ?_ Ev.pure
    refine Ev.succ1 ?_
    simp only [slices_IndexFunc_Node_v8,joinK]
    exact Ev.loop r1
  · rw [hr]; exact Ev.pure
theorem bind_both (k:Nat) (n:Int):∃ b,ref09_Bind k n = some b∧(b > 0→∃ c,word_Bind k n = some c∧c > 0):=by
  by_cases h:1 ≤ n∧n ≤ 13
  · have hc:n = 1 ∨ n = 2 ∨ n = 3 ∨ n = 4 ∨ n = 5 ∨ n = 6 ∨ n = 7 ∨ n = 8 ∨ n = 9 ∨ n = 10 ∨ n = 11 ∨ n = 12 ∨ n = 13:=by omega
    rcases hc with rfl | rfl | rfl | rfl | rfl | rfl | rfl | rfl | rfl | rfl | rfl | rfl | rfl <;> exact ⟨_,rfl,fun _=>⟨_,rfl,by decide⟩⟩
  · have e1:((decide (n ≥ 1)) && (decide (n ≤ 2))) = false:=by simp; omega
    have e2:((decide (n ≥ 3)) && (decide (n ≤ 5))) = false:=by simp; omega
    have e3:((decide (n ≥ 6)) && (decide (n ≤ 11))) = false:=by simp; omega
    have e4:(n == 12) = false:=by simp; omega
    have e5:(n == 13) = false:=by simp; omega
    refine ⟨0,?_,fun h=>absurd h (by decide)⟩
    unfold ref09_Bind
    simp only [e1,e2,e3,e4,e5,Bool.false_eq_true,if_false]
theorem RI.no {r i:Nat→TNode→Option Bool} {n:TNode} (h:Ev (fun k=>r k n) false):RI r i n:=⟨false,h,fun h=>by cases h⟩
theorem expr_ok {n:TNode} (h:Bd n):RI ref11_Expr tree_Expr n:=by
  induction h with
  | mk kd a nn s l hl hk ih=>
    by_cases h19:kd = 19
    · subst h19
      by_cases ha:nn = 0∧s = []∧l ≠ []
      · obtain ⟨rfl,rfl,hl0⟩:=ha
        obtain ⟨x,l',rfl⟩:∃ x l',l = x :: l':=by
          cases l with
          | nil=>exact absurd rfl hl0
          | cons x l'=>exact ⟨x,l',rfl⟩
        have hx:=type_ok (hk x (by simp))
        have hll:l'.length ≤ 10000000:=by simp at hl; omega
        have hi:∀ y ∈ l',RI ref11_Expr tree_Expr y:=fun y hy=>ih y (by simp [hy])
        have hs:∀ k:Nat,sub (x :: l') 1 ((x :: l').length:Int) = some l':=fun _=>by
          unfold sub; rw [if_pos (by simp only [List.length_cons]; omega)]; simp
        have hg:((((0:Int) == 0) && (([]:List UInt8) == [])) && (decide ((((x :: l').length:Nat):Int) > 0))) = true:=by simp
        refine ⟨ch ref11_Type x && l'.all (ch ref11_Expr),?_,fun hb=>?_⟩
        · refine Ev.succ1 ?_
          simp only [ref11_Expr,joinK,ref11_alone,Option.bind_some]
          refine Ev.ite_t rfl (Ev.ite_t hg ?_)
          refine Ev.bindS (fun _=>rfl) ?_
          refine Ev.bind hx.ev ?_
          cases ch ref11_Type x with
          | false=>exact Ev.pure
          | true=>
            refine Ev.ite_t rfl ?_
            refine Ev.bindS hs ?_
            exact Ev.bind (exprs_ev hll hi) (Ev.of fun _=>by simp)
        · simp only [Bool.and_eq_true] at hb
          refine Ev.succ1 ?_
          simp only [tree_Expr,joinK]
          refine Ev.ite_f rfl (Ev.ite_f rfl (Ev.ite_f rfl (Ev.ite_f rfl (Ev.ite_f rfl (Ev.ite_f rfl (Ev.ite_f rfl (Ev.ite_f rfl (Ev.ite_f rfl (Ev.ite_t rfl (Ev.ite_t hg ?_))))))))))
          refine Ev.bindS (fun _=>rfl) ?_
          refine Ev.bind (hx.imp hb.1) ?_
          refine Ev.ite_t rfl ?_
          refine Ev.bindS hs ?_
          refine Ev.bind (every4 hll fun y hy=>(hi y hy).imp (List.all_eq_true.1 hb.2 y hy)) Ev.pure
      · refine RI.no ?_
        have hg:(((nn == 0) && (s == [])) && (decide ((l.length:Int) > 0))) = false:=by
          cases e:(((nn == 0) && (s == [])) && (decide ((l.length:Int) > 0))) with
          | false=>rfl
          | true=>
            exfalso; apply ha
            simp only [Bool.and_eq_true,beq_iff_eq,decide_eq_true_eq] at e
            exact ⟨e.1.1,e.1.2,fun h=>by rw [h] at e; simp at e⟩
        refine Ev.succ1 ?_
        simp only [ref11_Expr,joinK,ref11_alone,Option.bind_some]
        refine Ev.ite_t rfl (Ev.ite_f hg ?_)
        exact Ev.pure
    have e19:(kd == 19) = false:=by simpa using h19
    have hxs:=exprs_ev hl ih
    cases hA:l.all (ch ref11_Expr) with
    | false=>
      rw [hA] at hxs
      refine RI.no ?_
      refine Ev.succ1 ?_
      simp only [ref11_Expr,joinK]
      refine Ev.ite_f e19 ?_
      exact Ev.bind hxs Ev.pure
    | true=>
    rw [hA] at hxs
    have himp:∀ x ∈ l,Ev (fun k=>tree_Expr k x) true:=fun x hx=>(ih x hx).imp (List.all_eq_true.1 hA x hx)
    have ref:∀ (b:Bool) (g:Nat→Option Bool),Ev g b→(∀ k,ref11_Expr (k + 1) (TNode.mk kd a nn s l) = (ref11_exprs k l).bind fun x=>if (!x) = true then some false else g k)→Ev (fun k=>ref11_Expr k (TNode.mk kd a nn s l)) b:=by
      intro b g hg he
      refine Ev.succ (fun k=>he k) ?_
      exact Ev.bind hxs hg
    by_cases h10:kd = 10
    · subst h10
      refine ⟨((((l.length:Int) == 0) && (s == [])) && (decide (nn ≥ 0))) && (((10:Int) == 10) || (decide (nn ≤ 1))),ref _ _ Ev.pure (fun k=>rfl),fun hb=>?_⟩
      simp only [Bool.and_eq_true,beq_iff_eq,decide_eq_true_eq] at hb
      obtain ⟨⟨⟨q1,q2⟩,q3⟩,_⟩:=hb
      have hl0:l = []:=List.length_eq_zero_iff.1 (by omega)
      subst hl0 q2
      refine Ev.succ1 ?_
      simp only [tree_Expr,joinK]
      exact Ev.ite_t rfl (Ev.ite_t (decide_eq_true q3) (Ev.bind (kids_ok (nm:=false) rfl rfl (by simp) (by simp) fs_nil) Ev.pure))
    by_cases h11:kd = 11
    · subst h11
      refine ⟨((((l.length:Int) == 0) && (s == [])) && (decide (nn ≥ 0))) && (((11:Int) == 10) || (decide (nn ≤ 1))),ref _ _ Ev.pure (fun k=>rfl),fun hb=>?_⟩
      simp only [Bool.and_eq_true,beq_iff_eq,decide_eq_true_eq,Bool.or_eq_true] at hb
      obtain ⟨⟨⟨q1,q2⟩,q3⟩,q4⟩:=hb
      have q4:nn ≤ 1:=by
        rcases q4 with h | h
        · exact absurd h (by decide)
        · exact h
      have hl0:l = []:=List.length_eq_zero_iff.1 (by omega)
      subst hl0 q2
      refine Ev.succ1 ?_
      simp only [tree_Expr,joinK]
      exact Ev.ite_f rfl (Ev.ite_t rfl (Ev.ite_t (by simp; omega) (Ev.bind (kids_ok (nm:=false) rfl rfl (by simp) (by simp) fs_nil) Ev.pure)))
    by_cases h15:kd = 15
    · subst h15
      refine ⟨(((l.length:Int) == 1) && (s == [])) && ((nn == 2) || (nn == 14)),ref _ _ Ev.pure (fun k=>rfl),fun hb=>?_⟩
      simp only [Bool.and_eq_true,beq_iff_eq] at hb
      obtain ⟨⟨q1,q2⟩,q3⟩:=hb
      obtain ⟨x,rfl⟩:=List.length_eq_one_iff.1 (show l.length = 1 by omega)
      subst q2
      refine Ev.succ1 ?_
      simp only [tree_Expr,joinK]
      exact Ev.ite_f rfl (Ev.ite_f rfl (Ev.ite_f rfl (Ev.ite_f rfl (Ev.ite_f rfl (Ev.ite_t rfl (Ev.ite_t q3 (Ev.bind (kids_ok (nm:=false) (n:=TNode.mk 15 a nn [] [x]) rfl rfl (by simp) (by simp) (fs_one (g:=0) (himp x (by simp)))) Ev.pure)))))))
    by_cases h16:kd = 16
    · subst h16
      by_cases hc:(((l.length:Int) == 2) && (s == [])) = true
      · have hb2:∃ b,(∀ k,(ref09_Bind k nn).bind (fun x=>some (decide (x > 0))) = some b)∧(b = true→∃ c,(∀ k,word_Bind k nn = some c)∧c > 0):=by
          obtain ⟨b,q1,q3⟩:=bind_both 0 nn
          refine ⟨decide (b > 0),fun k=>?_,fun h=>(q3 (by simpa using h)).imp fun c hc=>⟨fun k=>hc.1,hc.2⟩⟩
          have:ref09_Bind k nn = some b:=q1
          rw [this]; rfl
        obtain ⟨b,q1,q2⟩:=hb2
        refine ⟨b,ref _ _ (Ev.ite_t hc (Ev.of q1)) (fun k=>rfl),fun hb=>?_⟩
        obtain ⟨c,q3,q4⟩:=q2 hb
        simp only [Bool.and_eq_true,beq_iff_eq] at hc
        obtain ⟨x,y,rfl⟩:∃ x y,l = [x,y]:=by
          have:=hc.1
          match l,(show l.length = 2 by omega) with
          | [x,y],_=>exact ⟨x,y,rfl⟩
        obtain ⟨_,rfl⟩:=hc
        refine Ev.succ1 ?_
        simp only [tree_Expr,joinK]
        refine Ev.ite_f rfl (Ev.ite_f rfl (Ev.ite_f rfl (Ev.ite_f rfl (Ev.ite_f rfl (Ev.ite_f rfl (Ev.ite_t rfl ?_))))))
        refine Ev.bindS q3 ?_
        exact Ev.ite_t (decide_eq_true q4) (Ev.bind (kids_ok (nm:=false) (n:=TNode.mk 16 a nn [] [x,y]) rfl rfl (by simp) (by simp) (fs_two (g1:=0) (g2:=0) (himp x (by simp)) (himp y (by simp)))) Ev.pure)
      · exact RI.no (ref _ _ (Ev.ite_f (by simpa using hc) Ev.pure) (fun k=>rfl))
    have e10:((kd == 10) || (kd == 11)) = false:=by simp [h10,h11]
    have e15:((kd == 15) || (kd == 16)) = false:=by simp [h15,h16]
    by_cases h13:kd = 13
    · subst h13
      by_cases h2:l.length = 2
      · refine ⟨(nn == 0) && (s == []),ref _ _ (Ev.ite_t (by simp; omega) Ev.pure) (fun k=>rfl),fun hb=>?_⟩
        simp only [Bool.and_eq_true,beq_iff_eq] at hb
        obtain ⟨rfl,rfl⟩:=hb
        obtain ⟨x,y,rfl⟩:∃ x y,l = [x,y]:=by
          match l,h2 with
          | [x,y],_=>exact ⟨x,y,rfl⟩
        refine Ev.succ1 ?_
        simp only [tree_Expr,joinK]
        exact Ev.ite_f rfl (Ev.ite_f rfl (Ev.ite_f rfl (Ev.ite_t rfl (Ev.bind (plain_ok rfl (kids_ok (nm:=false) (n:=TNode.mk 13 a 0 [] [x,y]) rfl rfl (by simp) (by simp) (fs_two (g1:=0) (g2:=0) (himp x (by simp)) (himp y (by simp))))) Ev.pure))))
      · exact RI.no (ref _ _ (Ev.ite_f (by simp; omega) Ev.pure) (fun k=>rfl))
    have e13:(kd == 13) = false:=by simpa using h13
    have hgen:∀ (b:Bool) (g:Nat→Option Bool),Ev g b→(∀ k,g k = (if (nn != 0) = true then (some false) else (ref11_Named k s).bind fun x=>if (!x) = true then some false else some (((((kd == 12) && ((l.length:Int) == 0)) || ((kd == 14) && ((l.length:Int) == 1))) || (kd == 17)) || (kd == 18))))→Ev (fun k=>ref11_Expr k (TNode.mk kd a nn s l)) b:=by
      intro b g hg he
      refine ref b g hg (fun k=>?_)
      rw [he k]
      simp only [ref11_Expr,joinK,e19,e10,e15,e13,Bool.false_eq_true,if_false,if_true]
    by_cases h0:nn = 0
    · subst h0
      refine ⟨nb s && (((((kd == 12) && ((l.length:Int) == 0)) || ((kd == 14) && ((l.length:Int) == 1))) || (kd == 17)) || (kd == 18)),hgen _ _ (Ev.ite_f rfl (Ev.bind (nb_ev s) ?_)) (fun k=>rfl),fun hb=>?_⟩
      · cases nb s with
        | false=>exact Ev.pure
        | true=>exact Ev.of fun _=>by simp
      · simp only [Bool.and_eq_true,Bool.or_eq_true,beq_iff_eq] at hb
        obtain ⟨hs,hb⟩:=hb
        refine Ev.succ1 ?_
        simp only [tree_Expr,joinK]
        rcases hb with ((⟨rfl,q⟩ | ⟨rfl,q⟩) | rfl) | rfl
        · have hl0:l = []:=List.length_eq_zero_iff.1 (by omega)
          subst hl0
          exact Ev.ite_f rfl (Ev.ite_f rfl (Ev.ite_t rfl (Ev.bind (plain_ok rfl (kids_ok (nm:=true) hs rfl (by simp) (by simp) fs_nil)) Ev.pure)))
        · obtain ⟨x,rfl⟩:=List.length_eq_one_iff.1 (show l.length = 1 by omega)
          exact Ev.ite_f rfl (Ev.ite_f rfl (Ev.ite_f rfl (Ev.ite_f rfl (Ev.ite_t rfl (Ev.bind (plain_ok rfl (kids_ok (nm:=true) (n:=TNode.mk 14 a 0 s [x]) hs rfl (by simp) (by simp) (fs_one (g:=0) (himp x (by simp))))) Ev.pure)))))
        · refine Ev.ite_f rfl (Ev.ite_f rfl (Ev.ite_f rfl (Ev.ite_f rfl (Ev.ite_f rfl (Ev.ite_f rfl (Ev.ite_f rfl (Ev.ite_t rfl (Ev.ite_t rfl (Ev.ite_t rfl ?_)))))))))
          refine Ev.bind (nb_ok hs) (Ev.ite_t rfl ?_)
          exact Ev.bind (every4 hl himp) Ev.pure
        · refine Ev.ite_f rfl (Ev.ite_f rfl (Ev.ite_f rfl (Ev.ite_f rfl (Ev.ite_f rfl (Ev.ite_f rfl (Ev.ite_f rfl (Ev.ite_f rfl (Ev.ite_t rfl (Ev.ite_t rfl ?_)))))))))
          refine Ev.bind (nb_ok hs) (Ev.ite_t rfl ?_)
          exact Ev.bind (every4 hl himp) Ev.pure
    · exact RI.no (hgen _ _ (Ev.ite_t (by simpa using h0) Ev.pure) (fun k=>rfl))
end Go.Proofs.YtjojaiomgdjhfaaGreatDoor.F
namespace Go.Proofs.YtjojaiomgdjhfaaGreatDoor.F
open Go
theorem expr_gen {kd a nn:Int} {s:List UInt8} {l:List TNode} (hl:l.length ≤ 10000000) (hk:∀ x ∈ l,RI ref11_Expr tree_Expr x) (e19:(kd == 19) = false) (e10:((kd == 10) || (kd == 11)) = false) (e15:((kd == 15) || (kd == 16)) = false) (e13:(kd == 13) = false) :
    Ev (fun k=>ref11_Expr k (TNode.mk kd a nn s l)) (l.all (ch ref11_Expr) && ((nn == 0) && (nb s && (((((kd == 12) && ((l.length:Int) == 0)) || ((kd == 14) && ((l.length:Int) == 1))) || (kd == 17)) || (kd == 18))))):=by
  refine Ev.succ1 ?_
  simp only [ref11_Expr,joinK,e19,e10,e15,e13,Bool.false_eq_true,if_false,if_true]
  refine Ev.bind (exprs_ev hl hk) ?_
  cases l.all (ch ref11_Expr) with
  | false=>exact Ev.pure
  | true=>
    refine Ev.ite_f rfl ?_
    by_cases h0:nn = 0
    · subst h0
      refine Ev.ite_f rfl (Ev.bind (nb_ev s) ?_)
      cases nb s with
      | false=>exact Ev.pure
      | true=>exact Ev.of fun _=>by simp
    · refine Ev.ite_t (by simpa using h0) ?_
      rw [show (nn == 0) = false from by simpa using h0]
      exact Ev.pure
theorem expr_13 {a nn:Int} {s:List UInt8} {l:List TNode} (hl:l.length ≤ 10000000) (hk:∀ x ∈ l,RI ref11_Expr tree_Expr x) :
    Ev (fun k=>ref11_Expr k (TNode.mk 13 a nn s l)) (l.all (ch ref11_Expr) && (((l.length:Int) == 2) && ((nn == 0) && (s == [])))):=by
  refine Ev.succ1 ?_
  simp only [ref11_Expr,joinK,ref11_alone,Option.bind_some]
  refine Ev.ite_f rfl ?_
  refine Ev.bind (exprs_ev hl hk) ?_
  cases l.all (ch ref11_Expr) with
  | false=>exact Ev.pure
  | true=>
    refine Ev.ite_f rfl (Ev.ite_f rfl (Ev.ite_f rfl (Ev.ite_t rfl ?_)))
    cases h:((l.length:Int) == 2) with
    | false=>exact Ev.pure
    | true=>exact Ev.of fun _=>by simp
theorem kids_ri {n:TNode} (h:Bd n):∀ x ∈ n.Kids,RI ref11_Expr tree_Expr x:=fun x hx=>expr_ok (h.kid x hx)
theorem inv12 {a nn:Int} {s:List UInt8} {l:List TNode} (h:Bd (TNode.mk 12 a nn s l)) (hc:ch ref11_Expr (TNode.mk 12 a nn s l) = true):nn = 0∧nb s = true∧l = []:=by
  have h1:=(expr_ok h).ev
  have h2:=expr_gen (a:=a) (nn:=nn) (s:=s) h.len (kids_ri h) (kd:=12) rfl rfl rfl rfl
  have e:=Ev.uniq h2 h1
  rw [hc] at e
  simp only [Bool.and_eq_true,Bool.or_eq_true,beq_iff_eq] at e
  obtain ⟨_,e1,e2,e3⟩:=e
  refine ⟨e1,e2,List.length_eq_zero_iff.1 ?_⟩
  rcases e3 with ((⟨_,h⟩ | ⟨h,_⟩) | h) | h
  · show l.length = 0; have h:(l.length:Int) = 0:=h; omega
  · exact absurd h (by decide)
  · exact absurd h (by decide)
  · exact absurd h (by decide)
theorem inv14 {a nn:Int} {s:List UInt8} {l:List TNode} (h:Bd (TNode.mk 14 a nn s l)) (hc:ch ref11_Expr (TNode.mk 14 a nn s l) = true):nn = 0∧nb s = true∧∃ x,l = [x]:=by
  have h1:=(expr_ok h).ev
  have h2:=expr_gen (a:=a) (nn:=nn) (s:=s) h.len (kids_ri h) (kd:=14) rfl rfl rfl rfl
  have e:=Ev.uniq h2 h1
  rw [hc] at e
  simp only [Bool.and_eq_true,Bool.or_eq_true,beq_iff_eq] at e
  obtain ⟨_,e1,e2,e3⟩:=e
  refine ⟨e1,e2,List.length_eq_one_iff.1 ?_⟩
  rcases e3 with ((⟨h,_⟩ | ⟨_,h⟩) | h) | h
  · exact absurd h (by decide)
  · show l.length = 1; have h:(l.length:Int) = 1:=h; omega
  · exact absurd h (by decide)
  · exact absurd h (by decide)
theorem inv13 {a nn:Int} {s:List UInt8} {l:List TNode} (h:Bd (TNode.mk 13 a nn s l)) (hc:ch ref11_Expr (TNode.mk 13 a nn s l) = true):nn = 0∧s = []∧∃ x y,l = [x,y]∧ch ref11_Expr x = true∧ch ref11_Expr y = true:=by
  have h1:=(expr_ok h).ev
  have h2:=expr_13 (a:=a) (nn:=nn) (s:=s) h.len (kids_ri h)
  have e:=Ev.uniq h2 h1
  rw [hc] at e
  simp only [Bool.and_eq_true,beq_iff_eq] at e
  obtain ⟨e0,e1,e2,e3⟩:=e
  have hl:l.length = 2:=by have e1:(l.length:Int) = 2:=e1; omega
  match l,hl with
  | [x,y],_=>
    have h3:=List.all_eq_true.1 e0
    exact ⟨e2,e3,x,y,rfl,h3 x (by simp),h3 y (by simp)⟩
theorem place_ok {n:TNode} (h:Bd n):RI ref11_place tree_place n:=by
  induction h with
  | mk kd a nn s l hl hk ih=>
    have hB:Bd (TNode.mk kd a nn s l):=Bd.mk kd a nn s l hl hk
    have hE:=expr_ok hB
    have hev:=hE.ev
    cases hc:ch ref11_Expr (TNode.mk kd a nn s l) with
    | false=>
      rw [hc] at hev
      refine RI.no (Ev.succ1 ?_)
      simp only [ref11_place,joinK]
      exact Ev.bind hev Ev.pure
    | true=>
      rw [hc] at hev
      by_cases h12:kd = 12
      · subst h12
        obtain ⟨rfl,hs,rfl⟩:=inv12 hB hc
        refine ⟨true,?_,fun _=>?_⟩
        · refine Ev.succ1 ?_
          simp only [ref11_place,joinK]
          exact Ev.bind hev Ev.pure
        · refine Ev.succ1 ?_
          simp only [tree_place]
          exact Ev.ite_t rfl (Ev.bind (plain_ok rfl (kids_ok (nm:=true) hs rfl (by simp) (by simp) fs_nil)) Ev.pure)
      by_cases h13:kd = 13
      · subst h13
        obtain ⟨rfl,rfl,x,y,rfl,hx,hy⟩:=inv13 hB hc
        obtain ⟨b,q1,q2⟩:=ih x (by simp)
        refine ⟨b,?_,fun hb=>?_⟩
        · refine Ev.succ1 ?_
          simp only [ref11_place,joinK]
          refine Ev.bind hev (Ev.ite_f rfl (Ev.ite_f rfl (Ev.ite_t rfl ?_)))
          exact Ev.bindS (fun _=>rfl) (Ev.bind q1 Ev.pure)
        · refine Ev.succ1 ?_
          simp only [tree_place]
          exact Ev.ite_f rfl (Ev.ite_t rfl (Ev.bind (plain_ok rfl (kids_ok (nm:=false) (n:=TNode.mk 13 a 0 [] [x,y]) rfl rfl (by simp) (by simp) (fs_two (g1:=1) (g2:=0) (q2 hb) ((expr_ok (hk y (by simp))).imp hy)))) Ev.pure))
      by_cases h14:kd = 14
      · subst h14
        obtain ⟨rfl,hs,x,rfl⟩:=inv14 hB hc
        obtain ⟨b,q1,q2⟩:=ih x (by simp)
        refine ⟨b,?_,fun hb=>?_⟩
        · refine Ev.succ1 ?_
          simp only [ref11_place,joinK]
          refine Ev.bind hev (Ev.ite_f rfl (Ev.ite_f rfl (Ev.ite_t rfl ?_)))
          exact Ev.bindS (fun _=>rfl) (Ev.bind q1 Ev.pure)
        · refine Ev.succ1 ?_
          simp only [tree_place]
          exact Ev.ite_f rfl (Ev.ite_f rfl (Ev.ite_t rfl (Ev.bind (plain_ok rfl (kids_ok (nm:=true) (n:=TNode.mk 14 a 0 s [x]) hs rfl (by simp) (by simp) (fs_one (g:=1) (q2 hb)))) Ev.pure)))
      · refine RI.no (Ev.succ1 ?_)
        simp only [ref11_place,joinK]
        refine Ev.bind hev (Ev.ite_f rfl (Ev.ite_f (by simpa using h12) (Ev.ite_f (by simp [h13,h14]) ?_)))
        exact Ev.pure
end Go.Proofs.YtjojaiomgdjhfaaGreatDoor.F
namespace Go.Proofs.YtjojaiomgdjhfaaGreatDoor.F
open Go
section
variable {α β γ σ ρ:Type}
theorem Ev.ite_iff {p:Prop} [Decidable p] {A B:Nat→Option α} {x:α}:Ev (fun k=>if p then A k else B k) x ↔ if p then Ev A x else Ev B x:=by
  by_cases h:p
  · simp only [h,if_true]
  · simp only [h,if_false]
theorem Ev.some_iff {x y:α}:Ev (fun _=>some y) x ↔ y = x:=by
  constructor
  · intro ⟨k,h⟩
    exact Option.some.inj (h k (Nat.le_refl k))
  · rintro rfl; exact Ev.pure
theorem Ev.none_iff {x:α}:Ev (fun _=>(none:Option α)) x ↔ False:=by
  constructor
  · intro ⟨k,h⟩
    have:=h k (Nat.le_refl k)
    cases this
  · intro h; cases h
theorem Ev.bnd {g:Nat→Option α} {F:Nat→α→Option β} {x:α} {y:β} (h:Ev g x):Ev (fun k=>(g k).bind (F k)) y ↔ Ev (fun k=>F k x) y:=by
  obtain ⟨k1,h1⟩:=h
  constructor
  · rintro ⟨k2,h2⟩
    refine ⟨max k1 k2,fun k hk=>?_⟩
    have a:=h2 k (by omega)
    simp only [h1 k (by omega),Option.bind_some] at a
    exact a
  · rintro ⟨k2,h2⟩
    refine ⟨max k1 k2,fun k hk=>?_⟩
    simp only [h1 k (by omega),Option.bind_some]
    exact h2 k (by omega)
theorem Ev.is {g:Nat→Option α} {x y:α} (h:Ev g x):Ev g y ↔ x = y:=⟨fun h2=>Ev.uniq h h2,fun e=>e ▸ h⟩
theorem Ev.mp {g:Nat→Option α} {f:α→β} {x:α} {y:β} (h:Ev g x):Ev (fun k=>(g k).map f) y ↔ f x = y:=by
  obtain ⟨k1,h1⟩:=h
  constructor
  · rintro ⟨k2,h2⟩
    have a:=h2 (max k1 k2) (by omega)
    simp only [h1 (max k1 k2) (by omega),Option.map_some] at a
    exact Option.some.inj a
  · rintro rfl
    exact ⟨k1,fun k hk=>by show (g k).map f = _; rw [h1 k hk]; rfl⟩
def goL (f:α→σ→σ ⊕ ρ) (fin:σ→ρ):List α→σ→ρ
  | [],s=>fin s
  | x :: r,s=>match f x s with
    | .inl s'=>goL f fin r s'
    | .inr y=>y
theorem goL_ev {τ:Type} {body:Nat→τ→Option (τ ⊕ ρ)} (l:List α) (st:Nat→σ→τ) (f:α→σ→σ ⊕ ρ) (fin:σ→ρ) (Inv:Nat→σ→Prop)
    (hs:∀ i x s,l[i]? = some x→Inv i s→Ev (fun k=>body k (st i s)) (match f x s with | .inl s'=>.inl (st (i + 1) s') | .inr y=>.inr y)∧∀ s',f x s = .inl s'→Inv (i + 1) s')
    (he:∀ s,Inv l.length s→Ev (fun k=>body k (st l.length s)) (.inr (fin s))) :
    ∀ (d i:Nat) (s:σ),i + d = l.length→Inv i s→EvL body (st i s) (goL f fin (l.drop i) s)
  | 0,i,s,hi,h=>by
    obtain rfl:i = l.length:=by omega
    rw [List.drop_length]
    exact EvL.done (he s h)
  | d + 1,i,s,hi,h=>by
    have hl:i < l.length:=by omega
    have hx:l[i]? = some l[i]:=List.getElem?_eq_getElem hl
    obtain ⟨h1,h2⟩:=hs i l[i] s hx h
    rw [List.drop_eq_getElem_cons hl]
    unfold goL
    cases e:f l[i] s with
    | inr y=>
      rw [e] at h1
      exact EvL.done h1
    | inl s'=>
      rw [e] at h1
      exact EvL.step h1 (goL_ev l st f fin Inv hs he d (i + 1) s' (by omega) (h2 s' e))
end
theorem ix_0 {α:Type} (x:α) (l:List α):ix (x :: l) 0 = some x:=rfl
theorem ix_1 {α:Type} (x y:α) (l:List α):ix (x :: y :: l) 1 = some y:=rfl
theorem ix_2 {α:Type} (x y z:α) (l:List α):ix (x :: y :: z :: l) 2 = some z:=rfl
theorem ix_3 {α:Type} (x y z w:α) (l:List α):ix (x :: y :: z :: w :: l) 3 = some w:=rfl
theorem len0 {α:Type}:((([]:List α).length:Nat):Int) = 0:=rfl
theorem len1 {α:Type} (x:α):(([x].length:Nat):Int) = 1:=rfl
theorem len2 {α:Type} (x y:α):(([x,y].length:Nat):Int) = 2:=rfl
theorem len3 {α:Type} (x y z:α):(([x,y,z].length:Nat):Int) = 3:=rfl
theorem len4 {α:Type} (x y z w:α):(([x,y,z,w].length:Nat):Int) = 4:=rfl
theorem forS {α σ τ ρ:Type} {body:Nat→τ→Option (τ ⊕ ρ)} (l:List α) (st:Nat→σ→τ) (spec:List α→Nat→σ→ρ) (Inv:Nat→σ→Prop)
    (hs:∀ (i:Nat) (hi:i < l.length) (s:σ),Inv i s→(∃ y,Ev (fun k=>body k (st i s)) (.inr y)∧spec (l[i] :: l.drop (i + 1)) i s = y) ∨ (∃ s',Ev (fun k=>body k (st i s)) (.inl (st (i + 1) s'))∧Inv (i + 1) s'∧spec (l[i] :: l.drop (i + 1)) i s = spec (l.drop (i + 1)) (i + 1) s'))
    (he:∀ s,Inv l.length s→Ev (fun k=>body k (st l.length s)) (.inr (spec [] l.length s))) (s0:σ) (h0:Inv 0 s0):EvL body (st 0 s0) (spec l 0 s0):=by
  have key:∀ (d i:Nat) (s:σ),i + d = l.length→Inv i s→EvL body (st i s) (spec (l.drop i) i s):=by
    intro d
    induction d with
    | zero=>
      intro i s hi h
      obtain rfl:i = l.length:=by omega
      rw [List.drop_length]
      exact EvL.done (he s h)
    | succ d ih=>
      intro i s hi h
      have hl:i < l.length:=by omega
      rw [List.drop_eq_getElem_cons hl]
      rcases hs i hl s h with ⟨y,h1,h2⟩ | ⟨s',h1,h2,h3⟩
      · rw [h2]; exact EvL.done h1
      · rw [h3]; exact EvL.step h1 (ih (i + 1) s' (by omega) h2)
  have:=key l.length 0 s0 (by omega) h0
  rwa [List.drop_zero] at this
theorem forI {α ρ:Type} {body:Nat→Int→Option (Int ⊕ ρ)} (l:List α) (spec:List α→Nat→ρ)
    (hs:∀ (i:Nat) (hi:i < l.length),(∃ y,Ev (fun k=>body k (i:Int)) (.inr y)∧spec (l[i] :: l.drop (i + 1)) i = y) ∨ (Ev (fun k=>body k (i:Int)) (.inl ((i + 1:Nat):Int))∧spec (l[i] :: l.drop (i + 1)) i = spec (l.drop (i + 1)) (i + 1)))
    (he:Ev (fun k=>body k (l.length:Int)) (.inr (spec [] l.length))):EvL body 0 (spec l 0) :=
  forS (σ:=Unit) l (fun i _=>(i:Int)) (fun r i _=>spec r i) (fun _ _=>True) (fun i hi _ _=>(hs i hi).imp id fun h=>⟨(),h.1,trivial,h.2⟩) (fun _ _=>he) () trivial
theorem EvL.cast {σ ρ:Type} {body:Nat→σ→Option (σ ⊕ ρ)} {s:σ} {r r':ρ} (h:EvL body s r) (e:r = r'):EvL body s r':=e ▸ h
theorem step_or {τ ρ:Type} {g:Nat→Option (τ ⊕ ρ)} (o:Bool) (y:ρ) {n:τ} {A B:ρ} (h:Ev g (if o = true then .inr y else .inl n)) (h1:o = true→A = y) (h2:o = false→A = B):(∃ y,Ev g (.inr y)∧A = y) ∨ (Ev g (.inl n)∧A = B):=by
  cases o with
  | true=>exact .inl ⟨y,h,h1 rfl⟩
  | false=>exact .inr ⟨h,h2 rfl⟩
theorem forJ {α ρ:Type} {body:Nat→Int→Option (Int ⊕ ρ)} (l:List α) (spec:List α→Nat→ρ) (Inv:Nat→Prop)
    (hs:∀ (i:Nat) (hi:i < l.length),Inv i→(∃ y,Ev (fun k=>body k (i:Int)) (.inr y)∧spec (l[i] :: l.drop (i + 1)) i = y) ∨ (Ev (fun k=>body k (i:Int)) (.inl ((i + 1:Nat):Int))∧Inv (i + 1)∧spec (l[i] :: l.drop (i + 1)) i = spec (l.drop (i + 1)) (i + 1)))
    (he:Inv l.length→Ev (fun k=>body k (l.length:Int)) (.inr (spec [] l.length))) (h0:Inv 0):EvL body 0 (spec l 0) :=
  forS (σ:=Unit) l (fun i _=>(i:Int)) (fun r i _=>spec r i) (fun i _=>Inv i) (fun i hi _ h=>(hs i hi h).imp id fun h=>⟨(),h.1,h.2.1,h.2.2⟩) (fun _ h=>he h) () h0
theorem qR:(∀ {α:Type} {p:Prop} [Decidable p] {A B:Nat→Option α} {x:α},Ev (fun k=>if p then A k else B k) x ↔ if p then Ev A x else Ev B x)∧(∀ {α:Type} {x y:α},Ev (fun _=>some y) x ↔ y = x)∧(∀ {α:Type} {x:α},Ev (fun _=>(none:Option α)) x ↔ False) ∧
    (∀ {α:Type} (x:α) (l:List α),ix (x :: l) 0 = some x)∧(∀ {α:Type} (x y:α) (l:List α),ix (x :: y :: l) 1 = some y)∧(∀ {α:Type} (x y z:α) (l:List α),ix (x :: y :: z :: l) 2 = some z)∧(∀ {α:Type} (x y z w:α) (l:List α),ix (x :: y :: z :: w :: l) 3 = some w) ∧
    (∀ {α:Type},((([]:List α).length:Nat):Int) = 0)∧(∀ {α:Type} (x:α),(([x].length:Nat):Int) = 1)∧(∀ {α:Type} (x y:α),(([x,y].length:Nat):Int) = 2)∧(∀ {α:Type} (x y z:α),(([x,y,z].length:Nat):Int) = 3)∧(∀ {α:Type} (x y z w:α),(([x,y,z,w].length:Nat):Int) = 4) ∧
    (∀ {i:Decidable True},@decide True i = true)∧(∀ {i:Decidable False},@decide False i = false)∧(∀ {α β:Type} (a:α) (f:α→Option β),(some a).bind f = f a)∧(∀ {α β:Type} (a:α) (f:α→β),(some a).map f = some (f a)) ∧
    (∀ {α ρ:Type} (J:α→Option ρ) (B:(α→Option ρ)→Option ρ),F.joinK J B = B J)∧(∀ {α:Type} {h:Decidable True} (t e:α),@ite α True h t e = t)∧(∀ {α:Type} {h:Decidable False} (t e:α),@ite α False h t e = e)∧(∀ {α:Type} (a:α),(a = a) = True) ∧
    ((!true) = false)∧((!false) = true)∧((false = true) = False)∧(∀ b:Bool,(b || true) = true)∧(∀ b:Bool,(true || b) = true)∧(∀ b:Bool,(false || b) = b)∧(∀ b:Bool,(b || false) = b) ∧
    (∀ b:Bool,(b && true) = b)∧(∀ b:Bool,(b && false) = false)∧(∀ b:Bool,(true && b) = b)∧(∀ b:Bool,(false && b) = false)∧(∀ a:Int,(a == a) = true)∧(∀ a:Int,(a != a) = false) ∧
    (∀ a:List UInt8,(a == a) = true)∧(∀ a:Bool,(a == a) = true):=by
  refine ⟨Ev.ite_iff,Ev.some_iff,Ev.none_iff,ix_0,ix_1,ix_2,ix_3,len0,len1,len2,len3,len4,decide_true _,decide_false _,fun _ _=>rfl,fun _ _=>rfl,fun _ _=>rfl,fun _ _=>if_true _ _,fun _ _=>if_false _ _,fun _=>eq_self _,?_⟩
  exact qb
end Go.Proofs.YtjojaiomgdjhfaaGreatDoor.F
namespace Go.Proofs.YtjojaiomgdjhfaaGreatDoor.F
open Go
theorem lenge {α:Type} {x y z w:α} {l:List α} (n:Int) (h:n < 4):(((x :: y :: z :: w :: l).length:Int) == n) = false:=by
  simp; omega
theorem kind_ev {n:TNode} {c:Int} (h:RI ref11_Stmt tree_Stmt n):Ev (fun k=>ref11_kind k n c) ((n.Kind == c) && ch ref11_Stmt n):=by
  refine Ev.succ1 ?_
  simp only [qR,↓reduceIte,Int.reduceBEq,Int.reduceBNe,Int.reduceLT,Int.reduceLE,Int.reduceGT,Int.reduceGE,ref11_kind]
  cases n.Kind == c with
  | false=>simp only [qR,↓reduceIte,Int.reduceBEq,Int.reduceBNe,Int.reduceLT,Int.reduceLE,Int.reduceGT,Int.reduceGE]
  | true=>simp only [qR,↓reduceIte,Int.reduceBEq,Int.reduceBNe,Int.reduceLT,Int.reduceLE,Int.reduceGT,Int.reduceGE,Ev.bnd h.ev]
theorem block_ev {n:TNode} (h:RI ref11_Stmt tree_Stmt n) (hc:((n.Kind == 30) && ch ref11_Stmt n) = true):Ev (fun k=>tree_block k n) true:=by
  simp only [Bool.and_eq_true] at hc
  refine Ev.succ1 ?_
  simp only [qR,↓reduceIte,Int.reduceBEq,Int.reduceBNe,Int.reduceLT,Int.reduceLE,Int.reduceGT,Int.reduceGE,tree_block,hc.1,Ev.bnd (h.imp hc.2)]
theorem branch_ev {n:TNode} (h:RI ref11_Stmt tree_Stmt n) (hc:(((n.Kind == 30) && ch ref11_Stmt n) || ((n.Kind == 33) && ch ref11_Stmt n)) = true):Ev (fun k=>tree_branch k n) true:=by
  simp only [Bool.and_eq_true,Bool.or_eq_true] at hc
  have h1:((n.Kind == 30) || (n.Kind == 33)) = true:=by
    rcases hc with h | h
    · rw [h.1]; rfl
    · rw [h.1]; cases n.Kind == 30 <;> rfl
  have h2:ch ref11_Stmt n = true:=by rcases hc with h | h <;> exact h.2
  refine Ev.succ1 ?_
  simp only [qR,↓reduceIte,Int.reduceBEq,Int.reduceBNe,Int.reduceLT,Int.reduceLE,Int.reduceGT,Int.reduceGE,tree_branch,h1,Ev.bnd (h.imp h2)]
theorem every2 {l:List TNode} (hl:l.length ≤ 10000000) (h:∀ x ∈ l,Ev (fun k=>tree_Stmt k x) true):Ev (fun k=>tree_every_v2 k l) true:=by
  obtain ⟨r,r1,r2⟩:=idxf tree_every_1_v2 l (by omega) (fun _=>false) (fun x hx=>by
    refine Ev.succ1 ?_
    simp only [qR,↓reduceIte,Int.reduceBEq,Int.reduceBNe,Int.reduceLT,Int.reduceLE,Int.reduceGT,Int.reduceGE,tree_every_1_v2,Ev.bnd (h x hx)]) l.length 0 (by omega)
  have hr:decide (r ≥ 0) = false:=by rw [r2]; simp
  have h1:Ev (fun k=>slices_IndexFunc_Node_v5 k l) r:=by
    refine Ev.succ1 ?_
    simp only [slices_IndexFunc_Node_v5,joinK]
    exact Ev.loop r1
  have h2:Ev (fun k=>slices_ContainsFunc_Node_v5 k l) false:=by
    refine Ev.succ1 ?_
    simp only [qR,↓reduceIte,Int.reduceBEq,Int.reduceBNe,Int.reduceLT,Int.reduceLE,Int.reduceGT,Int.reduceGE,slices_ContainsFunc_Node_v5,Ev.bnd h1,hr]
  refine Ev.succ1 ?_
  simp only [qR,↓reduceIte,Int.reduceBEq,Int.reduceBNe,Int.reduceLT,Int.reduceLE,Int.reduceGT,Int.reduceGE,tree_every_v2,Ev.bnd h2]
theorem stmts_ev {l:List TNode} (hl:l.length ≤ 10000000) (h:∀ x ∈ l,RI ref11_Stmt tree_Stmt x):EvL (fun k (l1_4:Int)=>
    if (decide (l1_4 < (l.length:Int))) then
    (ix l l1_4).bind fun x12_3=>
    (ref11_Stmt k x12_3).bind fun x12_5=>
    if (!x12_5) then
    some (.inr false)
    else
    some (.inl (IntKind.i64.wrap (l1_4 + 1)))
    else
    ((some true:Option Bool)).map .inr) 0 (l.all (ch ref11_Stmt)):=by
  have:=allf ref11_Stmt l (by omega) (ch ref11_Stmt) (fun x hx=>(h x hx).ev) false (fun _=>some true) (yes:=true) Ev.pure l.length (Nat.le_refl _) l.length 0 (by omega)
  rw [List.take_length,List.drop_zero] at this
  have e:(if l.all (ch ref11_Stmt) = true then true else false) = l.all (ch ref11_Stmt):=by cases l.all (ch ref11_Stmt) <;> rfl
  rw [e] at this
  exact this
theorem RI.yes {r i:Nat→TNode→Option Bool} {n:TNode} (h:Ev (fun k=>r k n) true) (h2:Ev (fun k=>i k n) true):RI r i n:=⟨true,h,fun _=>h2⟩
theorem stmt_ok {n:TNode} (h:Bd n):RI ref11_Stmt tree_Stmt n:=by
  induction h with
  | mk kd a nn s l hl hk ih=>
    have hx:∀ x ∈ l,RI ref11_Expr tree_Expr x:=fun x hx=>expr_ok (hk x hx)
    have hp:∀ x ∈ l,RI ref11_place tree_place x:=fun x hx=>place_ok (hk x hx)
    by_cases h31:kd = 31
    · subst h31
      by_cases h0:nn = 0
      · subst h0
        cases hb:nb s with
        | false=>
          have hv:Ev (fun k=>ref11_Named k s) false:=hb ▸ nb_ev s
          refine RI.no (Ev.succ1 ?_)
          simp only [qR,↓reduceIte,Int.reduceBEq,Int.reduceBNe,Int.reduceLT,Int.reduceLE,Int.reduceGT,Int.reduceGE,ref11_Stmt,Ev.bnd hv]
        | true=>
          have hv:Ev (fun k=>ref11_Named k s) true:=hb ▸ nb_ev s
          rcases l with _ | ⟨x,_ | ⟨y,l⟩⟩
          · refine RI.no (Ev.succ1 ?_)
            simp only [qR,↓reduceIte,Int.reduceBEq,Int.reduceBNe,Int.reduceLT,Int.reduceLE,Int.reduceGT,Int.reduceGE,ref11_Stmt,Ev.bnd hv]
          · have q:=hx x (by simp)
            cases hc:ch ref11_Expr x with
            | false=>
              refine RI.no (Ev.succ1 ?_)
              simp only [qR,↓reduceIte,Int.reduceBEq,Int.reduceBNe,Int.reduceLT,Int.reduceLE,Int.reduceGT,Int.reduceGE,ref11_Stmt,Ev.bnd hv,Ev.bnd q.ev,hc]
            | true=>
              refine RI.yes (Ev.succ1 ?_) (Ev.succ1 ?_)
              · simp only [qR,↓reduceIte,Int.reduceBEq,Int.reduceBNe,Int.reduceLT,Int.reduceLE,Int.reduceGT,Int.reduceGE,ref11_Stmt,Ev.bnd hv,Ev.bnd q.ev,hc]
              · simp only [qR,↓reduceIte,Int.reduceBEq,Int.reduceBNe,Int.reduceLT,Int.reduceLE,Int.reduceGT,Int.reduceGE,tree_Stmt,Ev.bnd (plain_ok (n:=TNode.mk 31 a 0 s [x]) rfl (kids_ok (nm:=true) hb rfl (by simp) (by simp) (fs_one (g:=0) (q.imp hc))))]
          · refine RI.no (Ev.succ1 ?_)
            have e:(((x :: y :: l).length:Int) == 1) = false:=by simp; omega
            simp only [qR,↓reduceIte,Int.reduceBEq,Int.reduceBNe,Int.reduceLT,Int.reduceLE,Int.reduceGT,Int.reduceGE,ref11_Stmt,Ev.bnd hv,e]
      · refine RI.no (Ev.succ1 ?_)
        have e:(nn != 0) = true:=by simpa using h0
        simp only [qR,↓reduceIte,Int.reduceBEq,Int.reduceBNe,Int.reduceLT,Int.reduceLE,Int.reduceGT,Int.reduceGE,ref11_Stmt,e]
    by_cases h36:kd = 36
    · subst h36
      by_cases h0:nn = 0
      · subst h0
        cases hb:nb s with
        | false=>
          have hv:Ev (fun k=>ref11_Named k s) false:=hb ▸ nb_ev s
          refine RI.no (Ev.succ1 ?_)
          simp only [qR,↓reduceIte,Int.reduceBEq,Int.reduceBNe,Int.reduceLT,Int.reduceLE,Int.reduceGT,Int.reduceGE,ref11_Stmt,Ev.bnd hv]
        | true=>
          have hv:Ev (fun k=>ref11_Named k s) true:=hb ▸ nb_ev s
          rcases l with _ | ⟨x,l⟩
          · refine RI.yes (Ev.succ1 ?_) (Ev.succ1 ?_)
            · simp only [qR,↓reduceIte,Int.reduceBEq,Int.reduceBNe,Int.reduceLT,Int.reduceLE,Int.reduceGT,Int.reduceGE,ref11_Stmt,Ev.bnd hv]
            · simp only [qR,↓reduceIte,Int.reduceBEq,Int.reduceBNe,Int.reduceLT,Int.reduceLE,Int.reduceGT,Int.reduceGE,tree_Stmt,Ev.bnd (plain_ok (n:=TNode.mk 36 a 0 s []) rfl (kids_ok (nm:=true) hb rfl (by simp) (by simp) fs_nil))]
          · refine RI.no (Ev.succ1 ?_)
            have e:(((x :: l).length:Int) == 0) = false:=by simp; omega
            simp only [qR,↓reduceIte,Int.reduceBEq,Int.reduceBNe,Int.reduceLT,Int.reduceLE,Int.reduceGT,Int.reduceGE,ref11_Stmt,Ev.bnd hv,e]
      · refine RI.no (Ev.succ1 ?_)
        have e:(nn != 0) = true:=by simpa using h0
        simp only [qR,↓reduceIte,Int.reduceBEq,Int.reduceBNe,Int.reduceLT,Int.reduceLE,Int.reduceGT,Int.reduceGE,ref11_Stmt,e]
    have e0:((kd == 31) || (kd == 36)) = false:=by simp [h31,h36]
    by_cases ha:nn = 0∧s = []
    rotate_left
    · refine RI.no (Ev.succ1 ?_)
      have e:((nn == 0) && (s == [])) = false:=by
        cases e:((nn == 0) && (s == [])) with
        | false=>rfl
        | true=>simp only [Bool.and_eq_true,beq_iff_eq] at e; exact absurd e ha
      simp only [qR,↓reduceIte,Int.reduceBEq,Int.reduceBNe,Int.reduceLT,Int.reduceLE,Int.reduceGT,Int.reduceGE,ref11_Stmt,ref11_alone,e0,e]
    obtain ⟨rfl,rfl⟩:=ha
    have e1:(([]:List UInt8) == []) = true:=rfl
    by_cases h30:kd = 30
    · subst h30
      have hL:=stmts_ev hl ih
      cases hA:l.all (ch ref11_Stmt) with
      | false=>
        rw [hA] at hL
        refine RI.no (Ev.succ1 ?_)
        simp only [qR,↓reduceIte,Int.reduceBEq,Int.reduceBNe,Int.reduceLT,Int.reduceLE,Int.reduceGT,Int.reduceGE,ref11_Stmt,ref11_alone,e1]
        exact Ev.loop hL
      | true=>
        rw [hA] at hL
        refine RI.yes (Ev.succ1 ?_) (Ev.succ1 ?_)
        · simp only [qR,↓reduceIte,Int.reduceBEq,Int.reduceBNe,Int.reduceLT,Int.reduceLE,Int.reduceGT,Int.reduceGE,ref11_Stmt,ref11_alone,e1]
          exact Ev.loop hL
        · simp only [qR,↓reduceIte,Int.reduceBEq,Int.reduceBNe,Int.reduceLT,Int.reduceLE,Int.reduceGT,Int.reduceGE,tree_Stmt,e1,Ev.bnd (every2 hl (fun x hx=>(ih x hx).imp (List.all_eq_true.1 hA x hx)))]
    have e30:(kd == 30) = false:=by simpa using h30
    by_cases h35:kd = 35
    · subst h35
      rcases l with _ | ⟨x,_ | ⟨y,l⟩⟩
      · refine RI.yes (Ev.succ1 ?_) (Ev.succ1 ?_)
        · simp only [qR,↓reduceIte,Int.reduceBEq,Int.reduceBNe,Int.reduceLT,Int.reduceLE,Int.reduceGT,Int.reduceGE,ref11_Stmt,ref11_alone,e1]
        · simp only [qR,↓reduceIte,Int.reduceBEq,Int.reduceBNe,Int.reduceLT,Int.reduceLE,Int.reduceGT,Int.reduceGE,tree_Stmt,Ev.bnd (plain_ok (n:=TNode.mk 35 a 0 [] []) rfl (kids_ok (nm:=false) rfl rfl (by simp) (by simp) fs_nil))]
      · have q:=hx x (by simp)
        cases hc:ch ref11_Expr x with
        | false=>
          refine RI.no (Ev.succ1 ?_)
          simp only [qR,↓reduceIte,Int.reduceBEq,Int.reduceBNe,Int.reduceLT,Int.reduceLE,Int.reduceGT,Int.reduceGE,ref11_Stmt,ref11_alone,e1,Ev.bnd q.ev,hc]
        | true=>
          refine RI.yes (Ev.succ1 ?_) (Ev.succ1 ?_)
          · simp only [qR,↓reduceIte,Int.reduceBEq,Int.reduceBNe,Int.reduceLT,Int.reduceLE,Int.reduceGT,Int.reduceGE,ref11_Stmt,ref11_alone,e1,Ev.bnd q.ev,hc]
          · have hN:Ev (fun k=>tree_plain k (TNode.mk 35 a 0 [] [x]) false []) false:=by
              refine Ev.succ1 (Ev.bind (x:=false) (Ev.succ1 ?_) Ev.pure)
              simp only [qR,↓reduceIte,Int.reduceBEq,Int.reduceBNe,Int.reduceLT,Int.reduceLE,Int.reduceGT,Int.reduceGE,tree_kids,e1]
            simp only [qR,↓reduceIte,Int.reduceBEq,Int.reduceBNe,Int.reduceLT,Int.reduceLE,Int.reduceGT,Int.reduceGE,tree_Stmt,Ev.bnd hN,Ev.bnd (plain_ok (n:=TNode.mk 35 a 0 [] [x]) rfl (kids_ok (nm:=false) rfl rfl (by simp) (by simp) (fs_one (g:=0) (q.imp hc))))]
      · refine RI.no (Ev.succ1 ?_)
        have e:(((x :: y :: l).length:Int) == 1) = false:=by simp; omega
        have e2:(((x :: y :: l).length:Int) == 0) = false:=by simp; omega
        simp only [qR,↓reduceIte,Int.reduceBEq,Int.reduceBNe,Int.reduceLT,Int.reduceLE,Int.reduceGT,Int.reduceGE,ref11_Stmt,ref11_alone,e1,e,e2]
    have e35:(kd == 35) = false:=by simpa using h35
    by_cases h37:kd = 37
    · subst h37
      rcases l with _ | ⟨x,_ | ⟨y,l⟩⟩
      · refine RI.no (Ev.succ1 ?_)
        simp only [qR,↓reduceIte,Int.reduceBEq,Int.reduceBNe,Int.reduceLT,Int.reduceLE,Int.reduceGT,Int.reduceGE,ref11_Stmt,ref11_alone,e1]
      · have q:=hx x (by simp)
        cases hc:ch ref11_Expr x with
        | false=>
          refine RI.no (Ev.succ1 ?_)
          simp only [qR,↓reduceIte,Int.reduceBEq,Int.reduceBNe,Int.reduceLT,Int.reduceLE,Int.reduceGT,Int.reduceGE,ref11_Stmt,ref11_alone,e1,Ev.bnd q.ev,hc]
        | true=>
          refine RI.yes (Ev.succ1 ?_) (Ev.succ1 ?_)
          · simp only [qR,↓reduceIte,Int.reduceBEq,Int.reduceBNe,Int.reduceLT,Int.reduceLE,Int.reduceGT,Int.reduceGE,ref11_Stmt,ref11_alone,e1,Ev.bnd q.ev,hc]
          · simp only [qR,↓reduceIte,Int.reduceBEq,Int.reduceBNe,Int.reduceLT,Int.reduceLE,Int.reduceGT,Int.reduceGE,tree_Stmt,Ev.bnd (plain_ok (n:=TNode.mk 37 a 0 [] [x]) rfl (kids_ok (nm:=false) rfl rfl (by simp) (by simp) (fs_one (g:=0) (q.imp hc))))]
      · refine RI.no (Ev.succ1 ?_)
        have e:(((x :: y :: l).length:Int) == 1) = false:=by simp; omega
        simp only [qR,↓reduceIte,Int.reduceBEq,Int.reduceBNe,Int.reduceLT,Int.reduceLE,Int.reduceGT,Int.reduceGE,ref11_Stmt,ref11_alone,e1,e]
    have e37:(kd == 37) = false:=by simpa using h37
    by_cases h38:kd = 38
    · subst h38
      rcases l with _ | ⟨x,_ | ⟨y,l⟩⟩
      · refine RI.no (Ev.succ1 ?_)
        simp only [qR,↓reduceIte,Int.reduceBEq,Int.reduceBNe,Int.reduceLT,Int.reduceLE,Int.reduceGT,Int.reduceGE,ref11_Stmt,ref11_alone,e1]
      · have q:=hx x (by simp)
        cases hk7:x.Kind == 17 with
        | false=>
          refine RI.no (Ev.succ1 ?_)
          simp only [qR,↓reduceIte,Int.reduceBEq,Int.reduceBNe,Int.reduceLT,Int.reduceLE,Int.reduceGT,Int.reduceGE,ref11_Stmt,ref11_alone,e1,hk7]
        | true=>
        cases hc:ch ref11_Expr x with
        | false=>
          refine RI.no (Ev.succ1 ?_)
          simp only [qR,↓reduceIte,Int.reduceBEq,Int.reduceBNe,Int.reduceLT,Int.reduceLE,Int.reduceGT,Int.reduceGE,ref11_Stmt,ref11_alone,e1,hk7,Ev.bnd q.ev,hc]
        | true=>
          refine RI.yes (Ev.succ1 ?_) (Ev.succ1 ?_)
          · simp only [qR,↓reduceIte,Int.reduceBEq,Int.reduceBNe,Int.reduceLT,Int.reduceLE,Int.reduceGT,Int.reduceGE,ref11_Stmt,ref11_alone,e1,hk7,Ev.bnd q.ev,hc]
          · have hcall:Ev (fun k=>tree_call k x) true:=by
              refine Ev.succ1 ?_
              simp only [qR,↓reduceIte,Int.reduceBEq,Int.reduceBNe,Int.reduceLT,Int.reduceLE,Int.reduceGT,Int.reduceGE,tree_call,hk7,Ev.bnd (q.imp hc)]
            simp only [qR,↓reduceIte,Int.reduceBEq,Int.reduceBNe,Int.reduceLT,Int.reduceLE,Int.reduceGT,Int.reduceGE,tree_Stmt,Ev.bnd (plain_ok (n:=TNode.mk 38 a 0 [] [x]) rfl (kids_ok (nm:=false) rfl rfl (by simp) (by simp) (fs_one (g:=4) hcall)))]
      · refine RI.no (Ev.succ1 ?_)
        have e:(((x :: y :: l).length:Int) == 1) = false:=by simp; omega
        simp only [qR,↓reduceIte,Int.reduceBEq,Int.reduceBNe,Int.reduceLT,Int.reduceLE,Int.reduceGT,Int.reduceGE,ref11_Stmt,ref11_alone,e1,e]
    have e38:(kd == 38) = false:=by simpa using h38
    by_cases h32:kd = 32
    · subst h32
      rcases l with _ | ⟨x,_ | ⟨y,_ | ⟨z,l⟩⟩⟩
      · refine RI.no (Ev.succ1 ?_)
        simp only [qR,↓reduceIte,Int.reduceBEq,Int.reduceBNe,Int.reduceLT,Int.reduceLE,Int.reduceGT,Int.reduceGE,ref11_Stmt,ref11_alone,e1]
      · refine RI.no (Ev.succ1 ?_)
        simp only [qR,↓reduceIte,Int.reduceBEq,Int.reduceBNe,Int.reduceLT,Int.reduceLE,Int.reduceGT,Int.reduceGE,ref11_Stmt,ref11_alone,e1]
      · have q:=hp x (by simp)
        have q2:=hx y (by simp)
        cases hc:ch ref11_place x with
        | false=>
          refine RI.no (Ev.succ1 ?_)
          simp only [qR,↓reduceIte,Int.reduceBEq,Int.reduceBNe,Int.reduceLT,Int.reduceLE,Int.reduceGT,Int.reduceGE,ref11_Stmt,ref11_alone,e1,Ev.bnd q.ev,hc]
        | true=>
        cases hc2:ch ref11_Expr y with
        | false=>
          refine RI.no (Ev.succ1 ?_)
          simp only [qR,↓reduceIte,Int.reduceBEq,Int.reduceBNe,Int.reduceLT,Int.reduceLE,Int.reduceGT,Int.reduceGE,ref11_Stmt,ref11_alone,e1,Ev.bnd q.ev,hc,Ev.bnd q2.ev,hc2]
        | true=>
          refine RI.yes (Ev.succ1 ?_) (Ev.succ1 ?_)
          · simp only [qR,↓reduceIte,Int.reduceBEq,Int.reduceBNe,Int.reduceLT,Int.reduceLE,Int.reduceGT,Int.reduceGE,ref11_Stmt,ref11_alone,e1,Ev.bnd q.ev,hc,Ev.bnd q2.ev,hc2]
          · simp only [qR,↓reduceIte,Int.reduceBEq,Int.reduceBNe,Int.reduceLT,Int.reduceLE,Int.reduceGT,Int.reduceGE,tree_Stmt,Ev.bnd (plain_ok (n:=TNode.mk 32 a 0 [] [x,y]) rfl (kids_ok (nm:=false) rfl rfl (by simp) (by simp) (fs_two (g1:=1) (g2:=0) (q.imp hc) (q2.imp hc2))))]
      · refine RI.no (Ev.succ1 ?_)
        have e:(((x :: y :: z :: l).length:Int) == 2) = false:=by simp; omega
        simp only [qR,↓reduceIte,Int.reduceBEq,Int.reduceBNe,Int.reduceLT,Int.reduceLE,Int.reduceGT,Int.reduceGE,ref11_Stmt,ref11_alone,e1,e]
    have e32:(kd == 32) = false:=by simpa using h32
    by_cases h33:kd = 33 ∨ kd = 34
    rotate_left
    · have e3:((kd != 33) && (kd != 34)) = true:=by
        have h1:kd ≠ 33:=fun h=>h33 (.inl h)
        have h2:kd ≠ 34:=fun h=>h33 (.inr h)
        simp [h1,h2]
      refine RI.no (Ev.succ1 ?_)
      simp only [qR,↓reduceIte,Int.reduceBEq,Int.reduceBNe,Int.reduceLT,Int.reduceLE,Int.reduceGT,Int.reduceGE,ref11_Stmt,ref11_alone,e0,e1,e30,e35,e37,e38,e32,e3]
    have e3:((kd != 33) && (kd != 34)) = false:=by rcases h33 with rfl | rfl <;> rfl
    rcases l with _ | ⟨x,_ | ⟨y,l⟩⟩
    · refine RI.no (Ev.succ1 ?_)
      simp only [qR,↓reduceIte,Int.reduceBEq,Int.reduceBNe,Int.reduceLT,Int.reduceLE,Int.reduceGT,Int.reduceGE,ref11_Stmt,ref11_alone,e0,e1,e30,e35,e37,e38,e32,e3]
    · refine RI.no (Ev.succ1 ?_)
      simp only [qR,↓reduceIte,Int.reduceBEq,Int.reduceBNe,Int.reduceLT,Int.reduceLE,Int.reduceGT,Int.reduceGE,ref11_Stmt,ref11_alone,e0,e1,e30,e35,e37,e38,e32,e3]
    have q:=hx x (by simp)
    have q2:=ih y (by simp)
    have q2k:=kind_ev (c:=30) q2
    have el:decide (((x :: y :: l).length:Int) < 2) = false:=by simp; omega
    cases hc:ch ref11_Expr x with
    | false=>
      refine RI.no (Ev.succ1 ?_)
      simp only [qR,↓reduceIte,Int.reduceBEq,Int.reduceBNe,Int.reduceLT,Int.reduceLE,Int.reduceGT,Int.reduceGE,ref11_Stmt,ref11_alone,e0,e1,e30,e35,e37,e38,e32,e3,el,Ev.bnd q.ev,hc]
    | true=>
    cases hc2:((y.Kind == 30) && ch ref11_Stmt y) with
    | false=>
      refine RI.no (Ev.succ1 ?_)
      simp only [qR,↓reduceIte,Int.reduceBEq,Int.reduceBNe,Int.reduceLT,Int.reduceLE,Int.reduceGT,Int.reduceGE,ref11_Stmt,ref11_alone,e0,e1,e30,e35,e37,e38,e32,e3,el,Ev.bnd q.ev,hc,Ev.bnd q2k,hc2]
    | true=>
    rcases l with _ | ⟨z,l⟩
    · refine RI.yes (Ev.succ1 ?_) (Ev.succ1 ?_)
      · simp only [qR,↓reduceIte,Int.reduceBEq,Int.reduceBNe,Int.reduceLT,Int.reduceLE,Int.reduceGT,Int.reduceGE,ref11_Stmt,ref11_alone,e0,e1,e30,e35,e37,e38,e32,e3,el,Ev.bnd q.ev,hc,Ev.bnd q2k,hc2]
      · have hp2:=plain_ok (n:=TNode.mk kd a 0 [] [x,y]) rfl (kids_ok (nm:=false) rfl rfl (by simp) (by simp) (fs_two (g1:=0) (g2:=2) (q.imp hc) (block_ev q2 hc2)))
        rcases h33 with rfl | rfl
        · simp only [qR,↓reduceIte,Int.reduceBEq,Int.reduceBNe,Int.reduceLT,Int.reduceLE,Int.reduceGT,Int.reduceGE,tree_Stmt,Ev.bnd hp2]
        · simp only [qR,↓reduceIte,Int.reduceBEq,Int.reduceBNe,Int.reduceLT,Int.reduceLE,Int.reduceGT,Int.reduceGE,tree_Stmt,Ev.bnd hp2]
    have el2:(((x :: y :: z :: l).length:Int) == 2) = false:=by simp; omega
    rcases h33 with rfl | rfl
    rotate_left
    · refine RI.no (Ev.succ1 ?_)
      simp only [qR,↓reduceIte,Int.reduceBEq,Int.reduceBNe,Int.reduceLT,Int.reduceLE,Int.reduceGT,Int.reduceGE,ref11_Stmt,ref11_alone,e1,el,el2,Ev.bnd q.ev,hc,Ev.bnd q2k,hc2]
    rcases l with _ | ⟨w,l⟩
    rotate_left
    · refine RI.no (Ev.succ1 ?_)
      simp only [qR,↓reduceIte,Int.reduceBEq,Int.reduceBNe,Int.reduceLT,Int.reduceLE,Int.reduceGT,Int.reduceGE,ref11_Stmt,ref11_alone,e1,el,el2,Ev.bnd q.ev,hc,Ev.bnd q2k,hc2,lenge 3 (by decide)]
    have q3:=ih z (by simp)
    have q3k:=kind_ev (c:=30) q3
    have q3j:=kind_ev (c:=33) q3
    cases hc3:(((z.Kind == 30) && ch ref11_Stmt z) || ((z.Kind == 33) && ch ref11_Stmt z)) with
    | false=>
      simp only [Bool.or_eq_false_iff] at hc3
      refine RI.no (Ev.succ1 ?_)
      simp only [qR,↓reduceIte,Int.reduceBEq,Int.reduceBNe,Int.reduceLT,Int.reduceLE,Int.reduceGT,Int.reduceGE,ref11_Stmt,ref11_alone,e1,el,el2,Ev.bnd q.ev,hc,Ev.bnd q2k,hc2,Ev.bnd q3k,Ev.bnd q3j,hc3.1,hc3.2]
    | true=>
      refine RI.yes (Ev.succ1 ?_) (Ev.succ1 ?_)
      · cases h1:((z.Kind == 30) && ch ref11_Stmt z) with
        | true=>simp only [qR,↓reduceIte,Int.reduceBEq,Int.reduceBNe,Int.reduceLT,Int.reduceLE,Int.reduceGT,Int.reduceGE,ref11_Stmt,ref11_alone,e1,el,el2,Ev.bnd q.ev,hc,Ev.bnd q2k,hc2,Ev.bnd q3k,Ev.bnd q3j,h1]
        | false=>
          rw [h1] at hc3
          simp only [Bool.false_or] at hc3
          simp only [qR,↓reduceIte,Int.reduceBEq,Int.reduceBNe,Int.reduceLT,Int.reduceLE,Int.reduceGT,Int.reduceGE,ref11_Stmt,ref11_alone,e1,el,el2,Ev.bnd q.ev,hc,Ev.bnd q2k,hc2,Ev.bnd q3k,Ev.bnd q3j,h1,hc3]
      · have hN:Ev (fun k=>tree_plain k (TNode.mk 33 a 0 [] [x,y,z]) false [0,2]) false:=by
          refine Ev.succ1 (Ev.bind (x:=false) (Ev.succ1 ?_) Ev.pure)
          simp only [qR,↓reduceIte,Int.reduceBEq,Int.reduceBNe,Int.reduceLT,Int.reduceLE,Int.reduceGT,Int.reduceGE,tree_kids,e1]
        have hp3:=plain_ok (n:=TNode.mk 33 a 0 [] [x,y,z]) rfl (kids_ok (nm:=false) rfl rfl (by simp) (by simp) (fs_three (g1:=0) (g2:=2) (g3:=3) (q.imp hc) (block_ev q2 hc2) (branch_ev q3 hc3)))
        simp only [qR,↓reduceIte,Int.reduceBEq,Int.reduceBNe,Int.reduceLT,Int.reduceLE,Int.reduceGT,Int.reduceGE,tree_Stmt,Ev.bnd hN,Ev.bnd hp3]
end Go.Proofs.YtjojaiomgdjhfaaGreatDoor.F
namespace Go.Proofs.YtjojaiomgdjhfaaGreatDoor.F
open Go
inductive TyS:TNode→Prop
  | base (kd a:Int) (h:kd = 1 ∨ kd = 2 ∨ kd = 3):TyS (TNode.mk kd a 0 [] [])
  | nam (a:Int) (s:List UInt8):TyS (TNode.mk 4 a 0 s [])
  | arr (a:Int) (x:TNode) (h:TyS x):TyS (TNode.mk 5 a 0 [] [x])
theorem no_of {r:Nat→TNode→Option Bool} {n:TNode} {b:Bool} (h:Ev (fun k=>r k n) b) (h2:Ev (fun k=>r k n) true):b = true:=Ev.uniq h h2
theorem type_s {n:TNode} (h:Bd n):Ev (fun k=>ref11_Type k n) true→TyS n:=by
  induction h with
  | mk kd a nn s l hl hk ih=>
    intro ht
    by_cases h0:nn = 0
    rotate_left
    · have e:(nn != 0) = true:=by simpa using h0
      have:Ev (fun k=>ref11_Type k (TNode.mk kd a nn s l)) false:=by
        refine Ev.succ1 ?_
        simp only [qR,↓reduceIte,Int.reduceBEq,Int.reduceBNe,Int.reduceLT,Int.reduceLE,Int.reduceGT,Int.reduceGE,ref11_Type,e]
      exact absurd (no_of this ht) (by decide)
    subst h0
    by_cases h4:kd = 4
    · subst h4
      rcases l with _ | ⟨x,l⟩
      · exact TyS.nam a s
      · have e:(((x :: l).length:Int) == 0) = false:=by simp; omega
        have:Ev (fun k=>ref11_Type k (TNode.mk 4 a 0 s (x :: l))) false:=by
          refine Ev.succ1 ?_
          simp only [qR,↓reduceIte,Int.reduceBEq,Int.reduceBNe,Int.reduceLT,Int.reduceLE,Int.reduceGT,Int.reduceGE,ref11_Type,Ev.bnd (nb_ev s),e]
        exact absurd (no_of this ht) (by decide)
    have e4:(kd == 4) = false:=by simpa using h4
    by_cases hs:s = []
    rotate_left
    · have e:(!(s == [])) = true:=by simpa using hs
      have:Ev (fun k=>ref11_Type k (TNode.mk kd a 0 s l)) false:=by
        refine Ev.succ1 ?_
        simp only [qR,↓reduceIte,Int.reduceBEq,Int.reduceBNe,Int.reduceLT,Int.reduceLE,Int.reduceGT,Int.reduceGE,ref11_Type,e4,e]
      exact absurd (no_of this ht) (by decide)
    subst hs
    have e1:(([]:List UInt8) == []) = true:=rfl
    by_cases h5:kd = 5
    · subst h5
      rcases l with _ | ⟨x,_ | ⟨y,l⟩⟩
      · have:Ev (fun k=>ref11_Type k (TNode.mk 5 a 0 [] [])) false:=by
          refine Ev.succ1 ?_
          simp only [qR,↓reduceIte,Int.reduceBEq,Int.reduceBNe,Int.reduceLT,Int.reduceLE,Int.reduceGT,Int.reduceGE,ref11_Type,e1]
        exact absurd (no_of this ht) (by decide)
      · have q:=type_ok (hk x (by simp))
        have:Ev (fun k=>ref11_Type k (TNode.mk 5 a 0 [] [x])) (ch ref11_Type x):=by
          refine Ev.succ1 ?_
          simp only [qR,↓reduceIte,Int.reduceBEq,Int.reduceBNe,Int.reduceLT,Int.reduceLE,Int.reduceGT,Int.reduceGE,ref11_Type,e1,Ev.bnd q.ev]
        have hx:=no_of this ht
        exact TyS.arr a x (ih x (by simp) (hx ▸ q.ev))
      · have e:(((x :: y :: l).length:Int) == 1) = false:=by simp; omega
        have:Ev (fun k=>ref11_Type k (TNode.mk 5 a 0 [] (x :: y :: l))) false:=by
          refine Ev.succ1 ?_
          simp only [qR,↓reduceIte,Int.reduceBEq,Int.reduceBNe,Int.reduceLT,Int.reduceLE,Int.reduceGT,Int.reduceGE,ref11_Type,e1,e]
        exact absurd (no_of this ht) (by decide)
    have e5:(kd == 5) = false:=by simpa using h5
    have:Ev (fun k=>ref11_Type k (TNode.mk kd a 0 [] l)) ((decide (kd ≥ 1) && decide (kd ≤ 3)) && ((l.length:Int) == 0)):=by
      refine Ev.succ1 ?_
      simp only [qR,↓reduceIte,Int.reduceBEq,Int.reduceBNe,Int.reduceLT,Int.reduceLE,Int.reduceGT,Int.reduceGE,ref11_Type,e1,e4,e5]
    have h:=no_of this ht
    simp only [Bool.and_eq_true,decide_eq_true_eq,beq_iff_eq] at h
    obtain rfl:l = []:=List.length_eq_zero_iff.1 (by omega)
    exact TyS.base kd a (by omega)
def PaS (n:TNode):Prop:=∃ a s t,n = TNode.mk 50 a 0 s [t]∧TyS t
theorem param_ok {n:TNode} (h:Bd n):∃ b,Ev (fun k=>ref11_param k n) b∧(b = true→Ev (fun k=>tree_param k n) true∧PaS n):=by
  obtain ⟨kd,a,nn,s,l⟩:=n
  by_cases hc:((kd == 50) && (nn == 0)) = true
  rotate_left
  · rw [Bool.not_eq_true] at hc
    exact ⟨false,by simp only [qR,↓reduceIte,Int.reduceBEq,Int.reduceBNe,Int.reduceLT,Int.reduceLE,Int.reduceGT,Int.reduceGE,ref11_param,hc],fun h=>by cases h⟩
  have hc2:=hc
  simp only [Bool.and_eq_true,beq_iff_eq] at hc2
  obtain ⟨rfl,rfl⟩:=hc2
  cases hb:nb s with
  | false=>
    have hv:Ev (fun k=>ref11_Named k s) false:=hb ▸ nb_ev s
    exact ⟨false,by simp only [qR,↓reduceIte,Int.reduceBEq,Int.reduceBNe,Int.reduceLT,Int.reduceLE,Int.reduceGT,Int.reduceGE,ref11_param,Ev.bnd hv],fun h=>by cases h⟩
  | true=>
  have hv:Ev (fun k=>ref11_Named k s) true:=hb ▸ nb_ev s
  rcases l with _ | ⟨x,_ | ⟨y,l⟩⟩
  · exact ⟨false,by simp only [qR,↓reduceIte,Int.reduceBEq,Int.reduceBNe,Int.reduceLT,Int.reduceLE,Int.reduceGT,Int.reduceGE,ref11_param,Ev.bnd hv],fun h=>by cases h⟩
  · have q:=type_ok (h.kid x (by simp))
    refine ⟨ch ref11_Type x,by simp only [qR,↓reduceIte,Int.reduceBEq,Int.reduceBNe,Int.reduceLT,Int.reduceLE,Int.reduceGT,Int.reduceGE,ref11_param,Ev.bnd hv,Ev.bnd q.ev],fun hc=>⟨?_,a,s,x,rfl,type_s (h.kid x (by simp)) (hc ▸ q.ev)⟩⟩
    refine Ev.succ1 ?_
    simp only [qR,↓reduceIte,Int.reduceBEq,Int.reduceBNe,Int.reduceLT,Int.reduceLE,Int.reduceGT,Int.reduceGE,tree_param,Ev.bnd (plain_ok (n:=TNode.mk 50 a 0 s [x]) rfl (kids_ok (nm:=true) hb rfl (by simp) (by simp) (fs_one (g:=5) (q.imp hc))))]
  · have e:(((x :: y :: l).length:Int) == 1) = false:=by simp; omega
    exact ⟨false,by simp only [qR,↓reduceIte,Int.reduceBEq,Int.reduceBNe,Int.reduceLT,Int.reduceLE,Int.reduceGT,Int.reduceGE,ref11_param,Ev.bnd hv,e],fun h=>by cases h⟩
theorem param_ri {n:TNode} (h:Bd n):RI ref11_param tree_param n:=(param_ok h).imp fun b h=>⟨h.1,fun e=>(h.2 e).1⟩
theorem param_s {n:TNode} (h:Bd n) (hc:ch ref11_param n = true):PaS n:=by
  obtain ⟨b,h1,h2⟩:=param_ok h
  exact (h2 ((Ev.uniq h1 (param_ri h).ev).trans hc)).2
inductive DeS:TNode→Prop
  | recd (a:Int) (s:List UInt8) (l:List TNode) (h0:l ≠ []) (h:∀ x ∈ l,PaS x):DeS (TNode.mk 51 a 0 s l)
  | iso1 (a n:Int) (s:List UInt8) (t:TNode) (hn:0 ≤ n) (h:TyS t):DeS (TNode.mk 52 a n s [t])
  | iso2 (a n:Int) (s:List UInt8) (t m:TNode) (hn:0 ≤ n) (h:TyS t):DeS (TNode.mk 52 a n s [t,m])
  | fn (a:Int) (s:List UInt8) (l:List TNode) (t b:TNode) (h:∀ x ∈ l,PaS x) (ht:TyS t ∨ ∃ a,t = TNode.mk 0 a 0 [] []) (hb:b.Kind = 30):DeS (TNode.mk 53 a 0 s (l ++ [t,b]))
  | mrg (a:Int) (s:List UInt8) (x y z b:TNode) (hx:PaS x) (hy:PaS y) (hz:PaS z) (hb:b.Kind = 30):DeS (TNode.mk 54 a 0 s [x,y,z,b])
theorem ix_mid {α:Type} (l:List α) (b:α) (r:List α):ix (l ++ b :: r) (l.length:Int) = some b:=by
  unfold ix; rw [if_pos (by omega)]; simp
theorem ix_mid1 {α:Type} (l:List α) (a b:α) (r:List α):ix (l ++ a :: b :: r) ((l.length + 1:Nat):Int) = some b:=by
  unfold ix; rw [if_pos (by omega)]; simp
theorem sub_pre {α:Type} (l r:List α):sub (l ++ r) 0 (l.length:Int) = some l:=by
  unfold sub; rw [if_pos (by simp only [List.length_append]; omega)]; simp
theorem sub_post {α:Type} (l r:List α) {n:Int} (h:n = ((l ++ r).length:Int)):sub (l ++ r) (l.length:Int) n = some r:=by
  subst h
  unfold sub; rw [if_pos (by simp only [List.length_append]; omega)]
  rw [show (((l ++ r).length:Nat):Int).toNat = (l ++ r).length from by omega,List.take_length]; simp
theorem w_len1 {α:Type} {l:List α} {b:α} (h:(l ++ [b]).length ≤ 10000000):IntKind.i64.wrap (((l ++ [b]).length:Int) - 1) = (l.length:Int):=by
  simp only [List.length_append,List.length_cons,List.length_nil] at h ⊢
  rw [w64 (by omega) (by omega)]; omega
theorem w_len2 {α:Type} {l:List α} {a b:α} (h:(l ++ [a,b]).length ≤ 10000000):IntKind.i64.wrap (((l ++ [a,b]).length:Int) - 2) = (l.length:Int):=by
  simp only [List.length_append,List.length_cons,List.length_nil] at h ⊢
  rw [w64 (by omega) (by omega)]; omega
theorem w_len21 {α:Type} {l:List α} {a b:α} (h:(l ++ [a,b]).length ≤ 10000000):IntKind.i64.wrap (((l ++ [a,b]).length:Int) - 1) = ((l.length + 1:Nat):Int):=by
  simp only [List.length_append,List.length_cons,List.length_nil] at h ⊢
  rw [w64 (by omega) (by omega)]; omega
theorem w_back {n:Nat} (h:n ≤ 10000000):IntKind.i64.wrap (((n + 1:Nat):Int) - 1) = (n:Int):=by
  rw [w64 (by omega) (by omega)]; omega
theorem every3 {l:List TNode} (hl:l.length ≤ 10000000) (h:∀ x ∈ l,Ev (fun k=>tree_param k x) true):Ev (fun k=>tree_every_v3 k l) true:=by
  obtain ⟨r,r1,r2⟩:=idxf tree_every_1_v3 l (by omega) (fun _=>false) (fun x hx=>by
    simp only [qR,↓reduceIte,Int.reduceBEq,Int.reduceBNe,Int.reduceLT,Int.reduceLE,Int.reduceGT,Int.reduceGE,tree_every_1_v3,Ev.bnd (h x hx)]) l.length 0 (by omega)
  have hr:decide (r ≥ 0) = false:=by rw [r2]; simp
  have h1:Ev (fun k=>slices_IndexFunc_Node_v7 k l) r:=by
    simp only [slices_IndexFunc_Node_v7,joinK]
    exact Ev.loop r1
  have h2:Ev (fun k=>slices_ContainsFunc_Node_v6 k l) false:=by
    simp only [qR,↓reduceIte,Int.reduceBEq,Int.reduceBNe,Int.reduceLT,Int.reduceLE,Int.reduceGT,Int.reduceGE,slices_ContainsFunc_Node_v6,Ev.bnd h1,hr]
  simp only [qR,↓reduceIte,Int.reduceBEq,Int.reduceBNe,Int.reduceLT,Int.reduceLE,Int.reduceGT,Int.reduceGE,tree_every_v3,Ev.bnd h2]
theorem no3 {P:Prop}:(false = true)→P:=fun h=>by cases h
theorem tnm {s:List UInt8} (hb:nb s = true):Ev (fun k=>tree_named k s) true:=nb_ok hb
theorem merger_ev {m:TNode} (h:Bd m) (hk:(m.Kind == 12) = true) (hc:ch ref11_Expr m = true):Ev (fun k=>tree_merger k m) true:=by
  refine Ev.succ1 ?_
  simp only [qR,↓reduceIte,Int.reduceBEq,Int.reduceBNe,Int.reduceLT,Int.reduceLE,Int.reduceGT,Int.reduceGE,tree_merger,hk,Ev.bnd ((expr_ok h).imp hc)]
theorem all_take {l r:List TNode} {f:TNode→Bool}:((l ++ r).take l.length).all f = l.all f:=by simp
theorem decl_iso {a nn:Int} {s:List UInt8} {l:List TNode} (h:Bd (TNode.mk 52 a nn s l)) (hb:nb s = true) (hv:Ev (fun k=>ref11_Named k s) true) (hl0:l ≠ []) :
    ∃ b,Ev (fun k=>ref11_Decl k (TNode.mk 52 a nn s l)) b∧(b = true→Ev (fun k=>tree_Decl k (TNode.mk 52 a nn s l)) true∧DeS (TNode.mk 52 a nn s l)):=by
  obtain ⟨t,l,rfl⟩:∃ t r,l = t :: r:=by
    cases l with
    | nil=>exact absurd rfl hl0
    | cons t r=>exact ⟨t,r,rfl⟩
  have e0:(((t :: l).length:Int) == 0) = false:=by simp; omega
  by_cases hn:0 ≤ nn
  rotate_left
  · have e:decide (nn < 0) = true:=by simp; omega
    exact ⟨false,by simp only [qR,↓reduceIte,Int.reduceBEq,Int.reduceBNe,Int.reduceLT,Int.reduceLE,Int.reduceGT,Int.reduceGE,ref11_Decl,Ev.bnd hv,e0,e],no3⟩
  have e:decide (nn < 0) = false:=by simp; omega
  have e':decide (nn ≥ 0) = true:=by simp; omega
  have hbt:=h.kid t (by simp)
  have q:=type_ok hbt
  cases hc:ch ref11_Type t with
  | false=>exact ⟨false,by simp only [qR,↓reduceIte,Int.reduceBEq,Int.reduceBNe,Int.reduceLT,Int.reduceLE,Int.reduceGT,Int.reduceGE,ref11_Decl,Ev.bnd hv,e0,e,Ev.bnd q.ev,hc],no3⟩
  | true=>
  have ts:=type_s hbt (hc ▸ q.ev)
  rcases l with _ | ⟨m,_ | ⟨y,l⟩⟩
  · refine ⟨true,by simp only [qR,↓reduceIte,Int.reduceBEq,Int.reduceBNe,Int.reduceLT,Int.reduceLE,Int.reduceGT,Int.reduceGE,ref11_Decl,Ev.bnd hv,e,Ev.bnd q.ev,hc],fun _=>⟨?_,DeS.iso1 a nn s t hn ts⟩⟩
    simp only [qR,↓reduceIte,Int.reduceBEq,Int.reduceBNe,Int.reduceLT,Int.reduceLE,Int.reduceGT,Int.reduceGE,tree_Decl,e',Ev.bnd (kids_ok (n:=TNode.mk 52 a nn s [t]) (nm:=true) hb rfl (by simp) (by simp) (fs_one (g:=5) (q.imp hc)))]
  · cases hk:m.Kind == 12 with
    | false=>exact ⟨false,by simp only [qR,↓reduceIte,Int.reduceBEq,Int.reduceBNe,Int.reduceLT,Int.reduceLE,Int.reduceGT,Int.reduceGE,ref11_Decl,Ev.bnd hv,e,Ev.bnd q.ev,hc,hk],no3⟩
    | true=>
    have hbm:=h.kid m (by simp)
    have q2:=expr_ok hbm
    cases hc2:ch ref11_Expr m with
    | false=>exact ⟨false,by simp only [qR,↓reduceIte,Int.reduceBEq,Int.reduceBNe,Int.reduceLT,Int.reduceLE,Int.reduceGT,Int.reduceGE,ref11_Decl,Ev.bnd hv,e,Ev.bnd q.ev,hc,hk,Ev.bnd q2.ev,hc2],no3⟩
    | true=>
    refine ⟨true,by simp only [qR,↓reduceIte,Int.reduceBEq,Int.reduceBNe,Int.reduceLT,Int.reduceLE,Int.reduceGT,Int.reduceGE,ref11_Decl,Ev.bnd hv,e,Ev.bnd q.ev,hc,hk,Ev.bnd q2.ev,hc2],fun _=>⟨?_,DeS.iso2 a nn s t m hn ts⟩⟩
    have hN:Ev (fun k=>tree_kids k (TNode.mk 52 a nn s [t,m]) true [5]) false:=by
      refine Ev.succ1 ?_
      simp only [qR,↓reduceIte,Int.reduceBEq,Int.reduceBNe,Int.reduceLT,Int.reduceLE,Int.reduceGT,Int.reduceGE,tree_kids,Ev.bnd (tnm hb)]
    simp only [qR,↓reduceIte,Int.reduceBEq,Int.reduceBNe,Int.reduceLT,Int.reduceLE,Int.reduceGT,Int.reduceGE,tree_Decl,e',Ev.bnd hN,Ev.bnd (kids_ok (n:=TNode.mk 52 a nn s [t,m]) (nm:=true) hb rfl (by simp) (by simp) (fs_two (g1:=5) (g2:=6) (q.imp hc) (merger_ev hbm hk hc2)))]
  · have e3:decide (((t :: m :: y :: l).length:Int) > 2) = true:=by simp; omega
    exact ⟨false,by simp only [qR,↓reduceIte,Int.reduceBEq,Int.reduceBNe,Int.reduceLT,Int.reduceLE,Int.reduceGT,Int.reduceGE,ref11_Decl,Ev.bnd hv,e0,e,Ev.bnd q.ev,hc,e3],no3⟩
theorem params_ev {l:List TNode} (hl:l.length ≤ 10000000) (h:∀ x ∈ l,Bd x) (n:Nat) (hn:n ≤ l.length) (J:Nat→Option Bool) {yes:Bool} (hJ:Ev J yes):EvL (fun k (l1_3:Int)=>
    if (decide (l1_3 < (n:Int))) then
    (ix l l1_3).bind fun x4_2=>
    (ref11_param k x4_2).bind fun x4_4=>
    if (!x4_4) then
    some (.inr false)
    else
    some (.inl (IntKind.i64.wrap (l1_3 + 1)))
    else
    (J k).map .inr) 0 ((l.take n).all (ch ref11_param) && yes):=by
  have:=allf ref11_param l (by omega) (ch ref11_param) (fun x hx=>(param_ri (h x hx)).ev) false J hJ n hn n 0 (by omega)
  rw [List.drop_zero] at this
  have e:(if (l.take n).all (ch ref11_param) = true then yes else false) = ((l.take n).all (ch ref11_param) && yes):=by cases (l.take n).all (ch ref11_param) <;> simp
  rw [e] at this
  exact this
theorem all_pas {l:List TNode} (h:∀ x ∈ l,Bd x) (ha:l.all (ch ref11_param) = true):∀ x ∈ l,PaS x:=fun x hx=>param_s (h x hx) (List.all_eq_true.1 ha x hx)
theorem all_par {l:List TNode} (h:∀ x ∈ l,Bd x) (ha:l.all (ch ref11_param) = true):∀ x ∈ l,Ev (fun k=>tree_param k x) true:=fun x hx=>(param_ri (h x hx)).imp (List.all_eq_true.1 ha x hx)
theorem decl_rec {a:Int} {s:List UInt8} {l:List TNode} (h:Bd (TNode.mk 51 a 0 s l)) (hb:nb s = true) (hv:Ev (fun k=>ref11_Named k s) true) (hl0:l ≠ []) :
    ∃ b,Ev (fun k=>ref11_Decl k (TNode.mk 51 a 0 s l)) b∧(b = true→Ev (fun k=>tree_Decl k (TNode.mk 51 a 0 s l)) true∧DeS (TNode.mk 51 a 0 s l)):=by
  have hlen:l.length ≤ 10000000:=h.len
  have hpos:0 < l.length:=List.length_pos_iff.2 hl0
  have e0:((l.length:Int) == 0) = false:=by simp; omega
  have e2:decide ((l.length:Int) < 0) = false:=by simp
  refine ⟨l.all (ch ref11_param),?_,fun hc=>⟨?_,DeS.recd a s l hl0 (all_pas h.kid hc)⟩⟩
  · simp only [qR,↓reduceIte,Int.reduceBEq,Int.reduceBNe,Int.reduceLT,Int.reduceLE,Int.reduceGT,Int.reduceGE,ref11_Decl,Ev.bnd hv,e0,e2]
    have:=params_ev hlen h.kid l.length (Nat.le_refl _) (fun _=>some true) Ev.pure
    rw [List.take_length,Bool.and_true] at this
    exact Ev.loop this
  · have e3:decide ((IntKind.i64.wrap ((l.length:Int) - 1)) ≥ 0) = true:=by rw [w64 (by omega) (by omega)]; simp; omega
    simp only [qR,↓reduceIte,Int.reduceBEq,Int.reduceBNe,Int.reduceLT,Int.reduceLE,Int.reduceGT,Int.reduceGE,tree_Decl,Ev.bnd (tnm hb),e3,Ev.bnd (every3 hlen (all_par h.kid hc))]
theorem decl_fun {a:Int} {s:List UInt8} {l:List TNode} (h:Bd (TNode.mk 53 a 0 s l)) (hb:nb s = true) (hv:Ev (fun k=>ref11_Named k s) true) (hl0:l ≠ []) :
    ∃ b,Ev (fun k=>ref11_Decl k (TNode.mk 53 a 0 s l)) b∧(b = true→Ev (fun k=>tree_Decl k (TNode.mk 53 a 0 s l)) true∧DeS (TNode.mk 53 a 0 s l)):=by
  have hlen:l.length ≤ 10000000:=h.len
  by_cases h1:l.length < 2
  · obtain ⟨x,rfl⟩:∃ x,l = [x]:=by
      rcases l with _ | ⟨x,_ | ⟨y,r⟩⟩
      · exact absurd rfl hl0
      · exact ⟨x,rfl⟩
      · simp at h1; omega
    exact ⟨false,by simp only [qR,↓reduceIte,Int.reduceBEq,Int.reduceBNe,Int.reduceLT,Int.reduceLE,Int.reduceGT,Int.reduceGE,ref11_Decl,Ev.bnd hv,show decide (IntKind.i64.wrap ((1:Int) - 2) < 0) = true from rfl],no3⟩
  obtain ⟨ps,t,b,rfl⟩:∃ ps t b,l = ps ++ [t,b]:=by
    refine ⟨l.take (l.length - 2),l[l.length - 2],l[l.length - 1],?_⟩
    have e : [l[l.length - 2],l[l.length - 1]] = l.drop (l.length - 2):=by
      rw [List.drop_eq_getElem_cons (by omega),List.drop_eq_getElem_cons (i:=l.length - 2 + 1) (by omega),List.drop_of_length_le (by omega)]
      simp only [show l.length - 2 + 1 = l.length - 1 by omega]
    rw [e,List.take_append_drop]
  have hps:∀ x ∈ ps,Bd x:=fun x hx=>h.kid x (by simp [hx])
  have hbt:Bd t:=h.kid t (by simp)
  have hbb:Bd b:=h.kid b (by simp)
  have e0:(((ps ++ [t,b]).length:Int) == 0) = false:=by simp; omega
  have e2:decide ((ps.length:Int) < 0) = false:=by simp
  have hlp:ps.length + 2 ≤ 10000000:=by simpa using hlen
  have qk:=kind_ev (c:=30) (stmt_ok hbb)
  have hx1:ix (ps ++ [t,b]) ((ps.length + 1:Nat):Int) = some b:=ix_mid1 ps t b []
  have hx2:sub (ps ++ [t,b]) (ps.length:Int) ((ps ++ [t,b]).length:Int) = some [t,b]:=sub_post ps [t,b] rfl
  have qt:=type_ok hbt
  have hJ:∃ y,Ev (fun k=>(ref11_kind k b 30).bind fun x24_6=>
    if (!x24_6) = true then
    some false
    else
    (ref11_Type k t).bind fun x29_5=>
    if x29_5 = true then
    some true
    else
    if (t.Kind == 0) = true then
    some (((t.N == 0) && (t.Name == [])) && ((t.Kids.length:Int) == 0))
    else
    some (false && ((t.Kids.length:Int) == 0))) y∧(y = true→((b.Kind == 30) && ch ref11_Stmt b) = true∧(ch ref11_Type t = true ∨ ∃ a,t = TNode.mk 0 a 0 [] [])):=by
    cases hk:((b.Kind == 30) && ch ref11_Stmt b) with
    | false=>exact ⟨false,by simp only [qR,↓reduceIte,Int.reduceBEq,Int.reduceBNe,Int.reduceLT,Int.reduceLE,Int.reduceGT,Int.reduceGE,Ev.bnd qk,hk],no3⟩
    | true=>
    cases ht:ch ref11_Type t with
    | true=>exact ⟨true,by simp only [qR,↓reduceIte,Int.reduceBEq,Int.reduceBNe,Int.reduceLT,Int.reduceLE,Int.reduceGT,Int.reduceGE,Ev.bnd qk,hk,Ev.bnd qt.ev,ht],fun _=>⟨rfl,.inl rfl⟩⟩
    | false=>
    by_cases hk0:t.Kind = 0
    · have e:(t.Kind == 0) = true:=by simpa using hk0
      refine ⟨((t.N == 0) && (t.Name == [])) && ((t.Kids.length:Int) == 0),by simp only [qR,↓reduceIte,Int.reduceBEq,Int.reduceBNe,Int.reduceLT,Int.reduceLE,Int.reduceGT,Int.reduceGE,Ev.bnd qk,hk,Ev.bnd qt.ev,ht,e],fun hh=>⟨rfl,.inr ?_⟩⟩
      obtain ⟨kd,a',nn,s',l'⟩:=t
      simp only [Bool.and_eq_true,beq_iff_eq] at hh hk0
      obtain ⟨⟨q1,q2⟩,q3⟩:=hh
      obtain rfl:l' = []:=List.length_eq_zero_iff.1 (by omega)
      exact ⟨a',by rw [hk0,q1,q2]⟩
    · have e:(t.Kind == 0) = false:=by simpa using hk0
      exact ⟨false,by simp only [qR,↓reduceIte,Int.reduceBEq,Int.reduceBNe,Int.reduceLT,Int.reduceLE,Int.reduceGT,Int.reduceGE,Ev.bnd qk,hk,Ev.bnd qt.ev,ht,e],no3⟩
  obtain ⟨y,hJ1,hJ2⟩:=hJ
  refine ⟨ps.all (ch ref11_param) && y,?_,fun hc=>?_⟩
  · simp only [qR,↓reduceIte,Int.reduceBEq,Int.reduceBNe,Int.reduceLT,Int.reduceLE,Int.reduceGT,Int.reduceGE,ref11_Decl,ref11_alone,Ev.bnd hv,e0,w_len2 hlen,w_len21 hlen,e2,hx1,hx2]
    have:=params_ev hlen h.kid ps.length (by simp) _ hJ1
    rw [all_take] at this
    exact Ev.loop this
  · rw [Bool.and_eq_true] at hc
    obtain ⟨hk,ht⟩:=hJ2 hc.2
    have hbl:=block_ev (stmt_ok hbb) hk
    have han:Ev (fun k=>tree_answer k t) true:=by
      rcases ht with ht | ⟨a',rfl⟩
      · simp only [qR,↓reduceIte,Int.reduceBEq,Int.reduceBNe,Int.reduceLT,Int.reduceLE,Int.reduceGT,Int.reduceGE,tree_answer,Ev.bnd (qt.imp ht)]
      · have:Ev (fun k=>tree_Type k (TNode.mk 0 a' 0 [] [])) false:=by
          refine Ev.succ1 ?_
          simp only [qR,↓reduceIte,Int.reduceBEq,Int.reduceBNe,Int.reduceLT,Int.reduceLE,Int.reduceGT,Int.reduceGE,tree_Type]
        simp only [qR,↓reduceIte,Int.reduceBEq,Int.reduceBNe,Int.reduceLT,Int.reduceLE,Int.reduceGT,Int.reduceGE,tree_answer,Ev.bnd this,Ev.bnd (plain_ok (n:=TNode.mk 0 a' 0 [] []) rfl (kids_ok (nm:=false) rfl rfl (by simp) (by simp) fs_nil))]
    refine ⟨?_,DeS.fn a s ps t b (all_pas hps hc.1) (ht.imp (fun e=>by have:=qt.ev; rw [e] at this; exact type_s hbt this) id) ?_⟩
    · have e3:decide (((ps.length + 1:Nat):Int) ≥ 1) = true:=by simp; omega
      simp only [qR,↓reduceIte,Int.reduceBEq,Int.reduceBNe,Int.reduceLT,Int.reduceLE,Int.reduceGT,Int.reduceGE,tree_Decl,Ev.bnd (tnm hb),w_len21 hlen,e3,w_back (show ps.length ≤ 10000000 by omega),sub_pre ps [t,b],Ev.bnd (every3 (by omega) (all_par hps hc.1)),ix_mid ps t [b],Ev.bnd han,hx1,Ev.bnd hbl]
    · simp only [Bool.and_eq_true,beq_iff_eq] at hk
      exact hk.1
theorem fs_four {a b c d:TNode} {g1 g2 g3 g4:Nat} (h:Ev (fun k=>callF k g1 a) true) (hb:Ev (fun k=>callF k g2 b) true) (hc:Ev (fun k=>callF k g3 c) true) (hd:Ev (fun k=>callF k g4 d) true):∀ (i:Nat) x f,[a,b,c,d][i]? = some x→[g1,g2,g3,g4][i]? = some f→Ev (fun k=>callF k f x) true:=by
  intro i x f h1 h2
  match i with
  | 0=>simp at h1 h2; subst h1 h2; exact h
  | 1=>simp at h1 h2; subst h1 h2; exact hb
  | 2=>simp at h1 h2; subst h1 h2; exact hc
  | 3=>simp at h1 h2; subst h1 h2; exact hd
  | i + 4=>simp at h1
theorem snoc {α:Type} {l:List α} (h:l ≠ []):∃ ps b,l = ps ++ [b]:=⟨l.dropLast,l.getLast h,(List.dropLast_concat_getLast h).symm⟩
theorem decl_mrg {a:Int} {s:List UInt8} {l:List TNode} (h:Bd (TNode.mk 54 a 0 s l)) (hb:nb s = true) (hv:Ev (fun k=>ref11_Named k s) true) (hl0:l ≠ []) :
    ∃ b,Ev (fun k=>ref11_Decl k (TNode.mk 54 a 0 s l)) b∧(b = true→Ev (fun k=>tree_Decl k (TNode.mk 54 a 0 s l)) true∧DeS (TNode.mk 54 a 0 s l)):=by
  have hlen:l.length ≤ 10000000:=h.len
  obtain ⟨ps,b,rfl⟩:=snoc hl0
  have hps:∀ x ∈ ps,Bd x:=fun x hx=>h.kid x (by simp [hx])
  have hbb:Bd b:=h.kid b (by simp)
  have e0:(((ps ++ [b]).length:Int) == 0) = false:=by simp; omega
  have e2:decide ((ps.length:Int) < 0) = false:=by simp
  have hx:ix (ps ++ [b]) (ps.length:Int) = some b:=ix_mid ps b []
  have qk:=kind_ev (c:=30) (stmt_ok hbb)
  have hJ:∃ y,Ev (fun k=>(ref11_kind k b 30).bind fun x24_6=>
    if (!x24_6) = true then
    some false
    else
    some ((ps.length:Int) == 3)) y∧(y = true→((b.Kind == 30) && ch ref11_Stmt b) = true∧ps.length = 3):=by
    cases hk:((b.Kind == 30) && ch ref11_Stmt b) with
    | false=>exact ⟨false,by simp only [qR,↓reduceIte,Int.reduceBEq,Int.reduceBNe,Int.reduceLT,Int.reduceLE,Int.reduceGT,Int.reduceGE,Ev.bnd qk,hk],no3⟩
    | true=>
      refine ⟨(ps.length:Int) == 3,by simp only [qR,↓reduceIte,Int.reduceBEq,Int.reduceBNe,Int.reduceLT,Int.reduceLE,Int.reduceGT,Int.reduceGE,Ev.bnd qk,hk],fun h=>⟨rfl,?_⟩⟩
      rw [beq_iff_eq] at h; omega
  obtain ⟨y,hJ1,hJ2⟩:=hJ
  refine ⟨ps.all (ch ref11_param) && y,?_,fun hc=>?_⟩
  · simp only [qR,↓reduceIte,Int.reduceBEq,Int.reduceBNe,Int.reduceLT,Int.reduceLE,Int.reduceGT,Int.reduceGE,ref11_Decl,ref11_alone,Ev.bnd hv,e0,w_len1 hlen,e2,hx]
    have:=params_ev hlen h.kid ps.length (by simp) _ hJ1
    rw [all_take] at this
    exact Ev.loop this
  · rw [Bool.and_eq_true] at hc
    obtain ⟨hk,h3⟩:=hJ2 hc.2
    have hp:=all_pas hps hc.1
    have hq:=all_par hps hc.1
    match ps,h3 with
    | [x,y,z],_=>
      refine ⟨?_,DeS.mrg a s x y z b (hp x (by simp)) (hp y (by simp)) (hp z (by simp)) ?_⟩
      · simp only [qR,↓reduceIte,Int.reduceBEq,Int.reduceBNe,Int.reduceLT,Int.reduceLE,Int.reduceGT,Int.reduceGE,tree_Decl,Ev.bnd (plain_ok (n:=TNode.mk 54 a 0 s ([x,y,z] ++ [b])) rfl (kids_ok (nm:=true) hb rfl (by simp) (by simp) (fs_four (g1:=7) (g2:=7) (g3:=7) (g4:=2) (hq x (by simp)) (hq y (by simp)) (hq z (by simp)) (block_ev (stmt_ok hbb) hk))))]
      · simp only [Bool.and_eq_true,beq_iff_eq] at hk
        exact hk.1
theorem allfJ {α ρ:Type} (g:Nat→α→Option Bool) (l:List α) (hl:l.length ≤ 1000000000) (f:α→Bool) (hf:∀ x ∈ l,Ev (fun k=>g k x) (f x)) (no:ρ) (J:Nat→Option ρ) {yes:ρ} (n:Nat) (hn:n ≤ l.length):∀ m i:Nat,i + m = n→(((l.take n).drop i).all f = true→Ev J yes)→EvL (fun k (l1_3:Int)=>
    if (decide (l1_3 < (n:Int))) then
    (ix l l1_3).bind fun x4_2=>
    (g k x4_2).bind fun x4_4=>
    if (!x4_4) then
    some (.inr no)
    else
    some (.inl (IntKind.i64.wrap (l1_3 + 1)))
    else
    (J k).map .inr) (i:Int) (if ((l.take n).drop i).all f = true then yes else no)
  | 0,i,h,hJ=>by
    refine EvL.done ?_
    rw [show (decide ((i:Int) < (n:Int))) = false by simp; omega,List.drop_of_length_le (by rw [List.length_take]; omega)]
    simp only [Bool.false_eq_true,if_false,List.all_nil,if_true]
    exact Ev.map (hJ (by rw [List.drop_of_length_le (by rw [List.length_take]; omega)]; rfl))
  | m + 1,i,h,hJ=>by
    have hi:i < l.length:=by omega
    have hi2:i < (l.take n).length:=by rw [List.length_take]; omega
    have e1:(decide ((i:Int) < (n:Int))) = true:=by simp; omega
    have hF:=hf l[i] (List.getElem_mem hi)
    have hg:(l.take n)[i] = l[i]:=by rw [List.getElem_take]
    rw [List.drop_eq_getElem_cons hi2,List.all_cons,hg] at hJ ⊢
    cases he:f l[i] with
    | false=>
      rw [he] at hF
      refine EvL.done ?_
      simp only [e1,if_true,ix_nat hi,Option.bind_some,Bool.false_and,Bool.false_eq_true,if_false]
      refine Ev.bind hF ?_
      exact Ev.pure
    | true=>
      rw [he] at hF
      refine EvL.step (s':=((i + 1:Nat):Int)) ?_ (by simpa using allfJ g l hl f hf no J n hn m (i + 1) (by omega) (fun e=>hJ (by rw [he,Bool.true_and]; exact e)))
      simp only [e1,if_true,ix_nat hi,Option.bind_some]
      refine Ev.bind hF ?_
      simp only [Bool.not_true,Bool.false_eq_true,if_false]
      rw [w64 (by omega) (by omega)]
      exact Ev.pure
theorem decl_no {kd a:Int} {s:List UInt8} {l:List TNode} (h:Bd (TNode.mk kd a 0 s l)) (hv:Ev (fun k=>ref11_Named k s) true) (hl0:l ≠ []) (h51:kd ≠ 51) (h52:kd ≠ 52) (h53:kd ≠ 53) (h54:kd ≠ 54) :
    Ev (fun k=>ref11_Decl k (TNode.mk kd a 0 s l)) false:=by
  have hlen:l.length ≤ 10000000:=h.len
  obtain ⟨ps,b,rfl⟩:=snoc hl0
  have hbb:Bd b:=h.kid b (by simp)
  have e0:(((ps ++ [b]).length:Int) == 0) = false:=by simp; omega
  have e2:decide (((ps ++ [b]).length:Int) < 0) = false:=by simp; omega
  have f1:(kd == 51) = false:=by simpa using h51
  have f2:(kd == 52) = false:=by simpa using h52
  have f3:(kd == 53) = false:=by simpa using h53
  have f4:(kd == 54) = false:=by simpa using h54
  have hx:ix (ps ++ [b]) (ps.length:Int) = some b:=ix_mid ps b []
  have qk:=kind_ev (c:=30) (stmt_ok hbb)
  simp only [qR,↓reduceIte,Int.reduceBEq,Int.reduceBNe,Int.reduceLT,Int.reduceLE,Int.reduceGT,Int.reduceGE,ref11_Decl,Ev.bnd hv,e0,f1,f2,f3,f4,e2,w_len1 hlen,hx]
  have hw:∀ J:Nat→Option Bool,((((ps ++ [b]).take (ps ++ [b]).length).drop 0).all (ch ref11_param) = true→Ev J false)→EvL (fun k (l1_3:Int)=>
    if (decide (l1_3 < ((ps ++ [b]).length:Int))) then
    (ix (ps ++ [b]) l1_3).bind fun x4_2=>
    (ref11_param k x4_2).bind fun x4_4=>
    if (!x4_4) then
    some (.inr false)
    else
    some (.inl (IntKind.i64.wrap (l1_3 + 1)))
    else
    (J k).map .inr) 0 false:=fun J hJ=>by
      have:=allfJ ref11_param (ps ++ [b]) (by omega) (ch ref11_param) (fun x hx=>(param_ri (h.kid x hx)).ev) false J (ps ++ [b]).length (Nat.le_refl _) (ps ++ [b]).length 0 (by omega) hJ
      rw [ite_self] at this
      exact this
  refine Ev.loop (hw _ fun hall=>?_)
  have hb:PaS b:=by
    rw [List.take_length,List.drop_zero] at hall
    exact param_s hbb (List.all_eq_true.1 hall b (by simp))
  obtain ⟨a',s',t',rfl,_⟩:=hb
  have hk:(((TNode.mk 50 a' 0 s' [t']).Kind == 30) && ch ref11_Stmt (TNode.mk 50 a' 0 s' [t'])) = false:=rfl
  simp only [qR,↓reduceIte,Int.reduceBEq,Int.reduceBNe,Int.reduceLT,Int.reduceLE,Int.reduceGT,Int.reduceGE,Ev.bnd qk,hk]
theorem decl_ok {n:TNode} (h:Bd n):∃ b,Ev (fun k=>ref11_Decl k n) b∧(b = true→Ev (fun k=>tree_Decl k n) true∧DeS n):=by
  obtain ⟨kd,a,nn,s,l⟩:=n
  cases hb:nb s with
  | false=>
    have hv:Ev (fun k=>ref11_Named k s) false:=hb ▸ nb_ev s
    exact ⟨false,by simp only [qR,↓reduceIte,Int.reduceBEq,Int.reduceBNe,Int.reduceLT,Int.reduceLE,Int.reduceGT,Int.reduceGE,ref11_Decl,Ev.bnd hv],no3⟩
  | true=>
  have hv:Ev (fun k=>ref11_Named k s) true:=hb ▸ nb_ev s
  by_cases hl0:l = []
  · subst hl0
    exact ⟨false,by simp only [qR,↓reduceIte,Int.reduceBEq,Int.reduceBNe,Int.reduceLT,Int.reduceLE,Int.reduceGT,Int.reduceGE,ref11_Decl,Ev.bnd hv],no3⟩
  have hpos:0 < l.length:=List.length_pos_iff.2 hl0
  have e0:((l.length:Int) == 0) = false:=by simp; omega
  by_cases h52:kd = 52
  · subst h52; exact decl_iso h hb hv hl0
  have f2:(kd == 52) = false:=by simpa using h52
  by_cases h0:nn = 0
  rotate_left
  · have e:(nn != 0) = true:=by simpa using h0
    exact ⟨false,by simp only [qR,↓reduceIte,Int.reduceBEq,Int.reduceBNe,Int.reduceLT,Int.reduceLE,Int.reduceGT,Int.reduceGE,ref11_Decl,Ev.bnd hv,e0,f2,e],no3⟩
  subst h0
  by_cases h51:kd = 51
  · subst h51; exact decl_rec h hb hv hl0
  by_cases h53:kd = 53
  · subst h53; exact decl_fun h hb hv hl0
  by_cases h54:kd = 54
  · subst h54; exact decl_mrg h hb hv hl0
  exact ⟨false,decl_no h hv hl0 h51 h52 h53 h54,no3⟩
theorem decl_ri {n:TNode} (h:Bd n):RI ref11_Decl tree_Decl n:=(decl_ok h).imp fun b h=>⟨h.1,fun e=>(h.2 e).1⟩
theorem decl_s {n:TNode} (h:Bd n) (hc:ch ref11_Decl n = true):DeS n:=by
  obtain ⟨b,h1,h2⟩:=decl_ok h
  exact (h2 ((Ev.uniq h1 (decl_ri h).ev).trans hc)).2
structure PrS (n:TNode) (ds:List TNode) (b:TNode):Prop where
  kind:n.Kind = 55
  kids:n.Kids = ds ++ [b]
  decl:∀ d ∈ ds,DeS d
  blk:b.Kind = 30
theorem everyD {l:List TNode} (hl:l.length ≤ 10000000) (h:∀ x ∈ l,Ev (fun k=>tree_Decl k x) true):Ev (fun k=>tree_every k l) true:=by
  obtain ⟨r,r1,r2⟩:=idxf tree_every_1 l (by omega) (fun _=>false) (fun x hx=>by
    simp only [qR,↓reduceIte,Int.reduceBEq,Int.reduceBNe,Int.reduceLT,Int.reduceLE,Int.reduceGT,Int.reduceGE,tree_every_1,Ev.bnd (h x hx)]) l.length 0 (by omega)
  have hr:decide (r ≥ 0) = false:=by rw [r2]; simp
  have h1:Ev (fun k=>slices_IndexFunc_Node_v2 k l) r:=by
    simp only [slices_IndexFunc_Node_v2,joinK]
    exact Ev.loop r1
  have h2:Ev (fun k=>slices_ContainsFunc_Node_v2 k l) false:=by
    simp only [qR,↓reduceIte,Int.reduceBEq,Int.reduceBNe,Int.reduceLT,Int.reduceLE,Int.reduceGT,Int.reduceGE,slices_ContainsFunc_Node_v2,Ev.bnd h1,hr]
  simp only [qR,↓reduceIte,Int.reduceBEq,Int.reduceBNe,Int.reduceLT,Int.reduceLE,Int.reduceGT,Int.reduceGE,tree_every,Ev.bnd h2]
theorem prog_ok {n:TNode} (h:Bd n):∃ b,Ev (fun k=>ref11_Prog k n) b∧(b = true→Ev (fun k=>tree_Prog k n) true∧∃ ds m,PrS n ds m):=by
  obtain ⟨kd,a,nn,s,l⟩:=n
  have hlen:l.length ≤ 10000000:=h.len
  by_cases hk:kd = 55
  rotate_left
  · have e:(kd != 55) = true:=by simpa using hk
    exact ⟨false,by simp only [qR,↓reduceIte,Int.reduceBEq,Int.reduceBNe,Int.reduceLT,Int.reduceLE,Int.reduceGT,Int.reduceGE,ref11_Prog,e],no3⟩
  subst hk
  cases ha:((nn == 0) && (s == [])) with
  | false=>exact ⟨false,by simp only [qR,↓reduceIte,Int.reduceBEq,Int.reduceBNe,Int.reduceLT,Int.reduceLE,Int.reduceGT,Int.reduceGE,ref11_Prog,ref11_alone,ha],no3⟩
  | true=>
  have ha2:=ha
  simp only [Bool.and_eq_true,beq_iff_eq] at ha2
  obtain ⟨rfl,rfl⟩:=ha2
  by_cases hl0:l = []
  · subst hl0
    exact ⟨false,by simp only [qR,↓reduceIte,Int.reduceBEq,Int.reduceBNe,Int.reduceLT,Int.reduceLE,Int.reduceGT,Int.reduceGE,ref11_Prog,ref11_alone,ha],no3⟩
  obtain ⟨ds,b,rfl⟩:=snoc hl0
  have hbb:Bd b:=h.kid b (by simp)
  have hbd:∀ x ∈ ds,Bd x:=fun x hx=>h.kid x (by simp [hx])
  have hld:ds.length + 1 ≤ 10000000:=by simpa using hlen
  have e0:(((ds ++ [b]).length:Int) == 0) = false:=by simp; omega
  have hx:ix (ds ++ [b]) (ds.length:Int) = some b:=ix_mid ds b []
  have qk:=kind_ev (c:=30) (stmt_ok hbb)
  cases hc:((b.Kind == 30) && ch ref11_Stmt b) with
  | false=>exact ⟨false,by simp only [qR,↓reduceIte,Int.reduceBEq,Int.reduceBNe,Int.reduceLT,Int.reduceLE,Int.reduceGT,Int.reduceGE,ref11_Prog,ref11_alone,ha,e0,w_len1 hlen,hx,Ev.bnd qk,hc],no3⟩
  | true=>
  refine ⟨ds.all (ch ref11_Decl),?_,fun hall=>?_⟩
  · simp only [qR,↓reduceIte,Int.reduceBEq,Int.reduceBNe,Int.reduceLT,Int.reduceLE,Int.reduceGT,Int.reduceGE,ref11_Prog,ref11_alone,ha,e0,w_len1 hlen,hx,Ev.bnd qk,hc]
    refine Ev.loop ?_
    have:=goL_ev (σ:=Unit) (ρ:=Bool) (τ:=Int) ds (fun i _=>(i:Int)) (fun x _=>if ch ref11_Decl x = true then .inl () else .inr false) (fun _=>true) (fun _ _=>True)
      (body:=fun k (l1_4:Int)=>
    if (decide ((IntKind.i64.wrap (l1_4 + 1)) < ((ds ++ [b]).length:Int))) then
    (ix (ds ++ [b]) l1_4).bind fun x7_3=>
    (ref11_Decl k x7_3).bind fun x7_5=>
    if (!x7_5) then
    some (.inr false)
    else
    some (.inl (IntKind.i64.wrap (l1_4 + 1)))
    else
    ((some true:Option Bool)).map .inr) (fun i x _ hi _=>?_) (fun _ _=>?_) ds.length 0 () (by omega) trivial
    · rw [List.drop_zero] at this
      have e:∀ ds:List TNode,goL (σ:=Unit) (ρ:=Bool) (fun x _=>if ch ref11_Decl x = true then .inl () else .inr false) (fun _=>true) ds () = ds.all (ch ref11_Decl):=by
        intro ds
        induction ds with
        | nil=>rfl
        | cons x r ih=>
          unfold goL
          cases hd:ch ref11_Decl x with
          | true=>simp only [if_true,List.all_cons,hd,Bool.true_and]; exact ih
          | false=>simp [hd]
      rw [e] at this
      exact this
    · obtain ⟨hj,rfl⟩:=List.getElem?_eq_some_iff.1 hi
      have hi:=hj
      refine ⟨?_,fun _ _=>trivial⟩
      have hw:IntKind.i64.wrap ((i:Int) + 1) = ((i + 1:Nat):Int):=by rw [w64 (by omega) (by omega)]; omega
      have e1:decide (((i + 1:Nat):Int) < ((ds ++ [b]).length:Int)) = true:=by simp; omega
      have e2:ix (ds ++ [b]) (i:Int) = some ds[i]:=by
        rw [ix_nat (by simp; omega)]
        rw [List.getElem_append_left hi]
      have q:=(decl_ri (hbd ds[i] (List.getElem_mem hi))).ev
      cases hd:ch ref11_Decl ds[i] with
      | true=>
        rw [hd] at q
        simp only [qR,↓reduceIte,Int.reduceBEq,Int.reduceBNe,Int.reduceLT,Int.reduceLE,Int.reduceGT,Int.reduceGE,hw,e1,e2,Ev.bnd q]
      | false=>
        rw [hd] at q
        simp only [qR,↓reduceIte,Int.reduceBEq,Int.reduceBNe,Int.reduceLT,Int.reduceLE,Int.reduceGT,Int.reduceGE,hw,e1,e2,Ev.bnd q]
    · have hw:IntKind.i64.wrap ((ds.length:Int) + 1) = ((ds.length + 1:Nat):Int):=by rw [w64 (by omega) (by omega)]; omega
      have e1:decide (((ds.length + 1:Nat):Int) < ((ds ++ [b]).length:Int)) = false:=by simp
      simp only [qR,↓reduceIte,Int.reduceBEq,Int.reduceBNe,Int.reduceLT,Int.reduceLE,Int.reduceGT,Int.reduceGE,hw,e1]
  · have hall2:=List.all_eq_true.1 hall
    refine ⟨?_,ds,b,rfl,rfl,fun d hd=>decl_s (hbd d hd) (hall2 d hd),?_⟩
    · have e3:decide ((ds.length:Int) ≥ 0) = true:=by simp
      have e4:(([]:List UInt8) == []) = true:=rfl
      simp only [qR,↓reduceIte,Int.reduceBEq,Int.reduceBNe,Int.reduceLT,Int.reduceLE,Int.reduceGT,Int.reduceGE,tree_Prog,e4,w_len1 hlen,e3,sub_pre ds [b],Ev.bnd (everyD (by omega) (fun x hx=>(decl_ri (hbd x hx)).imp (hall2 x hx))),hx,Ev.bnd (block_ev (stmt_ok hbb) hc)]
    · simp only [Bool.and_eq_true,beq_iff_eq] at hc
      exact hc.1
end Go.Proofs.YtjojaiomgdjhfaaGreatDoor.F
namespace Go.Proofs.YtjojaiomgdjhfaaGreatDoor.F
open Go
mutual
def walkS:TNode→List TNode
  | .mk kd a n s l=>TNode.mk kd a n s l :: walkL l
def walkL:List TNode→List TNode
  | []=>[]
  | x :: r=>walkS x ++ walkL r
end
theorem walkS_pos (n:TNode):0 < (walkS n).length:=by
  obtain ⟨kd,a,nn,s,l⟩:=n
  unfold walkS; simp
theorem walkL_len:∀ l:List TNode,l.length ≤ (walkL l).length
  | []=>by simp [walkL]
  | x :: r=>by
    have:=walkL_len r
    have:=walkS_pos x
    simp only [walkL,List.length_cons,List.length_append]; omega
theorem walkL_mem:∀ {l:List TNode} {x:TNode},x ∈ l→(walkS x).length ≤ (walkL l).length
  | y :: r,x,h=>by
    simp only [walkL,List.length_append]
    rcases List.mem_cons.1 h with rfl | h
    · omega
    · have:=walkL_mem h; omega
mutual
theorem bd_of:∀ n:TNode,(walkS n).length ≤ 10000000→Bd n
  | .mk kd a n s l,h=>by
    unfold walkS at h
    simp only [List.length_cons] at h
    exact Bd.mk kd a n s l (by have:=walkL_len l; omega) (bds_of l (by omega))
theorem bds_of:∀ l:List TNode,(walkL l).length ≤ 10000000→∀ x ∈ l,Bd x
  | [],_,x,hx=>by simp at hx
  | y :: r,h,x,hx=>by
    simp only [walkL,List.length_append] at h
    by_cases e:x = y
    · rw [e]; exact bd_of y (by omega)
    · exact bds_of r (by omega) x (by simpa [e] using hx)
end
theorem walk_loop (l:List TNode) (g:Nat→TNode→Option (List TNode)) (hg:∀ x ∈ l,Ev (fun k=>g k x) (walkS x)) (hl:l.length ≤ 10000000):∀ (d i:Nat) (acc:List TNode),i + d = l.length→acc.length + (walkL (l.drop i)).length ≤ 100000000→EvL (fun k ((l1_3,l1_4):List TNode × Int)=>
    if (decide (l1_4 < (l.length:Int))) then
    (ix l l1_4).bind fun x5_4=>
    (g k x5_4).bind fun x5_6=>
    if (room 64 (l1_3.length + x5_6.length)) then
    some (.inl ((l1_3 ++ x5_6),(IntKind.i64.wrap (l1_4 + 1))))
    else none
    else
    ((some l1_3:Option (List TNode))).map .inr) (acc,(i:Int)) (acc ++ walkL (l.drop i))
  | 0,i,acc,h,_=>by
    refine EvL.done ?_
    rw [List.drop_of_length_le (by omega)]
    have e:decide ((i:Int) < (l.length:Int)) = false:=by simp; omega
    simp only [qR,↓reduceIte,Int.reduceBEq,Int.reduceBNe,Int.reduceLT,Int.reduceLE,Int.reduceGT,Int.reduceGE,e,walkL,List.append_nil]
  | d + 1,i,acc,h,hb=>by
    have hi:i < l.length:=by omega
    rw [List.drop_eq_getElem_cons hi] at hb ⊢
    simp only [walkL,List.length_append] at hb ⊢
    have e:decide ((i:Int) < (l.length:Int)) = true:=by simp; omega
    have q:=hg l[i] (List.getElem_mem hi)
    have hr:room 64 (acc.length + (walkS l[i]).length) = true:=room_of (by omega) (by omega)
    have hw:IntKind.i64.wrap ((i:Int) + 1) = ((i + 1:Nat):Int):=by rw [w64 (by omega) (by omega)]; omega
    rw [← List.append_assoc]
    refine EvL.step ?_ (walk_loop l g hg hl d (i + 1) (acc ++ walkS l[i]) (by omega) (by rw [List.length_append]; omega))
    simp only [qR,↓reduceIte,Int.reduceBEq,Int.reduceBNe,Int.reduceLT,Int.reduceLE,Int.reduceGT,Int.reduceGE,e,ix_nat hi,Ev.bnd q,hr,hw]
theorem walk_ev {n:TNode} (h:Bd n):(walkS n).length ≤ 10000000→Ev (fun k=>ref11_Walk k n) (walkS n):=by
  induction h with
  | mk kd a nn s l hl hk ih=>
    intro hb
    unfold walkS at hb ⊢
    simp only [List.length_cons] at hb
    refine Ev.succ1 ?_
    simp only [qR,↓reduceIte,Int.reduceBEq,Int.reduceBNe,Int.reduceLT,Int.reduceLE,Int.reduceGT,Int.reduceGE,ref11_Walk]
    exact Ev.loop (walk_loop l ref11_Walk (fun x hx=>ih x hx (by have:=walkL_mem hx; omega)) hl l.length 0 [TNode.mk kd a nn s l] (by omega) (by rw [List.drop_zero]; simp; omega))
mutual
theorem walk_bd:∀ {n:TNode},Bd n→∀ x ∈ walkS n,Bd x
  | .mk kd a n s l,h,x,hx=>by
    unfold walkS at hx
    by_cases e:x = TNode.mk kd a n s l
    · rw [e]; exact h
    · exact walks_bd h.kid x (by simpa [e] using hx)
theorem walks_bd:∀ {l:List TNode},(∀ y ∈ l,Bd y)→∀ x ∈ walkL l,Bd x
  | [],_,x,hx=>by simp [walkL] at hx
  | y :: r,h,x,hx=>by
    unfold walkL at hx
    rcases List.mem_append.1 hx with hx | hx
    · exact walk_bd (h y (by simp)) x hx
    · exact walks_bd (fun z hz=>h z (by simp [hz])) x hx
end
theorem anyf {α ρ:Type} (g:Nat→α→Option Bool) (l:List α) (hl:l.length ≤ 1000000000) (f:α→Bool) (hf:∀ x ∈ l,Ev (fun k=>g k x) (f x)) (yes:ρ) (J:Nat→Option ρ) {no:ρ} (hJ:l.any f = false→Ev J no):∀ m i:Nat,i + m = l.length→(l.take i).any f = false→EvL (fun k (l1_3:Int)=>
    if (decide (l1_3 < (l.length:Int))) then
    (ix l l1_3).bind fun x4_2=>
    (g k x4_2).bind fun x4_4=>
    if x4_4 then
    some (.inr yes)
    else
    some (.inl (IntKind.i64.wrap (l1_3 + 1)))
    else
    (J k).map .inr) (i:Int) (if (l.drop i).any f = true then yes else no)
  | 0,i,h,ht=>by
    refine EvL.done ?_
    have e:decide ((i:Int) < (l.length:Int)) = false:=by simp; omega
    rw [List.take_of_length_le (by omega)] at ht
    rw [List.drop_of_length_le (by omega)]
    simp only [e,Bool.false_eq_true,if_false,List.any_nil]
    exact Ev.map (hJ ht)
  | m + 1,i,h,ht=>by
    have hi:i < l.length:=by omega
    have e1:decide ((i:Int) < (l.length:Int)) = true:=by simp; omega
    have hF:=hf l[i] (List.getElem_mem hi)
    have hw:IntKind.i64.wrap ((i:Int) + 1) = ((i + 1:Nat):Int):=by rw [w64 (by omega) (by omega)]; omega
    rw [List.drop_eq_getElem_cons hi,List.any_cons]
    cases he:f l[i] with
    | true=>
      rw [he] at hF
      refine EvL.done ?_
      simp only [qR,↓reduceIte,Int.reduceBEq,Int.reduceBNe,Int.reduceLT,Int.reduceLE,Int.reduceGT,Int.reduceGE,e1,ix_nat hi,Ev.bnd hF]
    | false=>
      rw [he] at hF
      refine EvL.step (s':=((i + 1:Nat):Int)) ?_ (by simpa using anyf g l hl f hf yes J hJ m (i + 1) (by omega) (by
        rw [List.take_succ_eq_append_getElem hi,List.any_append,ht,Bool.false_or,List.any_cons,he]; rfl))
      simp only [qR,↓reduceIte,Int.reduceBEq,Int.reduceBNe,Int.reduceLT,Int.reduceLE,Int.reduceGT,Int.reduceGE,e1,ix_nat hi,Ev.bnd hF,hw]
def enK (kd:Int) (bs:List Bool):Bool:=if kd = 35 then true else if kd = 33 then (match bs with | [_,b,c]=>b && c | _=>false) else if kd = 30 then bs.any id else false
mutual
def enS:TNode→Bool
  | .mk kd a n s l=>enK kd (enL l)
def enL:List TNode→List Bool
  | []=>[]
  | x :: r=>enS x :: enL r
end
theorem enL_map:∀ l:List TNode,enL l = l.map enS
  | []=>rfl
  | x :: r=>by rw [enL,enL_map r]; rfl
theorem any_id (l:List TNode):(l.map enS).any id = l.any enS:=by rw [List.any_map]; rfl
theorem ends_ev {n:TNode} (h:Bd n):Ev (fun k=>ends_Stmt k n) (enS n):=by
  induction h with
  | mk kd a nn s l hl hk ih=>
    rw [enS,enL_map]
    unfold enK
    by_cases h35:kd = 35
    · subst h35
      refine Ev.succ1 ?_
      simp only [qR,↓reduceIte,Int.reduceBEq,Int.reduceBNe,Int.reduceLT,Int.reduceLE,Int.reduceGT,Int.reduceGE,ends_Stmt]
    have e35:(kd == 35) = false:=by simpa using h35
    by_cases h30:kd = 30
    · subst h30
      obtain ⟨r,r1,r2⟩:=idxf ends_Stmt l (by omega) enS ih l.length 0 (by omega)
      rw [List.drop_zero] at r2
      have h1:Ev (fun k=>slices_IndexFunc_Node k l) r:=by
        refine Ev.succ1 ?_
        simp only [slices_IndexFunc_Node,joinK]
        exact Ev.loop r1
      have h2:Ev (fun k=>slices_ContainsFunc_Node k l) (l.any enS):=by
        refine Ev.succ1 ?_
        simp only [qR,↓reduceIte,Int.reduceBEq,Int.reduceBNe,Int.reduceLT,Int.reduceLE,Int.reduceGT,Int.reduceGE,slices_ContainsFunc_Node,Ev.bnd h1,r2]
      refine Ev.succ1 ?_
      simp only [qR,↓reduceIte,Int.reduceBEq,Int.reduceBNe,Int.reduceLT,Int.reduceLE,Int.reduceGT,Int.reduceGE,ends_Stmt,Ev.bnd h2,any_id]
      simp
    have e30:(kd == 30) = false:=by simpa using h30
    by_cases h33:kd = 33
    rotate_left
    · have e33:(kd == 33) = false:=by simpa using h33
      refine Ev.succ1 ?_
      simp only [qR,↓reduceIte,Int.reduceBEq,Int.reduceBNe,Int.reduceLT,Int.reduceLE,Int.reduceGT,Int.reduceGE,ends_Stmt,e35,e30,e33,h35,h33,h30]
    subst h33
    rcases l with _ | ⟨x,_ | ⟨y,_ | ⟨z,_ | ⟨w,l⟩⟩⟩⟩
    · refine Ev.succ1 ?_
      simp only [qR,↓reduceIte,Int.reduceBEq,Int.reduceBNe,Int.reduceLT,Int.reduceLE,Int.reduceGT,Int.reduceGE,ends_Stmt]; rfl
    · refine Ev.succ1 ?_
      simp only [qR,↓reduceIte,Int.reduceBEq,Int.reduceBNe,Int.reduceLT,Int.reduceLE,Int.reduceGT,Int.reduceGE,ends_Stmt]; rfl
    · refine Ev.succ1 ?_
      simp only [qR,↓reduceIte,Int.reduceBEq,Int.reduceBNe,Int.reduceLT,Int.reduceLE,Int.reduceGT,Int.reduceGE,ends_Stmt]; rfl
    · have q1:=ih y (by simp)
      have q2:=ih z (by simp)
      refine Ev.succ1 ?_
      cases hy:enS y with
      | false=>rw [hy] at q1; simp only [qR,↓reduceIte,Int.reduceBEq,Int.reduceBNe,Int.reduceLT,Int.reduceLE,Int.reduceGT,Int.reduceGE,ends_Stmt,Ev.bnd q1]; simp [hy]
      | true=>rw [hy] at q1; simp only [qR,↓reduceIte,Int.reduceBEq,Int.reduceBNe,Int.reduceLT,Int.reduceLE,Int.reduceGT,Int.reduceGE,ends_Stmt,Ev.bnd q1,Ev.bnd q2]; simp [hy]
    · refine Ev.succ1 ?_
      simp only [qR,↓reduceIte,Int.reduceBEq,Int.reduceBNe,Int.reduceLT,Int.reduceLE,Int.reduceGT,Int.reduceGE,ends_Stmt,lenge 3 (by decide)]; rfl
theorem ref21_ev {n:TNode} (h:Bd n):Ev (fun k=>ref21_Stmt k n) (enS n):=by
  induction h with
  | mk kd a nn s l hl hk ih=>
    rw [enS,enL_map]
    unfold enK
    by_cases h35:kd = 35
    · subst h35
      refine Ev.succ1 ?_
      simp only [qR,↓reduceIte,Int.reduceBEq,Int.reduceBNe,Int.reduceLT,Int.reduceLE,Int.reduceGT,Int.reduceGE,ref21_Stmt]
    have e35:(kd == 35) = false:=by simpa using h35
    by_cases h33:kd = 33
    · subst h33
      rcases l with _ | ⟨x,_ | ⟨y,_ | ⟨z,_ | ⟨w,l⟩⟩⟩⟩
      · refine Ev.succ1 ?_
        simp only [qR,↓reduceIte,Int.reduceBEq,Int.reduceBNe,Int.reduceLT,Int.reduceLE,Int.reduceGT,Int.reduceGE,ref21_Stmt]; rfl
      · refine Ev.succ1 ?_
        simp only [qR,↓reduceIte,Int.reduceBEq,Int.reduceBNe,Int.reduceLT,Int.reduceLE,Int.reduceGT,Int.reduceGE,ref21_Stmt]; rfl
      · refine Ev.succ1 ?_
        simp only [qR,↓reduceIte,Int.reduceBEq,Int.reduceBNe,Int.reduceLT,Int.reduceLE,Int.reduceGT,Int.reduceGE,ref21_Stmt]; rfl
      · have q1:=ih y (by simp)
        have q2:=ih z (by simp)
        refine Ev.succ1 ?_
        cases hy:enS y with
        | false=>rw [hy] at q1; simp only [qR,↓reduceIte,Int.reduceBEq,Int.reduceBNe,Int.reduceLT,Int.reduceLE,Int.reduceGT,Int.reduceGE,ref21_Stmt,Ev.bnd q1]; simp [hy]
        | true=>rw [hy] at q1; simp only [qR,↓reduceIte,Int.reduceBEq,Int.reduceBNe,Int.reduceLT,Int.reduceLE,Int.reduceGT,Int.reduceGE,ref21_Stmt,Ev.bnd q1,Ev.bnd q2]; simp [hy]
      · refine Ev.succ1 ?_
        simp only [qR,↓reduceIte,Int.reduceBEq,Int.reduceBNe,Int.reduceLT,Int.reduceLE,Int.reduceGT,Int.reduceGE,ref21_Stmt,lenge 3 (by decide)]; rfl
    have e33:(kd == 33) = false:=by simpa using h33
    by_cases h30:kd = 30
    rotate_left
    · have e30:(kd != 30) = true:=by simpa using h30
      refine Ev.succ1 ?_
      simp only [qR,↓reduceIte,Int.reduceBEq,Int.reduceBNe,Int.reduceLT,Int.reduceLE,Int.reduceGT,Int.reduceGE,ref21_Stmt,e35,e30,e33,h35,h33,h30]
    subst h30
    refine Ev.succ1 ?_
    simp only [qR,↓reduceIte,Int.reduceBEq,Int.reduceBNe,Int.reduceLT,Int.reduceLE,Int.reduceGT,Int.reduceGE,ref21_Stmt,any_id]
    have:=anyf ref21_Stmt l (by omega) enS ih true (fun _=>some false) (no:=false) (fun _=>Ev.pure) l.length 0 (by omega) (by simp)
    rw [List.drop_zero] at this
    have e:(if l.any enS = true then true else false) = l.any enS:=by cases l.any enS <;> rfl
    rw [e] at this
    simp only [show ¬ ((30:Int) = 35) from by decide,show ¬ ((30:Int) = 33) from by decide,if_false,if_true,any_id]
    exact Ev.loop this
end Go.Proofs.YtjojaiomgdjhfaaGreatDoor.F
namespace Go.Proofs.YtjojaiomgdjhfaaGreatDoor.F
open Go
theorem w_succ {i:Nat} (h:i ≤ 1000000000):IntKind.i64.wrap ((i:Int) + 1) = ((i + 1:Nat):Int):=by rw [w64 (by omega) (by omega)]; omega
theorem lt_t {i n:Nat} (h:i < n):decide ((i:Int) < (n:Int)) = true:=by simp; omega
theorem lt_f {i n:Nat} (h:n ≤ i):decide ((i:Int) < (n:Int)) = false:=by simp; omega
mutual
def sameS:TNode→TNode→Bool
  | .mk kd a n s l,m=>(((kd == m.Kind) && (n == m.N)) && (s == m.Name)) && sameL l m.Kids
def sameL:List TNode→List TNode→Bool
  | [],[]=>true
  | x :: r,y :: r'=>sameS x y && sameL r r'
  | [],_ :: _=>false
  | _ :: _,[]=>false
end
theorem sameL_len:∀ {l l':List TNode},sameL l l' = true→l.length = l'.length
  | [],[],_=>rfl
  | x :: r,y :: r',h=>by
    simp only [sameL,Bool.and_eq_true] at h
    simp only [List.length_cons,sameL_len h.2]
  | [],_ :: _,h=>by cases h
  | _ :: _,[],h=>by cases h
theorem same_loop (l l':List TNode) (he:l.length = l'.length) (hl:l.length ≤ 10000000) (g:Nat→TNode→TNode→Option Bool) (hg:∀ x ∈ l,∀ y ∈ l',Ev (fun k=>g k x y) (sameS x y)):∀ (d i:Nat),i + d = l.length→EvL (fun k (l1_5:Int)=>
    if (decide (l1_5 < (l.length:Int))) then
    (ix l l1_5).bind fun x6_3=>
    (ix l' l1_5).bind fun x6_8=>
    (g k x6_3 x6_8).bind fun x6_10=>
    if (!x6_10) then
    some (.inr false)
    else
    some (.inl (IntKind.i64.wrap (l1_5 + 1)))
    else
    ((some true:Option Bool)).map .inr) (i:Int) (sameL (l.drop i) (l'.drop i))
  | 0,i,h=>by
    refine EvL.done ?_
    rw [List.drop_of_length_le (by omega),List.drop_of_length_le (by omega)]
    simp only [qR,↓reduceIte,Int.reduceBEq,Int.reduceBNe,Int.reduceLT,Int.reduceLE,Int.reduceGT,Int.reduceGE,lt_f (show l.length ≤ i by omega),sameL]
  | d + 1,i,h=>by
    have hi:i < l.length:=by omega
    have hi':i < l'.length:=by omega
    rw [List.drop_eq_getElem_cons hi,List.drop_eq_getElem_cons hi']
    have q:=hg l[i] (List.getElem_mem hi) l'[i] (List.getElem_mem hi')
    unfold sameL
    cases hc:sameS l[i] l'[i] with
    | false=>
      rw [hc] at q
      refine EvL.done ?_
      simp only [qR,↓reduceIte,Int.reduceBEq,Int.reduceBNe,Int.reduceLT,Int.reduceLE,Int.reduceGT,Int.reduceGE,lt_t hi,ix_nat hi,ix_nat hi',Ev.bnd q]
    | true=>
      rw [hc] at q
      rw [Bool.true_and]
      refine EvL.step ?_ (same_loop l l' he hl g hg d (i + 1) (by omega))
      simp only [qR,↓reduceIte,Int.reduceBEq,Int.reduceBNe,Int.reduceLT,Int.reduceLE,Int.reduceGT,Int.reduceGE,lt_t hi,ix_nat hi,ix_nat hi',Ev.bnd q,w_succ (show i ≤ 1000000000 by omega)]
theorem sameL_ne {l l':List TNode} (h:l.length ≠ l'.length):sameL l l' = false:=by
  cases e:sameL l l' with
  | false=>rfl
  | true=>exact absurd (sameL_len e) h
theorem same_ref {n:TNode} (h:Bd n):∀ m:TNode,Ev (fun k=>ref11_Same k n m) (sameS n m):=by
  induction h with
  | mk kd a nn s l hl hk ih=>
    intro m
    rw [sameS]
    refine Ev.succ1 ?_
    cases h1:(((kd == m.Kind) && (nn == m.N)) && (s == m.Name)) with
    | false=>
      have e:((((kd != m.Kind) || (nn != m.N)) || (!(s == m.Name))) || ((l.length:Int) != (m.Kids.length:Int))) = true:=by
        simp only [bne]
        cases h2:(kd == m.Kind) <;> cases h3:(nn == m.N) <;> cases h4:(s == m.Name) <;> simp_all
      simp only [qR,↓reduceIte,Int.reduceBEq,Int.reduceBNe,Int.reduceLT,Int.reduceLE,Int.reduceGT,Int.reduceGE,ref11_Same,e]
    | true=>
      simp only [Bool.and_eq_true] at h1
      obtain ⟨⟨h2,h3⟩,h4⟩:=h1
      by_cases he:l.length = m.Kids.length
      · have e:((((kd != m.Kind) || (nn != m.N)) || (!(s == m.Name))) || ((l.length:Int) != (m.Kids.length:Int))) = false:=by
          simp only [bne,h2,h3,h4]; simp; omega
        simp only [qR,↓reduceIte,Int.reduceBEq,Int.reduceBNe,Int.reduceLT,Int.reduceLE,Int.reduceGT,Int.reduceGE,ref11_Same,e]
        exact Ev.loop (same_loop l m.Kids he hl ref11_Same (fun x hx y _=>ih x hx y) l.length 0 (by omega))
      · have e:((((kd != m.Kind) || (nn != m.N)) || (!(s == m.Name))) || ((l.length:Int) != (m.Kids.length:Int))) = true:=by
          simp only [bne,h2,h3,h4]; simp; omega
        simp only [qR,↓reduceIte,Int.reduceBEq,Int.reduceBNe,Int.reduceLT,Int.reduceLE,Int.reduceGT,Int.reduceGE,ref11_Same,e,sameL_ne he]
theorem same_imp {n:TNode} (h:Bd n):∀ m:TNode,Ev (fun k=>tree_Same k n m) (sameS n m):=by
  induction h with
  | mk kd a nn s l hl hk ih=>
    intro m
    rw [sameS]
    refine Ev.succ1 ?_
    cases h1:(((kd == m.Kind) && (nn == m.N)) && (s == m.Name)) with
    | false=>simp only [qR,↓reduceIte,Int.reduceBEq,Int.reduceBNe,Int.reduceLT,Int.reduceLE,Int.reduceGT,Int.reduceGE,tree_Same,h1]
    | true=>
      have q:Ev (fun k=>slices_EqualFunc_Node k l m.Kids) (sameL l m.Kids):=by
        refine Ev.succ1 ?_
        by_cases he:l.length = m.Kids.length
        · have e:((l.length:Int) != (m.Kids.length:Int)) = false:=by simp; omega
          simp only [qR,↓reduceIte,Int.reduceBEq,Int.reduceBNe,Int.reduceLT,Int.reduceLE,Int.reduceGT,Int.reduceGE,slices_EqualFunc_Node,e]
          exact Ev.loop (same_loop l m.Kids he hl tree_Same (fun x hx y _=>ih x hx y) l.length 0 (by omega))
        · have e:((l.length:Int) != (m.Kids.length:Int)) = true:=by simp; omega
          simp only [qR,↓reduceIte,Int.reduceBEq,Int.reduceBNe,Int.reduceLT,Int.reduceLE,Int.reduceGT,Int.reduceGE,slices_EqualFunc_Node,e,sameL_ne he]
      simp only [qR,↓reduceIte,Int.reduceBEq,Int.reduceBNe,Int.reduceLT,Int.reduceLE,Int.reduceGT,Int.reduceGE,tree_Same,h1,Ev.bnd q]
def dk (ds:List TNode) (c:Int):List TNode:=ds.filter fun d=>(c == 0) || (d.Kind == c)
theorem goL_filter (f:TNode→Bool) (ρ:Type) (J:List TNode→ρ):∀ (l acc:List TNode),goL (ρ:=ρ) (fun x s=>.inl (if f x = true then s ++ [x] else s)) J l acc = J (acc ++ l.filter f)
  | [],acc=>by simp [goL]
  | x :: r,acc=>by
    unfold goL
    cases h:f x with
    | true=>simp only [if_true,goL_filter f ρ J r,List.filter_cons,h,List.append_assoc,List.singleton_append]
    | false=>simp [goL_filter f ρ J r,List.filter_cons,h]
theorem decls_ev {p m:TNode} {ds:List TNode} (hp:p.Kids = ds ++ [m]) (hl:ds.length ≤ 10000000) (c:Int):Ev (fun k=>ref18_Decls k p c) (dk ds c):=by
  simp only [ref18_Decls,joinK]
  refine Ev.loop ?_
  have:=goL_ev (σ:=List TNode) (ρ:=List TNode) (τ:=List TNode × Int) ds (fun i s=>(s,(i:Int))) (fun x s=>.inl (if ((c == 0) || (x.Kind == c)) = true then s ++ [x] else s)) (fun s=>s) (fun i s=>s.length ≤ i)
    (body:=fun k ((l1_5,l1_6):List TNode × Int)=>if (decide ((IntKind.i64.wrap (l1_6 + 1)) < (p.Kids.length:Int))) then
    if (c == 0) then
    (ix p.Kids l1_6).bind fun x6_4=>
    if (room 64 (l1_5.length + [x6_4].length)) then
    some (.inl ((l1_5 ++ [x6_4]),(IntKind.i64.wrap (l1_6 + 1))))
    else none
    else
    (ix p.Kids l1_6).bind fun x5_6=>
    if (x5_6.Kind == c) then
    (ix p.Kids l1_6).bind fun x6_4=>
    if (room 64 (l1_5.length + [x6_4].length)) then
    some (.inl ((l1_5 ++ [x6_4]),(IntKind.i64.wrap (l1_6 + 1))))
    else none
    else
    some (.inl (l1_5,(IntKind.i64.wrap (l1_6 + 1))))
    else
    ((some l1_5:Option (List TNode))).map .inr) (fun i x s hi hs=>?_) (fun s hs=>?_) ds.length 0 [] (by omega) (by simp)
  · rw [List.drop_zero,goL_filter,List.nil_append] at this
    exact this
  · obtain ⟨hj,rfl⟩:=List.getElem?_eq_some_iff.1 hi
    have hx:ix p.Kids (i:Int) = some ds[i]:=by rw [hp,ix_nat (by simp; omega),List.getElem_append_left hj]
    have e1:decide (((i + 1:Nat):Int) < (p.Kids.length:Int)) = true:=by rw [hp]; simp; omega
    have hr:room 64 (s.length + [ds[i]].length) = true:=room_of (by omega) (by simp; omega)
    have hw:=w_succ (show i ≤ 1000000000 by omega)
    refine ⟨?_,fun s' h=>?_⟩
    · cases h0:c == 0 with
      | true=>simp only [qR,↓reduceIte,Int.reduceBEq,Int.reduceBNe,Int.reduceLT,Int.reduceLE,Int.reduceGT,Int.reduceGE,hw,e1,hx,hr]
      | false=>
        cases h1:ds[i].Kind == c with
        | true=>simp only [qR,↓reduceIte,Int.reduceBEq,Int.reduceBNe,Int.reduceLT,Int.reduceLE,Int.reduceGT,Int.reduceGE,hw,e1,hx,hr,h1]
        | false=>simp only [qR,↓reduceIte,Int.reduceBEq,Int.reduceBNe,Int.reduceLT,Int.reduceLE,Int.reduceGT,Int.reduceGE,hw,e1,hx,h1]
    · injection h with h
      subst h
      split
      · simp; omega
      · omega
  · have e1:decide (((ds.length + 1:Nat):Int) < (p.Kids.length:Int)) = false:=by rw [hp]; simp
    simp only [qR,↓reduceIte,Int.reduceBEq,Int.reduceBNe,Int.reduceLT,Int.reduceLE,Int.reduceGT,Int.reduceGE,w_succ (show ds.length ≤ 1000000000 by omega),e1]
def fI (l:List TNode) (s:List UInt8):Int:=match l.findIdx? (fun d=>d.Name == s) with | some i=>(i:Int) | none=>-1
theorem fI_loop (l:List TNode) (hl:l.length ≤ 10000000) (s:List UInt8):∀ (d i:Nat),i + d = l.length→(∀ x ∈ l.take i,(x.Name == s) = false)→EvL (fun k (l1_8:Int)=>
    if (decide (l1_8 < (l.length:Int))) then
    (ix l l1_8).bind fun x5_2=>
    if (x5_2.Name == s) then
    some (.inr l1_8)
    else
    some (.inl (IntKind.i64.wrap (l1_8 + 1)))
    else
    ((some (-1):Option Int)).map .inr) (i:Int) (fI l s)
  | 0,i,h,hn=>by
    refine EvL.done ?_
    have e:fI l s = -1:=by
      unfold fI
      rw [List.findIdx?_eq_none_iff.2 (fun x hx=>hn x (by rw [List.take_of_length_le (by omega)]; exact hx))]
    simp only [qR,↓reduceIte,Int.reduceBEq,Int.reduceBNe,Int.reduceLT,Int.reduceLE,Int.reduceGT,Int.reduceGE,lt_f (show l.length ≤ i by omega),e]
  | d + 1,i,h,hn=>by
    have hi:i < l.length:=by omega
    cases hc:l[i].Name == s with
    | true=>
      have e:fI l s = i:=by
        unfold fI
        rw [List.findIdx?_eq_some_iff_getElem.2 ⟨hi,hc,fun j hj=>by rw [hn l[j] (List.mem_take_iff_getElem.2 ⟨j,by omega,rfl⟩)]; decide⟩]
      refine EvL.done ?_
      simp only [qR,↓reduceIte,Int.reduceBEq,Int.reduceBNe,Int.reduceLT,Int.reduceLE,Int.reduceGT,Int.reduceGE,lt_t hi,ix_nat hi,hc,e]
    | false=>
      refine EvL.step (s':=((i + 1:Nat):Int)) ?_ (fI_loop l hl s d (i + 1) (by omega) ?_)
      · simp only [qR,↓reduceIte,Int.reduceBEq,Int.reduceBNe,Int.reduceLT,Int.reduceLE,Int.reduceGT,Int.reduceGE,lt_t hi,ix_nat hi,hc,w_succ (show i ≤ 1000000000 by omega)]
      · intro x hx
        rw [List.take_succ_eq_append_getElem hi] at hx
        rcases List.mem_append.1 hx with hx | hx
        · exact hn x hx
        · rw [List.mem_singleton.1 hx]; exact hc
theorem dk_len (ds:List TNode) (c:Int):(dk ds c).length ≤ ds.length:=List.length_filter_le _ _
theorem find_ev {p m:TNode} {ds:List TNode} (hp:p.Kids = ds ++ [m]) (hl:ds.length ≤ 10000000) (c:Int) (s:List UInt8):Ev (fun k=>ref18_Find k p c s) (fI (dk ds c) s):=by
  simp only [ref18_Find,joinK]
  refine Ev.bind (decls_ev hp hl c) ?_
  exact Ev.loop (fI_loop _ (by have:=dk_len ds c; omega) s _ 0 (by rw [Nat.zero_add]) (by simp))
theorem fI_ge (l:List TNode) (s:List UInt8):decide (fI l s ≥ 0) = l.any (fun d=>d.Name == s):=by
  unfold fI
  cases h:l.findIdx? (fun d=>d.Name == s) with
  | none=>
    rw [List.findIdx?_eq_none_iff] at h
    rw [show l.any (fun d=>d.Name == s) = false from List.any_eq_false.2 fun x hx=>by simp [h x hx]]
    rfl
  | some i=>
    obtain ⟨hi,h1,_⟩:=List.findIdx?_eq_some_iff_getElem.1 h
    rw [show l.any (fun d=>d.Name == s) = true from List.any_eq_true.2 ⟨l[i],List.getElem_mem hi,h1⟩]
    simp
end Go.Proofs.YtjojaiomgdjhfaaGreatDoor.F
namespace Go.Proofs.YtjojaiomgdjhfaaGreatDoor.F
open Go
def gv (s:List UInt8):Int:=if ((s == [108,101,110]) || (s == [105,110,112,117,116])) = true then 1 else if (s == [102,105,108,108]) = true then 2 else if (s == [105,110,112,117,116,115]) = true then 0 else -1
theorem given_ref (k:Nat) (s:List UInt8):ref18_Given k s = some (gv s):=by
  unfold ref18_Given gv
  repeat' split
  all_goals rfl
theorem given_imp (k:Nat) (s:List UInt8):∃ n,word_Given k s = some (n,decide (gv s ≥ 0)):=by
  unfold word_Given gv joinK
  cases h1:(s == [108,101,110]) with
  | true=>exact ⟨1,rfl⟩
  | false=>
    cases h2:(s == [105,110,112,117,116]) with
    | true=>exact ⟨1,rfl⟩
    | false=>
      cases h3:(s == [102,105,108,108]) with
      | true=>exact ⟨2,rfl⟩
      | false=>
        cases h4:(s == [105,110,112,117,116,115]) with
        | true=>exact ⟨0,rfl⟩
        | false=>exact ⟨0,rfl⟩
theorem DeS.four {d:TNode} (h:DeS d):d.Kind = 51 ∨ d.Kind = 52 ∨ d.Kind = 53 ∨ d.Kind = 54:=by
  cases h <;> simp
def hasN (l:List TNode) (s:List UInt8):Bool:=l.any fun d=>d.Name == s
def glb (ds:List TNode) (s:List UInt8):Bool:=decide (gv s ≥ 0) || hasN ds s
theorem dk_mem {ds:List TNode} {c:Int} {d:TNode} (hc:c ≠ 0):d ∈ dk ds c ↔ d ∈ ds∧d.Kind = c:=by
  unfold dk
  rw [List.mem_filter,show (c == 0) = false from by simpa using hc,Bool.false_or,beq_iff_eq]
theorem hasN_four {ds:List TNode} (h:∀ d ∈ ds,d.Kind = 51 ∨ d.Kind = 52 ∨ d.Kind = 53 ∨ d.Kind = 54) (s:List UInt8):hasN ds s = (((hasN (dk ds 51) s || hasN (dk ds 52) s) || hasN (dk ds 53) s) || hasN (dk ds 54) s):=by
  rw [Bool.eq_iff_iff]
  simp only [hasN,Bool.or_eq_true,List.any_eq_true]
  constructor
  · rintro ⟨d,hd,hs⟩
    rcases h d hd with e | e | e | e
    · exact .inl (.inl (.inl ⟨d,(dk_mem (by decide)).2 ⟨hd,e⟩,hs⟩))
    · exact .inl (.inl (.inr ⟨d,(dk_mem (by decide)).2 ⟨hd,e⟩,hs⟩))
    · exact .inl (.inr ⟨d,(dk_mem (by decide)).2 ⟨hd,e⟩,hs⟩)
    · exact .inr ⟨d,(dk_mem (by decide)).2 ⟨hd,e⟩,hs⟩
  · rintro (((⟨d,hd,hs⟩ | ⟨d,hd,hs⟩) | ⟨d,hd,hs⟩) | ⟨d,hd,hs⟩) <;> exact ⟨d,((dk_mem (by decide)).1 hd).1,hs⟩
theorem dk_zero (ds:List TNode):dk ds 0 = ds:=by unfold dk; simp
theorem global_ref {p m:TNode} {ds:List TNode} (hp:p.Kids = ds ++ [m]) (hl:ds.length ≤ 10000000) (s:List UInt8):Ev (fun k=>ref18_Global k p s) (glb ds s):=by
  have h:=find_ev hp hl 0 s
  have e:=fI_ge (dk ds 0) s
  rw [dk_zero] at e h
  cases hg:decide (gv s ≥ 0) with
  | true=>
    have e2:glb ds s = true:=by unfold glb; rw [hg]; rfl
    simp only [qR,↓reduceIte,Int.reduceBEq,Int.reduceBNe,Int.reduceLT,Int.reduceLE,Int.reduceGT,Int.reduceGE,ref18_Global,given_ref,hg,e2]
  | false=>
    have e2:glb ds s = hasN ds s:=by unfold glb; rw [hg]; rfl
    simp only [qR,↓reduceIte,Int.reduceBEq,Int.reduceBNe,Int.reduceLT,Int.reduceLE,Int.reduceGT,Int.reduceGE,ref18_Global,given_ref,hg,Ev.bnd h,e,e2,hasN]
def MapOk (l:List TNode) (o:List (List UInt8 × Int)):Prop:=∀ s,mgetS s o = (l.findIdx? fun d=>d.Name == s).map fun (i:Nat)=>(i:Int)
theorem MapOk.isSome {l:List TNode} {o:List (List UInt8 × Int)} (h:MapOk l o) (s:List UInt8):(mgetS s o).isSome = hasN l s:=by
  rw [h s,Option.isSome_map,List.findIdx?_isSome]; rfl
theorem MapOk.getD {l:List TNode} {o:List (List UInt8 × Int)} (h:MapOk l o) {s:List UInt8} (hs:hasN l s = true):(mgetS s o).getD 0 = fI l s:=by
  rw [h s]
  unfold fI
  cases e:l.findIdx? (fun d=>d.Name == s) with
  | some i=>rfl
  | none=>
    have:=List.findIdx?_isSome (xs:=l) (p:=fun d=>d.Name == s)
    rw [e] at this
    unfold hasN at hs
    rw [hs] at this
    cases this
theorem mgetS_ne {V:Type} {a b:List UInt8} {v:V} (h:(b == a) = false):∀ m:List (List UInt8 × V),mgetS a (msetS b v m) = mgetS a m
  | []=>by simp [msetS,mgetS,h]
  | (c,w) :: r=>by
    unfold msetS
    cases hc:c == b with
    | true=>
      have:c = b:=by simpa using hc
      subst this
      simp [mgetS,h]
    | false=>
      simp only [Bool.false_eq_true,if_false,mgetS,mgetS_ne h r]
theorem mgetS_eq {V:Type} {a:List UInt8} {v:V}:∀ m:List (List UInt8 × V),mgetS a (msetS a v m) = some v
  | []=>by simp [msetS,mgetS]
  | (c,w) :: r=>by
    unfold msetS
    cases hc:c == a with
    | true=>simp [mgetS,hc]
    | false=>simp only [Bool.false_eq_true,if_false,mgetS,hc,mgetS_eq r]
theorem MapOk.add {l:List TNode} {o:List (List UInt8 × Int)} (h:MapOk l o) {d:TNode} (hd:hasN l d.Name = false):MapOk (l ++ [d]) (msetS d.Name (l.length:Int) o):=by
  intro s
  rw [List.findIdx?_append]
  cases e:d.Name == s with
  | true=>
    have e2:d.Name = s:=by simpa using e
    subst e2
    have hn:l.findIdx? (fun x=>x.Name == d.Name) = none:=by
      have:=List.findIdx?_isSome (xs:=l) (p:=fun x=>x.Name == d.Name)
      unfold hasN at hd
      rw [hd] at this
      simpa using this
    rw [hn,mgetS_eq]
    simp [List.findIdx?_cons]
  | false=>
    rw [mgetS_ne e,h s]
    simp [List.findIdx?_cons,e]
structure TabOk (all:List (Int × Tdecl_kinds)) (ds:List TNode):Prop where
  four:∀ d ∈ ds,d.Kind = 51 ∨ d.Kind = 52 ∨ d.Kind = 53 ∨ d.Kind = 54
  get:∀ c:Int,c = 51 ∨ c = 52 ∨ c = 53 ∨ c = 54→∃ o,mgetI c all = some (Tdecl_kinds.mk (dk ds c) o)∧MapOk (dk ds c) o
theorem number_ev {all:List (Int × Tdecl_kinds)} {ds:List TNode} (h:TabOk all ds) {c:Int} (hc:c = 51 ∨ c = 52 ∨ c = 53 ∨ c = 54) (k:Nat) (s:List UInt8) (prog:TNode) (locs:Int) (b0:List Int) :
    ∃ n,decl_Table_number_v2 k c s all prog locs b0 = some (n,hasN (dk ds c) s)∧(hasN (dk ds c) s = true→n = fI (dk ds c) s):=by
  obtain ⟨o,h1,h2⟩:=h.get c hc
  refine ⟨(mgetS s o).getD 0,?_,fun hs=>h2.getD hs⟩
  unfold decl_Table_number_v2 decl_kinds_find_v2
  rw [h1]
  simp only [Option.getD_some,Option.bind_some,h2.isSome s]
theorem wn1:IntKind.i64.wrap (0 + 1) = 1:=rfl
theorem wn2:IntKind.i64.wrap (1 + 1) = 2:=rfl
theorem wn3:IntKind.i64.wrap (2 + 1) = 3:=rfl
theorem wn4:IntKind.i64.wrap (3 + 1) = 4:=rfl
theorem global_imp {all:List (Int × Tdecl_kinds)} {ds:List TNode} (h:TabOk all ds) (s:List UInt8) (prog:TNode) (locs:Int) (b0:List Int):Ev (fun k=>decl_Table_Global_v2 k s all prog locs b0) (glb ds s):=by
  have hg:∃ n:Nat→Int,∀ k,word_Given k s = some (n k,decide (gv s ≥ 0)):=⟨fun k=>(given_imp k s).choose,fun k=>(given_imp k s).choose_spec⟩
  obtain ⟨n,hg⟩:=hg
  unfold glb
  rw [hasN_four h.four]
  cases h0:decide (gv s ≥ 0) with
  | true=>
    simp only [decl_Table_Global_v2]
    rw [h0] at hg
    refine Ev.of fun k=>?_
    rw [hg k]; rfl
  | false=>
    rw [h0] at hg
    refine Ev.congr (h:=fun k=>loopM k (fun (l1_19:Int)=>
    if (decide (l1_19 < (([51,52,53,54]:List Int).length:Int))) then
    (ix [51,52,53,54] l1_19).bind fun x6_0=>
    (decl_Table_number_v2 k x6_0 s all prog locs b0).bind fun (x7_3_0,x7_3_1)=>
    if x7_3_1 then
    some (.inr true)
    else
    some (.inl (IntKind.i64.wrap (l1_19 + 1)))
    else
    ((some false:Option Bool)).map .inr) 0) (fun k=>by simp only [decl_Table_Global_v2,joinK,hg k,Option.bind_some,Bool.false_eq_true,if_false]) (Ev.loop ?_)
    obtain ⟨n1,a1,_⟩:=number_ev h (c:=51) (by simp) 0 s prog locs b0
    obtain ⟨n2,a2,_⟩:=number_ev h (c:=52) (by simp) 0 s prog locs b0
    obtain ⟨n3,a3,_⟩:=number_ev h (c:=53) (by simp) 0 s prog locs b0
    obtain ⟨n4,a4,_⟩:=number_ev h (c:=54) (by simp) 0 s prog locs b0
    have a1:∀ k,decl_Table_number_v2 k 51 s all prog locs b0 = _:=fun k=>a1
    have a2:∀ k,decl_Table_number_v2 k 52 s all prog locs b0 = _:=fun k=>a2
    have a3:∀ k,decl_Table_number_v2 k 53 s all prog locs b0 = _:=fun k=>a3
    have a4:∀ k,decl_Table_number_v2 k 54 s all prog locs b0 = _:=fun k=>a4
    cases c1:hasN (dk ds 51) s with
    | true=>
      rw [c1] at a1
      exact EvL.done (by simp only [qR,↓reduceIte,Int.reduceBEq,Int.reduceBNe,Int.reduceLT,Int.reduceLE,Int.reduceGT,Int.reduceGE,a1])
    | false=>
    rw [c1] at a1
    refine EvL.step (s':=1) (by simp only [qR,↓reduceIte,Int.reduceBEq,Int.reduceBNe,Int.reduceLT,Int.reduceLE,Int.reduceGT,Int.reduceGE,a1,wn1]) ?_
    cases c2:hasN (dk ds 52) s with
    | true=>
      rw [c2] at a2
      exact EvL.done (by simp only [qR,↓reduceIte,Int.reduceBEq,Int.reduceBNe,Int.reduceLT,Int.reduceLE,Int.reduceGT,Int.reduceGE,a2])
    | false=>
    rw [c2] at a2
    refine EvL.step (s':=2) (by simp only [qR,↓reduceIte,Int.reduceBEq,Int.reduceBNe,Int.reduceLT,Int.reduceLE,Int.reduceGT,Int.reduceGE,a2,wn2]) ?_
    cases c3:hasN (dk ds 53) s with
    | true=>
      rw [c3] at a3
      exact EvL.done (by simp only [qR,↓reduceIte,Int.reduceBEq,Int.reduceBNe,Int.reduceLT,Int.reduceLE,Int.reduceGT,Int.reduceGE,a3])
    | false=>
    rw [c3] at a3
    refine EvL.step (s':=3) (by simp only [qR,↓reduceIte,Int.reduceBEq,Int.reduceBNe,Int.reduceLT,Int.reduceLE,Int.reduceGT,Int.reduceGE,a3,wn3]) ?_
    cases c4:hasN (dk ds 54) s with
    | true=>
      rw [c4] at a4
      exact EvL.done (by simp only [qR,↓reduceIte,Int.reduceBEq,Int.reduceBNe,Int.reduceLT,Int.reduceLE,Int.reduceGT,Int.reduceGE,a4])
    | false=>
    rw [c4] at a4
    refine EvL.step (s':=4) (by simp only [qR,↓reduceIte,Int.reduceBEq,Int.reduceBNe,Int.reduceLT,Int.reduceLE,Int.reduceGT,Int.reduceGE,a4,wn4]) ?_
    exact EvL.done (by simp only [qR,↓reduceIte,Int.reduceBEq,Int.reduceBNe,Int.reduceLT,Int.reduceLE,Int.reduceGT,Int.reduceGE])
theorem recs_ev {all:List (Int × Tdecl_kinds)} {ds:List TNode} (h:TabOk all ds) (hl:ds.length ≤ 10000000) (k:Nat) (prog:TNode) (locs:Int) (b0:List Int):decl_Table_Recs k all prog locs b0 = some (dk ds 51):=by
  obtain ⟨o,h1,h2⟩:=h.get 51 (by simp)
  have hr:room 64 (([]:List TNode).length + (dk ds 51).length) = true:=by
    have:=dk_len ds 51
    exact room_of (by omega) (by simp; omega)
  unfold decl_Table_Recs decl_Table_list slices_Clone_Node
  rw [h1]
  simp only [Option.getD_some,hr,if_true,Option.bind_some]
theorem merge_ev {all:List (Int × Tdecl_kinds)} {ds:List TNode} (h:TabOk all ds) (k:Nat) (s:List UInt8) (prog:TNode) (locs:Int) (b0:List Int) :
    ∃ n,decl_Table_Merge k s all prog locs b0 = some (n,hasN (dk ds 54) s)∧(hasN (dk ds 54) s = true→n = fI (dk ds 54) s):=by
  obtain ⟨n,h1,h2⟩:=number_ev h (c:=54) (by simp) k s prog locs b0
  refine ⟨n,?_,h2⟩
  unfold decl_Table_Merge
  rw [h1]; rfl
def typS (recs:List TNode):TNode→Bool→Int × Int
  | .mk kd a n s l,h=>if kd = 5 then (match l with | x :: _=>typS recs x false | []=>(0,0)) else if kd = 3∧h = false then (a,7) else if kd = 4∧hasN recs s = false then (a,5) else (0,0)
def recS (recs:List TNode) (s:List UInt8):Option TNode:=recs.find? fun d=>d.Name == s
theorem recS_isSome (recs:List TNode) (s:List UInt8):(recS recs s).isSome = hasN recs s:=by unfold recS hasN; rw [List.isSome_find?]
theorem rec_loop (l:List TNode) (hl:l.length ≤ 10000000) (s:List UInt8):∀ (d i:Nat),i + d = l.length→EvL (fun k (l1_6:Int)=>
    if (decide (l1_6 < (l.length:Int))) then
    (ix l l1_6).bind fun x4_2=>
    if (x4_2.Name == s) then
    (ix l l1_6).bind fun x5_2=>
    some (.inr (x5_2,true))
    else
    some (.inl (IntKind.i64.wrap (l1_6 + 1)))
    else
    ((some ((TNode.mk 0 0 0 [] []),false):Option (TNode × Bool))).map .inr) (i:Int) ((recS (l.drop i) s).getD (TNode.mk 0 0 0 [] []),(recS (l.drop i) s).isSome)
  | 0,i,h=>by
    refine EvL.done ?_
    rw [List.drop_of_length_le (by omega)]
    simp only [qR,↓reduceIte,Int.reduceBEq,Int.reduceBNe,Int.reduceLT,Int.reduceLE,Int.reduceGT,Int.reduceGE,lt_f (show l.length ≤ i by omega)]
    rfl
  | d + 1,i,h=>by
    have hi:i < l.length:=by omega
    rw [List.drop_eq_getElem_cons hi]
    unfold recS
    rw [List.find?_cons]
    cases hc:l[i].Name == s with
    | true=>
      refine EvL.done ?_
      simp only [qR,↓reduceIte,Int.reduceBEq,Int.reduceBNe,Int.reduceLT,Int.reduceLE,Int.reduceGT,Int.reduceGE,lt_t hi,ix_nat hi,hc]
      rfl
    | false=>
      refine EvL.step (s':=((i + 1:Nat):Int)) ?_ (rec_loop l hl s d (i + 1) (by omega))
      simp only [qR,↓reduceIte,Int.reduceBEq,Int.reduceBNe,Int.reduceLT,Int.reduceLE,Int.reduceGT,Int.reduceGE,lt_t hi,ix_nat hi,hc,w_succ (show i ≤ 1000000000 by omega)]
theorem rec_ev (l:List TNode) (hl:l.length ≤ 10000000) (s:List UInt8):Ev (fun k=>ref17_Rec k l s) ((recS l s).getD (TNode.mk 0 0 0 [] []),(recS l s).isSome):=by
  simp only [ref17_Rec,joinK]
  exact Ev.loop (rec_loop l hl s l.length 0 (by omega))
theorem typed_ref {n:TNode} (h:TyS n) (recs:List TNode) (hl:recs.length ≤ 10000000):∀ b,Ev (fun k=>ref18_Typed k n recs b) (Tref18_Fault.mk (typS recs n b).1 (typS recs n b).2):=by
  induction h with
  | base kd a h=>
    intro b
    have q:=rec_ev recs hl []
    rcases h with rfl | rfl | rfl
    · refine Ev.succ1 ?_
      simp only [qR,↓reduceIte,Int.reduceBEq,Int.reduceBNe,Int.reduceLT,Int.reduceLE,Int.reduceGT,Int.reduceGE,ref18_Typed,Ev.bnd q]; rfl
    · refine Ev.succ1 ?_
      simp only [qR,↓reduceIte,Int.reduceBEq,Int.reduceBNe,Int.reduceLT,Int.reduceLE,Int.reduceGT,Int.reduceGE,ref18_Typed,Ev.bnd q]; rfl
    · refine Ev.succ1 ?_
      cases b with
      | true=>simp only [qR,↓reduceIte,Int.reduceBEq,Int.reduceBNe,Int.reduceLT,Int.reduceLE,Int.reduceGT,Int.reduceGE,ref18_Typed,Ev.bnd q]; rfl
      | false=>simp only [qR,↓reduceIte,Int.reduceBEq,Int.reduceBNe,Int.reduceLT,Int.reduceLE,Int.reduceGT,Int.reduceGE,ref18_Typed]; rfl
  | nam a s=>
    intro b
    have q:=rec_ev recs hl s
    have e:=recS_isSome recs s
    refine Ev.succ1 ?_
    unfold typS
    cases hc:hasN recs s with
    | true=>rw [hc] at e; simp only [qR,↓reduceIte,Int.reduceBEq,Int.reduceBNe,Int.reduceLT,Int.reduceLE,Int.reduceGT,Int.reduceGE,ref18_Typed,Ev.bnd q,e]; simp
    | false=>rw [hc] at e; simp only [qR,↓reduceIte,Int.reduceBEq,Int.reduceBNe,Int.reduceLT,Int.reduceLE,Int.reduceGT,Int.reduceGE,ref18_Typed,Ev.bnd q,e]; simp
  | arr a x h ih=>
    intro b
    refine Ev.succ1 ?_
    unfold typS
    simp only [qR,↓reduceIte,Int.reduceBEq,Int.reduceBNe,Int.reduceLT,Int.reduceLE,Int.reduceGT,Int.reduceGE,ref18_Typed,Ev.bnd (ih false)]
theorem typed_has (l:List TNode) (hl:l.length ≤ 10000000) (o:TNode):Ev (fun k=>slices_ContainsFunc_Node_v4 k l o) (hasN l o.Name):=by
  obtain ⟨r,r1,r2⟩:=idxf (fun k x=>decl_typed_1 k x o) l (by omega) (fun x=>x.Name == o.Name) (fun x hx=>by simp only [qR,↓reduceIte,Int.reduceBEq,Int.reduceBNe,Int.reduceLT,Int.reduceLE,Int.reduceGT,Int.reduceGE,decl_typed_1]) l.length 0 (by omega)
  rw [List.drop_zero] at r2
  have h1:Ev (fun k=>slices_IndexFunc_Node_v4 k l o) r:=by
    simp only [slices_IndexFunc_Node_v4,joinK]
    exact Ev.loop r1
  simp only [qR,↓reduceIte,Int.reduceBEq,Int.reduceBNe,Int.reduceLT,Int.reduceLE,Int.reduceGT,Int.reduceGE,slices_ContainsFunc_Node_v4,Ev.bnd h1,r2,hasN]
theorem typed_imp {n:TNode} (h:TyS n) (recs:List TNode) (hl:recs.length ≤ 10000000):∀ b,Ev (fun k=>decl_typed k n recs b) (typS recs n b):=by
  induction h with
  | base kd a h=>
    intro b
    rcases h with rfl | rfl | rfl
    · refine Ev.succ1 ?_
      simp only [qR,↓reduceIte,Int.reduceBEq,Int.reduceBNe,Int.reduceLT,Int.reduceLE,Int.reduceGT,Int.reduceGE,decl_typed]; rfl
    · refine Ev.succ1 ?_
      simp only [qR,↓reduceIte,Int.reduceBEq,Int.reduceBNe,Int.reduceLT,Int.reduceLE,Int.reduceGT,Int.reduceGE,decl_typed]; rfl
    · refine Ev.succ1 ?_
      cases b with
      | true=>simp only [qR,↓reduceIte,Int.reduceBEq,Int.reduceBNe,Int.reduceLT,Int.reduceLE,Int.reduceGT,Int.reduceGE,decl_typed]; rfl
      | false=>simp only [qR,↓reduceIte,Int.reduceBEq,Int.reduceBNe,Int.reduceLT,Int.reduceLE,Int.reduceGT,Int.reduceGE,decl_typed]; rfl
  | nam a s=>
    intro b
    have q:=typed_has recs hl (TNode.mk 4 a 0 s [])
    refine Ev.succ1 ?_
    unfold typS
    cases hc:hasN recs s with
    | true=>simp only [qR,↓reduceIte,Int.reduceBEq,Int.reduceBNe,Int.reduceLT,Int.reduceLE,Int.reduceGT,Int.reduceGE,decl_typed,Ev.bnd q,hc]; simp
    | false=>simp only [qR,↓reduceIte,Int.reduceBEq,Int.reduceBNe,Int.reduceLT,Int.reduceLE,Int.reduceGT,Int.reduceGE,decl_typed,Ev.bnd q,hc]; simp
  | arr a x h ih=>
    intro b
    refine Ev.succ1 ?_
    unfold typS
    simp only [qR,↓reduceIte,Int.reduceBEq,Int.reduceBNe,Int.reduceLT,Int.reduceLE,Int.reduceGT,Int.reduceGE,decl_typed,Ev.bnd (ih false)]
end Go.Proofs.YtjojaiomgdjhfaaGreatDoor.F
namespace Go.Proofs.YtjojaiomgdjhfaaGreatDoor.F
open Go
def tyOf (p:TNode):TNode:=match p.Kids with | t :: _=>t | []=>TNode.mk 0 0 0 [] []
theorem PaS.ty {p:TNode} (h:PaS p):ix p.Kids 0 = some (tyOf p)∧TyS (tyOf p):=by
  obtain ⟨a,s,t,rfl,ht⟩:=h
  exact ⟨rfl,ht⟩
def leafT (n:TNode):Bool:=((n.Kind == 1) || (n.Kind == 2)) || (n.Kind == 5)
def fieldsS (recs:List TNode) (n:TNode):Option (List TNode):=if n.Kind = 4 then (recS recs n.Name).map (·.Kids) else none
def sumO:List (Option Nat)→Option Nat
  | []=>some 0
  | none :: _=>none
  | some a :: r=>(sumO r).map (a + ·)
def cnt (recs:List TNode):Nat→TNode→Option Nat
  | 0,n=>if leafT n = true then some 1 else none
  | m + 1,n=>if leafT n = true then some 1 else match fieldsS recs n with
    | none=>none
    | some l=>(sumO (l.map fun p=>cnt recs m (tyOf p))).map (· + 1)
structure RecOk (recs:List TNode):Prop where
  len:recs.length ≤ 10000000
  kids:∀ r ∈ recs,r.Kids.length ≤ 10000000∧r.Kids ≠ []∧∀ p ∈ r.Kids,PaS p
variable {recs:List TNode}
theorem RecOk.fields (h:RecOk recs) {n:TNode} {l:List TNode} (e:fieldsS recs n = some l):l.length ≤ 10000000∧l ≠ []∧∀ p ∈ l,PaS p:=by
  unfold fieldsS at e
  split at e
  · cases hr:recS recs n.Name with
    | none=>rw [hr] at e; cases e
    | some r=>
      rw [hr] at e; cases e
      exact h.kids r (List.mem_of_find?_eq_some hr)
  · cases e
theorem fI_rec (l:List TNode) (s:List UInt8):(recS l s = none∧fI l s = -1) ∨ ∃ r,recS l s = some r∧0 ≤ fI l s∧ix l (fI l s) = some r:=by
  unfold fI
  cases h:l.findIdx? (fun d=>d.Name == s) with
  | none=>
    refine .inl ⟨?_,rfl⟩
    unfold recS
    rw [List.find?_eq_none]
    intro x hx
    have:=List.findIdx?_eq_none_iff.1 h x hx
    simp [this]
  | some i=>
    obtain ⟨hi,h1,h2⟩:=List.findIdx?_eq_some_iff_getElem.1 h
    refine .inr ⟨l[i],?_,by simp,ix_nat hi⟩
    unfold recS
    exact List.find?_eq_some_iff_getElem.2 ⟨h1,i,hi,rfl,fun j hj=>by simpa using h2 j hj⟩
theorem kparams_ev (h:RecOk recs) (n:TNode):Ev (fun k=>kind_params k n recs) ((fieldsS recs n).getD [],(fieldsS recs n).isSome):=by
  have q:Ev (fun k=>slices_IndexFunc_Node_v6 k recs n) (fI recs n.Name):=by
    simp only [slices_IndexFunc_Node_v6,joinK,kind_params_1,Option.bind_some]
    exact Ev.loop (fI_loop recs h.len n.Name _ 0 (by rw [Nat.zero_add]) (by simp))
  unfold fieldsS
  by_cases h4:n.Kind = 4
  · have e4:(n.Kind != 4) = false:=by simpa using h4
    rcases fI_rec recs n.Name with ⟨e1,e2⟩ | ⟨r,e1,e2,e3⟩
    · simp only [qR,↓reduceIte,Int.reduceBEq,Int.reduceBNe,Int.reduceLT,Int.reduceLE,Int.reduceGT,Int.reduceGE,kind_params,e4,Ev.bnd q,e2,e1,h4]; rfl
    · have e5:decide (fI recs n.Name < 0) = false:=by simp; omega
      simp only [qR,↓reduceIte,Int.reduceBEq,Int.reduceBNe,Int.reduceLT,Int.reduceLE,Int.reduceGT,Int.reduceGE,kind_params,e4,Ev.bnd q,e5,e3,e1,h4]; rfl
  · have e4:(n.Kind != 4) = true:=by simpa using h4
    simp only [qR,↓reduceIte,Int.reduceBEq,Int.reduceBNe,Int.reduceLT,Int.reduceLE,Int.reduceGT,Int.reduceGE,kind_params,e4,h4]; rfl
theorem ktyped_ev (p:TNode) (k:Nat):kind_typed k p = some (tyOf p):=by
  obtain ⟨kd,a,nn,s,l⟩:=p
  unfold kind_typed tyOf
  cases l with
  | nil=>rfl
  | cons x r=>
    rw [if_neg (by simp; omega)]; rfl
theorem kfields_ev (h:RecOk recs) (n:TNode):Ev (fun k=>kind_Fields k n recs) (((fieldsS recs n).getD []).map tyOf,(fieldsS recs n).isSome):=by
  have q:=kparams_ev h n
  have hl:((fieldsS recs n).getD []).length ≤ 10000000:=by
    cases e:fieldsS recs n with
    | none=>simp
    | some l=>exact (h.fields e).1
  generalize (fieldsS recs n).getD [] = l at q hl
  generalize (fieldsS recs n).isSome = b at q
  simp only [qR,↓reduceIte,Int.reduceBEq,Int.reduceBNe,Int.reduceLT,Int.reduceLE,Int.reduceGT,Int.reduceGE,kind_Fields,Ev.bnd q]
  refine Ev.loop ?_
  have:=goL_ev (σ:=List TNode) (ρ:=List TNode × Bool) (τ:=List TNode × Int) l (fun i s=>(s,(i:Int))) (fun x s=>.inl (s ++ [tyOf x])) (fun s=>(s,b)) (fun i s=>s.length ≤ i)
    (body:=fun k ((l1_8,l1_19):List TNode × Int)=>if (decide (l1_19 < (l.length:Int))) then
    (ix l l1_19).bind fun x5_0=>
    (kind_typed k x5_0).bind fun x6_2=>
    if (room 64 (l1_8.length + [x6_2].length)) then
    some (.inl ((l1_8 ++ [x6_2]),(IntKind.i64.wrap (l1_19 + 1))))
    else none
    else
    some (.inr (l1_8,b))) (fun i x s hi hs=>?_) (fun s hs=>?_) l.length 0 [] (by omega) (by simp)
  · rw [List.drop_zero] at this
    have e:∀ l acc:List TNode,goL (ρ:=List TNode × Bool) (fun x s=>.inl (s ++ [tyOf x])) (fun s=>(s,b)) l acc = (acc ++ l.map tyOf,b):=by
      intro l
      induction l with
      | nil=>intro acc; simp [goL]
      | cons x r ih=>intro acc; unfold goL; simp only [ih,List.map_cons,List.append_assoc,List.singleton_append]
    rw [e,List.nil_append] at this
    exact this
  · obtain ⟨hj,rfl⟩:=List.getElem?_eq_some_iff.1 hi
    have hr:room 64 (s.length + [tyOf l[i]].length) = true:=room_of (by omega) (by simp; omega)
    refine ⟨?_,fun s' h=>?_⟩
    · simp only [qR,↓reduceIte,Int.reduceBEq,Int.reduceBNe,Int.reduceLT,Int.reduceLE,Int.reduceGT,Int.reduceGE,lt_t hj,ix_nat hj,ktyped_ev,hr,w_succ (show i ≤ 1000000000 by omega)]
    · injection h with h
      subst h
      simp; omega
  · simp only [qR,↓reduceIte,Int.reduceBEq,Int.reduceBNe,Int.reduceLT,Int.reduceLE,Int.reduceGT,Int.reduceGE,lt_f (Nat.le_refl l.length)]
theorem cnt_pos:∀ (m:Nat) (n:TNode) (c:Nat),cnt recs m n = some c→1 ≤ c
  | 0,n,c,h=>by
    unfold cnt at h
    split at h <;> cases h
    exact Nat.le_refl 1
  | m + 1,n,c,h=>by
    unfold cnt at h
    split at h
    · cases h; exact Nat.le_refl 1
    · split at h
      · cases h
      · rename_i l _
        cases e:sumO (l.map fun p=>cnt recs m (tyOf p)) with
        | none=>rw [e] at h; cases h
        | some x=>rw [e] at h; simp only [Option.map_some,Option.some.injEq] at h; omega
def leO (c:Option Nat) (r:Int):Bool:=match c with | some c=>decide ((c:Int) ≤ r) | none=>false
theorem leO_map {c:Option Nat} {r:Int}:leO (c.map (· + 1)) r = leO c (r - 1):=by
  cases c with
  | none=>rfl
  | some c=>
    show decide (((c + 1:Nat):Int) ≤ r) = decide ((c:Int) ≤ r - 1)
    rw [decide_eq_decide]; omega
theorem zero_loop (m:Nat) (deep:Int) (hz:∀ n,TyS n→∀ r:Int,0 ≤ r→r ≤ 4096→∃ v r',Ev (fun k=>kind_zero_of k n deep recs r) (v,leO (cnt recs m n) r,r')∧r' ≤ 4096∧(∀ c,cnt recs m n = some c→(c:Int) ≤ r→r' = r - c))
    (l:List TNode) (hl:l.length ≤ 10000000) (ht:∀ x ∈ l,TyS x) (deep':Int) (hd:IntKind.i64.wrap (deep' + 1) = deep) (b:Bool):∀ (d i:Nat),i + d = l.length→∀ (vs:List TValue) (r:Int),vs.length ≤ i→0 ≤ r→r ≤ 4096 →
    ∃ v r',EvL (fun k ((l1_bclloc102,l1_55,l1_oext0_1):List TValue × Int × Int)=>
    if (decide (l1_55 < (l.length:Int))) then
    (ix l l1_55).bind fun x15_0=>
    (kind_zero_of k x15_0 (IntKind.i64.wrap (deep' + 1)) recs l1_oext0_1).bind fun (x16_4_0,x16_4_1,x16_4_2)=>
    if (!x16_4_1) then
    some (.inr ((TValue.mk 0 0 []),false,x16_4_2))
    else
    if (room 40 (l1_bclloc102.length + [x16_4_0].length)) then
    some (.inl ((l1_bclloc102 ++ [x16_4_0]),(IntKind.i64.wrap (l1_55 + 1)),x16_4_2))
    else none
    else
    Option.map Sum.inr (if (!b) then
    some ((TValue.mk 0 0 []),false,l1_oext0_1)
    else
    some ((TValue.mk 3 0 l1_bclloc102),true,l1_oext0_1))) (vs,(i:Int),r) (v,(leO (sumO ((l.drop i).map (cnt recs m))) r && b),r')∧r' ≤ 4096∧(∀ c,sumO ((l.drop i).map (cnt recs m)) = some c→(c:Int) ≤ r→r' = r - c)
  | 0,i,h,vs,r,hv,h0,h1=>by
    rw [List.drop_of_length_le (by omega)]
    have e0:leO (sumO (([]:List TNode).map (cnt recs m))) r = true:=by simp [sumO,leO,h0]
    rw [e0,Bool.true_and]
    cases b with
    | true=>exact ⟨_,r,EvL.done (by simp only [qR,↓reduceIte,Int.reduceBEq,Int.reduceBNe,Int.reduceLT,Int.reduceLE,Int.reduceGT,Int.reduceGE,lt_f (show l.length ≤ i by omega)]; rfl),h1,fun c hc hc2=>by cases hc; omega⟩
    | false=>exact ⟨_,r,EvL.done (by simp only [qR,↓reduceIte,Int.reduceBEq,Int.reduceBNe,Int.reduceLT,Int.reduceLE,Int.reduceGT,Int.reduceGE,lt_f (show l.length ≤ i by omega)]; rfl),h1,fun c hc hc2=>by cases hc; omega⟩
  | d + 1,i,h,vs,r,hv,h0,h1=>by
    have hi:i < l.length:=by omega
    rw [List.drop_eq_getElem_cons hi,List.map_cons]
    obtain ⟨v,r',q1,q2,q3⟩:=hz l[i] (ht l[i] (List.getElem_mem hi)) r h0 h1
    rw [← hd] at q1
    cases hc:leO (cnt recs m l[i]) r with
    | false=>
      rw [hc] at q1
      refine ⟨_,r',EvL.done (r:=(TValue.mk 0 0 [],(leO (sumO (cnt recs m l[i] :: (l.drop (i + 1)).map (cnt recs m))) r && b),r')) ?_,q2,fun c e1 e2=>?_⟩
      · have e:leO (sumO (cnt recs m l[i] :: (l.drop (i + 1)).map (cnt recs m))) r = false:=by
          cases e2:cnt recs m l[i] with
          | none=>rfl
          | some c=>
            rw [e2] at hc
            simp only [leO,decide_eq_false_iff_not] at hc
            simp only [sumO]
            cases e3:sumO ((l.drop (i + 1)).map (cnt recs m)) with
            | none=>rfl
            | some c2=>simp only [Option.map_some,leO,decide_eq_false_iff_not]; omega
        rw [e,Bool.false_and]
        simp only [qR,↓reduceIte,Int.reduceBEq,Int.reduceBNe,Int.reduceLT,Int.reduceLE,Int.reduceGT,Int.reduceGE,lt_t hi,ix_nat hi,Ev.bnd q1]
      · exfalso
        cases e3:cnt recs m l[i] with
        | none=>rw [e3] at e1; cases e1
        | some c1=>
          rw [e3] at e1 hc
          simp only [leO,decide_eq_false_iff_not] at hc
          simp only [sumO] at e1
          cases e4:sumO ((l.drop (i + 1)).map (cnt recs m)) with
          | none=>rw [e4] at e1; cases e1
          | some c2=>rw [e4] at e1; simp only [Option.map_some,Option.some.injEq] at e1; omega
    | true=>
      rw [hc] at q1
      cases e3:cnt recs m l[i] with
      | none=>rw [e3] at hc; cases hc
      | some c1=>
      rw [e3] at hc
      simp only [leO,decide_eq_true_eq] at hc
      have hr':=q3 c1 e3 hc
      obtain ⟨v2,r2,g1,g2,g3⟩:=zero_loop m deep hz l hl ht deep' hd b d (i + 1) (by omega) (vs ++ [v]) r' (by simp; omega) (by omega) q2
      refine ⟨v2,r2,?_,g2,fun c e1 e2=>?_⟩
      · have e:leO (sumO (some c1 :: (l.drop (i + 1)).map (cnt recs m))) r = leO (sumO ((l.drop (i + 1)).map (cnt recs m))) r':=by
          simp only [sumO]
          cases e4:sumO ((l.drop (i + 1)).map (cnt recs m)) with
          | none=>rfl
          | some c2=>simp only [Option.map_some,leO]; congr 1; simp; omega
        rw [e]
        refine EvL.step ?_ g1
        have hr:room 40 (vs.length + [v].length) = true:=room_of (by omega) (by simp; omega)
        simp only [qR,↓reduceIte,Int.reduceBEq,Int.reduceBNe,Int.reduceLT,Int.reduceLE,Int.reduceGT,Int.reduceGE,lt_t hi,ix_nat hi,Ev.bnd q1,hr,w_succ (show i ≤ 1000000000 by omega)]
      · simp only [sumO] at e1
        cases e4:sumO ((l.drop (i + 1)).map (cnt recs m)) with
        | none=>rw [e4] at e1; cases e1
        | some c2=>
          rw [e4] at e1; simp only [Option.map_some,Option.some.injEq] at e1
          rw [g3 c2 e4 (by omega)]; omega
theorem map_ty (m:Nat) (l:List TNode):(l.map fun p=>cnt recs m (tyOf p)) = (l.map tyOf).map (cnt recs m):=by rw [List.map_map]; rfl
theorem val_ev:(∀ k,val_Int k 0 = some (TValue.mk 0 0 []))∧(∀ k,val_Bool k false = some (TValue.mk 1 0 []))∧(∀ k,val_Arr k [] = some (TValue.mk 2 0 [])):=⟨fun _=>rfl,fun _=>rfl,fun _=>rfl⟩
theorem leO_zero {m:Nat} {n:TNode}:leO (cnt recs m n) 0 = false:=by
  cases e:cnt recs m n with
  | none=>rfl
  | some c=>
    have:=cnt_pos m n c e
    simp only [leO,decide_eq_false_iff_not]; omega
theorem cnt_leaf {m:Nat} {n:TNode} (h:leafT n = true):cnt recs m n = some 1:=by
  cases m <;> (unfold cnt; rw [if_pos h])
theorem zero_ev (h:RecOk recs):∀ (m:Nat),m ≤ 100→∀ n,TyS n→∀ r:Int,0 ≤ r→r ≤ 4096→∃ v r',Ev (fun k=>kind_zero_of k n (100 - (m:Int)) recs r) (v,leO (cnt recs m n) r,r')∧r' ≤ 4096∧(∀ c,cnt recs m n = some c→(c:Int) ≤ r→r' = r - c):=by
  intro m
  induction m with
  | zero=>
    intro hm n hn r h0 h1
    have ed:decide ((100 - ((0:Nat):Int)) > 100) = false:=rfl
    by_cases hr:r = 0
    · subst hr
      rw [leO_zero]
      refine ⟨TValue.mk 0 0 [],-1,Ev.succ1 ?_,by omega,fun c e1 e2=>by have:=cnt_pos _ _ _ e1; omega⟩
      simp only [qR,↓reduceIte,Int.reduceBEq,Int.reduceBNe,Int.reduceLT,Int.reduceLE,Int.reduceGT,Int.reduceGE,kind_zero_of,show decide (IntKind.i64.wrap ((0:Int) - 1) < 0) = true from rfl]
      rfl
    have hw:IntKind.i64.wrap (r - 1) = r - 1:=w64 (by omega) (by omega)
    have er:decide (r - 1 < 0) = false:=by simp; omega
    cases hl:leafT n with
    | true=>
      rw [cnt_leaf hl]
      have e1:leO (some 1) r = true:=by simp only [leO,decide_eq_true_eq]; omega
      rw [e1]
      obtain ⟨v1,v2,v3⟩:=val_ev
      have hd:∃ v,Ev (fun k=>kind_zero_of k n (100 - ((0:Nat):Int)) recs r) (v,true,r - 1):=by
        simp only [leafT,Bool.or_eq_true,beq_iff_eq] at hl
        rcases hl with (hk | hk) | hk
        · exact ⟨_,Ev.succ1 (by simp only [qR,↓reduceIte,Int.reduceBEq,Int.reduceBNe,Int.reduceLT,Int.reduceLE,Int.reduceGT,Int.reduceGE,kind_zero_of,hw,er,ed,hk,v1]; rfl)⟩
        · exact ⟨_,Ev.succ1 (by simp only [qR,↓reduceIte,Int.reduceBEq,Int.reduceBNe,Int.reduceLT,Int.reduceLE,Int.reduceGT,Int.reduceGE,kind_zero_of,hw,er,ed,hk,v2]; rfl)⟩
        · exact ⟨_,Ev.succ1 (by simp only [qR,↓reduceIte,Int.reduceBEq,Int.reduceBNe,Int.reduceLT,Int.reduceLE,Int.reduceGT,Int.reduceGE,kind_zero_of,hw,er,ed,hk,v3]; rfl)⟩
      obtain ⟨v,hd⟩:=hd
      exact ⟨v,r - 1,hd,by omega,fun c e1 e2=>by cases e1; rfl⟩
    | false=>
      have hc:cnt recs 0 n = none:=by unfold cnt; rw [hl]; rfl
      rw [hc]
      have k1:(n.Kind == 1) = false∧(n.Kind == 2) = false∧(n.Kind == 5) = false:=by
        simp only [leafT,Bool.or_eq_false_iff] at hl
        exact ⟨hl.1.1,hl.1.2,hl.2⟩
      have q:=kfields_ev h n
      cases hf:fieldsS recs n with
      | none=>
        rw [hf] at q
        refine ⟨TValue.mk 0 0 [],r - 1,Ev.succ1 ?_,by omega,fun c e1 e2=>by cases e1⟩
        simp only [qR,↓reduceIte,Int.reduceBEq,Int.reduceBNe,Int.reduceLT,Int.reduceLE,Int.reduceGT,Int.reduceGE,kind_zero_of,hw,er,ed,k1.1,k1.2.1,k1.2.2,Ev.bnd q]
        refine Ev.loop (EvL.done ?_)
        simp only [qR,↓reduceIte,Int.reduceBEq,Int.reduceBNe,Int.reduceLT,Int.reduceLE,Int.reduceGT,Int.reduceGE,show (Option.getD (none:Option (List TNode)) []).map tyOf = [] from rfl,Option.isSome_none]
        rfl
      | some l=>
        rw [hf] at q
        obtain ⟨_,hne,_⟩:=h.fields hf
        obtain ⟨x,l,rfl⟩:∃ x r,l = x :: r:=by
          cases l with
          | nil=>exact absurd rfl hne
          | cons x r=>exact ⟨x,r,rfl⟩
        refine ⟨TValue.mk 0 0 [],IntKind.i64.wrap (r - 1 - 1),Ev.succ1 ?_,by rw [w64 (by omega) (by omega)]; omega,fun c e1 e2=>by cases e1⟩
        simp only [qR,↓reduceIte,Int.reduceBEq,Int.reduceBNe,Int.reduceLT,Int.reduceLE,Int.reduceGT,Int.reduceGE,kind_zero_of,hw,er,ed,k1.1,k1.2.1,k1.2.2,Ev.bnd q]
        refine Ev.loop (EvL.done ?_)
        have e0:decide (((0:Nat):Int) < ((((x :: l).map tyOf).length:Nat):Int)) = true:=by simp
        have e1:ix ((x :: l).map tyOf) 0 = some (tyOf x):=rfl
        have e2:Ev (fun k=>kind_zero_of k (tyOf x) (IntKind.i64.wrap ((100 - ((0:Nat):Int)) + 1)) recs (r - 1)) (TValue.mk 0 0 [],false,IntKind.i64.wrap (r - 1 - 1)):=by
          refine Ev.succ1 ?_
          have e3:((decide (IntKind.i64.wrap (r - 1 - 1) < 0)) || (decide (IntKind.i64.wrap ((100 - ((0:Nat):Int)) + 1) > 100))) = true:=by
            rw [show decide (IntKind.i64.wrap ((100 - ((0:Nat):Int)) + 1) > 100) = true from rfl,Bool.or_true]
          simp only [qR,↓reduceIte,Int.reduceBEq,Int.reduceBNe,Int.reduceLT,Int.reduceLE,Int.reduceGT,Int.reduceGE,kind_zero_of,e3]
        simp only [Option.getD_some]
        simp only [e1,Option.bind_some]
        refine Ev.ite_t e0 ?_
        simp only [qR,↓reduceIte,Int.reduceBEq,Int.reduceBNe,Int.reduceLT,Int.reduceLE,Int.reduceGT,Int.reduceGE,Ev.bnd e2]
        rfl
  | succ m ih=>
    intro hm n hn r h0 h1
    have ed:decide ((100 - ((m + 1:Nat):Int)) > 100) = false:=by simp; omega
    have hd1:IntKind.i64.wrap ((100 - ((m + 1:Nat):Int)) + 1) = 100 - (m:Int):=by rw [w64 (by omega) (by omega)]; omega
    by_cases hr:r = 0
    · subst hr
      rw [leO_zero]
      refine ⟨TValue.mk 0 0 [],-1,Ev.succ1 ?_,by omega,fun c e1 e2=>by have:=cnt_pos _ _ _ e1; omega⟩
      simp only [qR,↓reduceIte,Int.reduceBEq,Int.reduceBNe,Int.reduceLT,Int.reduceLE,Int.reduceGT,Int.reduceGE,kind_zero_of,show decide (IntKind.i64.wrap ((0:Int) - 1) < 0) = true from rfl]
      rfl
    have hw:IntKind.i64.wrap (r - 1) = r - 1:=w64 (by omega) (by omega)
    have er:decide (r - 1 < 0) = false:=by simp; omega
    cases hl:leafT n with
    | true=>
      rw [cnt_leaf hl]
      have e1:leO (some 1) r = true:=by simp only [leO,decide_eq_true_eq]; omega
      rw [e1]
      obtain ⟨v1,v2,v3⟩:=val_ev
      have hd:∃ v,Ev (fun k=>kind_zero_of k n (100 - ((m + 1:Nat):Int)) recs r) (v,true,r - 1):=by
        simp only [leafT,Bool.or_eq_true,beq_iff_eq] at hl
        rcases hl with (hk | hk) | hk
        · exact ⟨_,Ev.succ1 (by simp only [qR,↓reduceIte,Int.reduceBEq,Int.reduceBNe,Int.reduceLT,Int.reduceLE,Int.reduceGT,Int.reduceGE,kind_zero_of,hw,er,ed,hk,v1]; rfl)⟩
        · exact ⟨_,Ev.succ1 (by simp only [qR,↓reduceIte,Int.reduceBEq,Int.reduceBNe,Int.reduceLT,Int.reduceLE,Int.reduceGT,Int.reduceGE,kind_zero_of,hw,er,ed,hk,v2]; rfl)⟩
        · exact ⟨_,Ev.succ1 (by simp only [qR,↓reduceIte,Int.reduceBEq,Int.reduceBNe,Int.reduceLT,Int.reduceLE,Int.reduceGT,Int.reduceGE,kind_zero_of,hw,er,ed,hk,v3]; rfl)⟩
      obtain ⟨v,hd⟩:=hd
      exact ⟨v,r - 1,hd,by omega,fun c e1 e2=>by cases e1; rfl⟩
    | false=>
      have k1:(n.Kind == 1) = false∧(n.Kind == 2) = false∧(n.Kind == 5) = false:=by
        simp only [leafT,Bool.or_eq_false_iff] at hl
        exact ⟨hl.1.1,hl.1.2,hl.2⟩
      have q:=kfields_ev h n
      have hfs:((fieldsS recs n).getD []).length ≤ 10000000∧∀ x ∈ ((fieldsS recs n).getD []).map tyOf,TyS x:=by
        cases hf:fieldsS recs n with
        | none=>simp
        | some l=>
          obtain ⟨h1,_,h3⟩:=h.fields hf
          refine ⟨h1,fun x hx=>?_⟩
          obtain ⟨p,hp,rfl⟩:=List.mem_map.1 hx
          exact (h3 p hp).ty.2
      obtain ⟨v,r',g1,g2,g3⟩:=zero_loop m (100 - (m:Int)) (fun n hn r a b=>ih (by omega) n hn r a b) (((fieldsS recs n).getD []).map tyOf) (by rw [List.length_map]; exact hfs.1) hfs.2 (100 - ((m + 1:Nat):Int)) hd1 (fieldsS recs n).isSome _ 0 (by rw [Nat.zero_add]) [] (r - 1) (by simp) (by omega) (by omega)
      rw [List.drop_zero] at g1 g3
      have e:leO (cnt recs (m + 1) n) r = (leO (sumO ((((fieldsS recs n).getD []).map tyOf).map (cnt recs m))) (r - 1) && (fieldsS recs n).isSome):=by
        unfold cnt
        rw [hl,if_neg (by simp)]
        cases hf:fieldsS recs n with
        | none=>simp [leO]
        | some l=>simp only [leO_map,map_ty,Option.getD_some,Option.isSome_some,Bool.and_true]
      rw [e]
      refine ⟨v,r',Ev.succ1 ?_,g2,fun c e1 e2=>?_⟩
      · simp only [qR,↓reduceIte,Int.reduceBEq,Int.reduceBNe,Int.reduceLT,Int.reduceLE,Int.reduceGT,Int.reduceGE,kind_zero_of,hw,er,ed,k1.1,k1.2.1,k1.2.2,Ev.bnd q]
        exact Ev.loop g1
      · unfold cnt at e1
        rw [hl,if_neg (by simp)] at e1
        cases hf:fieldsS recs n with
        | none=>rw [hf] at e1; cases e1
        | some l=>
          rw [hf] at e1
          simp only [map_ty] at e1
          rw [hf,Option.getD_some] at g3
          cases e4:sumO ((l.map tyOf).map (cnt recs m)) with
          | none=>rw [e4] at e1; cases e1
          | some c2=>
            rw [e4] at e1
            simp only [Option.map_some,Option.some.injEq] at e1
            rw [g3 c2 e4 (by omega)]; omega
def SzOk (c:Option Nat) (s:Int):Prop:=if leO c 4096 = true then ∃ x,c = some x∧s = x else 4096 < s
theorem size_loop (m:Nat) (deep:Int) (B:Int) (hB:5000 ≤ B) (hB2:B ≤ 5000000) (hz:∀ n,TyS n→∃ s,Ev (fun k=>ref17_size k n recs deep) s∧1 ≤ s∧s ≤ B∧SzOk (cnt recs m n) s)
    (l:List TNode) (hl:l.length ≤ 10000000) (ht:∀ x ∈ l,PaS x) (deep':Int) (hd:IntKind.i64.wrap (deep' + 1) = deep):∀ (d i:Nat),i + d = l.length→∀ (s:Int),1 ≤ s→s ≤ 4096 + B →
    ∃ s',EvL (fun k ((l1_9,l1_10):Int × Int)=>
    if ((decide (l1_10 < (l.length:Int))) && (decide (l1_9 ≤ 4096))) then
    (ix l l1_10).bind fun x10_4=>
    (ix x10_4.Kids 0).bind fun x10_7=>
    (ref17_size k x10_7 recs (IntKind.i64.wrap (deep' + 1))).bind fun x10_12=>
    some (.inl ((IntKind.i64.wrap (l1_9 + x10_12)),(IntKind.i64.wrap (l1_10 + 1))))
    else
    some (.inr l1_9)) (s,(i:Int)) s'∧1 ≤ s'∧s' ≤ 4096 + B∧SzOk ((sumO ((l.drop i).map fun p=>cnt recs m (tyOf p))).map (· + s.toNat)) s'
  | 0,i,h,s,h1,h2=>by
    rw [List.drop_of_length_le (by omega)]
    refine ⟨s,EvL.done ?_,h1,h2,?_⟩
    · simp only [qR,↓reduceIte,Int.reduceBEq,Int.reduceBNe,Int.reduceLT,Int.reduceLE,Int.reduceGT,Int.reduceGE,lt_f (show l.length ≤ i by omega)]
    · unfold SzOk
      have e:((sumO (([]:List TNode).map fun p=>cnt recs m (tyOf p))).map (· + s.toNat)) = some s.toNat:=by simp [sumO]
      rw [e]
      by_cases hs:s ≤ 4096
      · rw [if_pos (by simp only [leO,decide_eq_true_eq]; omega)]
        exact ⟨_,rfl,by omega⟩
      · rw [if_neg (by simp only [leO,decide_eq_true_eq]; omega)]
        omega
  | d + 1,i,h,s,h1,h2=>by
    have hi:i < l.length:=by omega
    by_cases hs:s ≤ 4096
    rotate_left
    · refine ⟨s,EvL.done ?_,h1,h2,?_⟩
      · have e:decide (s ≤ 4096) = false:=by simpa using hs
        simp only [qR,↓reduceIte,Int.reduceBEq,Int.reduceBNe,Int.reduceLT,Int.reduceLE,Int.reduceGT,Int.reduceGE,lt_t hi,e]
      · unfold SzOk
        rw [if_neg ?_]
        · omega
        · cases e:sumO ((l.drop i).map fun p=>cnt recs m (tyOf p)) with
          | none=>simp [leO]
          | some c=>simp only [Option.map_some,leO,decide_eq_true_eq]; omega
    obtain ⟨e1,e2⟩:=(ht l[i] (List.getElem_mem hi)).ty
    obtain ⟨x,q1,q2,q3,q4⟩:=hz (tyOf l[i]) e2
    rw [← hd] at q1
    obtain ⟨s',g1,g2,g3,g4⟩:=size_loop m deep B hB hB2 hz l hl ht deep' hd d (i + 1) (by omega) (s + x) (by omega) (by omega)
    refine ⟨s',EvL.step ?_ g1,g2,g3,?_⟩
    · have e:decide (s ≤ 4096) = true:=by simpa using hs
      simp only [qR,↓reduceIte,Int.reduceBEq,Int.reduceBNe,Int.reduceLT,Int.reduceLE,Int.reduceGT,Int.reduceGE,lt_t hi,e,ix_nat hi,e1,Ev.bnd q1,w_succ (show i ≤ 1000000000 by omega),w64 (show -9223372036854775808 ≤ s + x by omega) (show s + x ≤ 9223372036854775807 by omega)]
    · rw [List.drop_eq_getElem_cons hi,List.map_cons]
      unfold SzOk at q4
      cases ec:cnt recs m (tyOf l[i]) with
      | none=>
        rw [ec] at q4
        have q5:4096 < x:=by simpa [leO] using q4
        have:4096 < s':=by
          unfold SzOk at g4
          split at g4
          · rename_i h5
            obtain ⟨y,e5,e6⟩:=g4
            cases e7:sumO ((l.drop (i + 1)).map fun p=>cnt recs m (tyOf p)) with
            | none=>rw [e7] at e5; cases e5
            | some z=>rw [e7] at e5; simp only [Option.map_some,Option.some.injEq] at e5; omega
          · exact g4
        unfold SzOk
        rw [if_neg (by simp [sumO,leO])]
        exact this
      | some c=>
        rw [ec] at q4
        by_cases hc:(c:Int) ≤ 4096
        · rw [if_pos (by simpa [leO] using hc)] at q4
          obtain ⟨y,e5,rfl⟩:=q4
          cases e5
          have e:((sumO (some c :: (l.drop (i + 1)).map fun p=>cnt recs m (tyOf p))).map (· + s.toNat)) = ((sumO ((l.drop (i + 1)).map fun p=>cnt recs m (tyOf p))).map (· + (s + (c:Int)).toNat)):=by
            simp only [sumO]
            cases sumO ((l.drop (i + 1)).map fun p=>cnt recs m (tyOf p)) with
            | none=>rfl
            | some z=>simp only [Option.map_some,Option.some.injEq]; omega
          rw [e]; exact g4
        · rw [if_neg (by simpa [leO] using hc)] at q4
          have:4096 < s':=by
            unfold SzOk at g4
            split at g4
            · obtain ⟨y,e5,e6⟩:=g4
              cases e7:sumO ((l.drop (i + 1)).map fun p=>cnt recs m (tyOf p)) with
              | none=>rw [e7] at e5; cases e5
              | some z=>rw [e7] at e5; simp only [Option.map_some,Option.some.injEq] at e5; omega
            · exact g4
          unfold SzOk
          rw [if_neg ?_]
          · exact this
          · simp only [sumO]
            cases sumO ((l.drop (i + 1)).map fun p=>cnt recs m (tyOf p)) with
            | none=>simp [leO]
            | some z=>simp only [Option.map_some,leO,decide_eq_true_eq]; omega
theorem SzOk.no {s:Int} (h:4096 < s):SzOk none s:=by unfold SzOk; rw [if_neg (by simp [leO])]; exact h
theorem size_ev (h:RecOk recs):∀ (m:Nat),m ≤ 100→∀ n,TyS n→∃ s,Ev (fun k=>ref17_size k n recs (100 - (m:Int))) s∧1 ≤ s∧s ≤ 5000 + 4096 * (m:Int)∧SzOk (cnt recs m n) s:=by
  intro m
  induction m with
  | zero=>
    intro hm n hn
    cases hl:leafT n with
    | true=>
      refine ⟨1,Ev.succ1 ?_,by omega,by omega,?_⟩
      · have hl':=hl
        unfold leafT at hl'
        simp only [qR,↓reduceIte,Int.reduceBEq,Int.reduceBNe,Int.reduceLT,Int.reduceLE,Int.reduceGT,Int.reduceGE,ref17_size,hl']
      · rw [cnt_leaf hl]
        unfold SzOk
        rw [if_pos (show leO (some 1) 4096 = true from rfl)]
        exact ⟨1,rfl,rfl⟩
    | false=>
      have hc:cnt recs 0 n = none:=by unfold cnt; rw [hl]; rfl
      rw [hc]
      refine ⟨5000,Ev.succ1 ?_,by omega,by omega,SzOk.no (by omega)⟩
      have q:=rec_ev recs h.len n.Name
      unfold leafT at hl
      have e:(((n.Kind != 4) || (!(recS recs n.Name).isSome)) || (decide ((100 - ((0:Nat):Int)) > 99))) = true:=by
        rw [show decide ((100 - ((0:Nat):Int)) > 99) = true from rfl,Bool.or_true]
      simp only [qR,↓reduceIte,Int.reduceBEq,Int.reduceBNe,Int.reduceLT,Int.reduceLE,Int.reduceGT,Int.reduceGE,ref17_size,hl,Ev.bnd q,e]
  | succ m ih=>
    intro hm n hn
    cases hl:leafT n with
    | true=>
      refine ⟨1,Ev.succ1 ?_,by omega,by omega,?_⟩
      · have hl':=hl
        unfold leafT at hl'
        simp only [qR,↓reduceIte,Int.reduceBEq,Int.reduceBNe,Int.reduceLT,Int.reduceLE,Int.reduceGT,Int.reduceGE,ref17_size,hl']
      · rw [cnt_leaf hl]
        unfold SzOk
        rw [if_pos (show leO (some 1) 4096 = true from rfl)]
        exact ⟨1,rfl,rfl⟩
    | false=>
      have q:=rec_ev recs h.len n.Name
      have hl':=hl
      unfold leafT at hl'
      have e9:decide ((100 - ((m + 1:Nat):Int)) > 99) = false:=by simp; omega
      cases hf:fieldsS recs n with
      | none=>
        have hc:cnt recs (m + 1) n = none:=by unfold cnt; rw [hl,hf]; rfl
        rw [hc]
        refine ⟨5000,Ev.succ1 ?_,by omega,by omega,SzOk.no (by omega)⟩
        have e:(((n.Kind != 4) || (!(recS recs n.Name).isSome)) || (decide ((100 - ((m + 1:Nat):Int)) > 99))) = true:=by
          rw [e9,Bool.or_false]
          unfold fieldsS at hf
          by_cases h4:n.Kind = 4
          · rw [if_pos h4] at hf
            cases hr:recS recs n.Name with
            | none=>simp
            | some r=>rw [hr] at hf; cases hf
          · simp [h4]
        simp only [qR,↓reduceIte,Int.reduceBEq,Int.reduceBNe,Int.reduceLT,Int.reduceLE,Int.reduceGT,Int.reduceGE,ref17_size,hl',Ev.bnd q,e]
      | some l=>
        have hc:cnt recs (m + 1) n = (sumO (l.map fun p=>cnt recs m (tyOf p))).map (· + 1):=by
          conv=>lhs; unfold cnt
          rw [hl,hf,if_neg (by simp)]
        obtain ⟨h1,h2,h3⟩:=h.fields hf
        have hd1:IntKind.i64.wrap ((100 - ((m + 1:Nat):Int)) + 1) = 100 - (m:Int):=by rw [w64 (by omega) (by omega)]; omega
        obtain ⟨s,g1,g2,g3,g4⟩:=size_loop m (100 - (m:Int)) (5000 + 4096 * (m:Int)) (by omega) (by omega) (fun n hn=>ih (by omega) n hn) l h1 h3 (100 - ((m + 1:Nat):Int)) hd1 _ 0 (by rw [Nat.zero_add]) 1 (by omega) (by omega)
        rw [List.drop_zero] at g4
        rw [hc]
        refine ⟨s,Ev.succ1 ?_,g2,by omega,g4⟩
        unfold fieldsS at hf
        by_cases h4:n.Kind = 4
        · rw [if_pos h4] at hf
          cases hr:recS recs n.Name with
          | none=>rw [hr] at hf; cases hf
          | some r=>
            rw [hr] at hf q
            cases hf
            have e:(((n.Kind != 4) || (!(some r:Option TNode).isSome)) || (decide ((100 - ((m + 1:Nat):Int)) > 99))) = false:=by
              rw [e9]; simp [h4]
            simp only [qR,↓reduceIte,Int.reduceBEq,Int.reduceBNe,Int.reduceLT,Int.reduceLE,Int.reduceGT,Int.reduceGE,ref17_size,hl',Ev.bnd q,e]
            exact Ev.loop g1
        · rw [if_neg h4] at hf; cases hf
theorem sum_mem:∀ {l:List (Option Nat)} {c:Nat},sumO l = some c→∀ x ∈ l,∃ y,x = some y
  | [],_,_,x,hx=>by simp at hx
  | none :: r,c,h,x,hx=>by cases h
  | some a :: r,c,h,x,hx=>by
    unfold sumO at h
    rcases List.mem_cons.1 hx with rfl | hx
    · exact ⟨a,rfl⟩
    · cases e:sumO r with
      | none=>rw [e] at h; cases h
      | some z=>exact sum_mem e x hx
theorem first_loop (l:List TNode) (hl:l.length ≤ 10000000) (ht:∀ x ∈ l,PaS x) (hv:∀ x ∈ l,∃ v,Ev (fun k=>ref17_first k (tyOf x) recs) v):∀ (d i:Nat),i + d = l.length→∀ (vs:List TValue),vs.length ≤ i →
    ∃ v,EvL (fun k ((l1_bclloc72,l1_8):List TValue × Int)=>
    if (decide (l1_8 < (l.length:Int))) then
    (ix l l1_8).bind fun x12_5=>
    (ix x12_5.Kids 0).bind fun x12_8=>
    (ref17_first k x12_8 recs).bind fun x12_11=>
    if (room 40 (l1_bclloc72.length + [x12_11].length)) then
    some (.inl ((l1_bclloc72 ++ [x12_11]),(IntKind.i64.wrap (l1_8 + 1))))
    else none
    else
    some (.inr (TValue.mk 3 0 l1_bclloc72))) (vs,(i:Int)) v
  | 0,i,h,vs,hs=>⟨_,EvL.done (by simp only [qR,↓reduceIte,Int.reduceBEq,Int.reduceBNe,Int.reduceLT,Int.reduceLE,Int.reduceGT,Int.reduceGE,lt_f (show l.length ≤ i by omega)]; rfl)⟩
  | d + 1,i,h,vs,hs=>by
    have hi:i < l.length:=by omega
    obtain ⟨e1,e2⟩:=(ht l[i] (List.getElem_mem hi)).ty
    obtain ⟨x,q⟩:=hv l[i] (List.getElem_mem hi)
    obtain ⟨v,g⟩:=first_loop l hl ht hv d (i + 1) (by omega) (vs ++ [x]) (by simp; omega)
    refine ⟨v,EvL.step ?_ g⟩
    have hr:room 40 (vs.length + [x].length) = true:=room_of (by omega) (by simp; omega)
    simp only [qR,↓reduceIte,Int.reduceBEq,Int.reduceBNe,Int.reduceLT,Int.reduceLE,Int.reduceGT,Int.reduceGE,lt_t hi,ix_nat hi,e1,Ev.bnd q,hr,w_succ (show i ≤ 1000000000 by omega)]
theorem first_leaf {n:TNode} (hl:leafT n = true):∃ v,Ev (fun k=>ref17_first k n recs) v:=by
  simp only [leafT,Bool.or_eq_true,beq_iff_eq] at hl
  rcases hl with (hk | hk) | hk
  · exact ⟨_,Ev.succ1 (by simp only [qR,↓reduceIte,Int.reduceBEq,Int.reduceBNe,Int.reduceLT,Int.reduceLE,Int.reduceGT,Int.reduceGE,ref17_first,hk]; rfl)⟩
  · exact ⟨_,Ev.succ1 (by simp only [qR,↓reduceIte,Int.reduceBEq,Int.reduceBNe,Int.reduceLT,Int.reduceLE,Int.reduceGT,Int.reduceGE,ref17_first,hk]; rfl)⟩
  · exact ⟨_,Ev.succ1 (by simp only [qR,↓reduceIte,Int.reduceBEq,Int.reduceBNe,Int.reduceLT,Int.reduceLE,Int.reduceGT,Int.reduceGE,ref17_first,hk]; rfl)⟩
theorem first_ev (h:RecOk recs):∀ (m:Nat) (n:TNode),TyS n→∀ c,cnt recs m n = some c→∃ v,Ev (fun k=>ref17_first k n recs) v:=by
  intro m
  induction m with
  | zero=>
    intro n hn c hc
    cases hl:leafT n with
    | true=>exact first_leaf hl
    | false=>unfold cnt at hc; rw [hl] at hc; cases hc
  | succ m ih=>
    intro n hn c hc
    cases hl:leafT n with
    | true=>exact first_leaf hl
    | false=>
      unfold cnt at hc
      rw [hl,if_neg (by simp)] at hc
      cases hf:fieldsS recs n with
      | none=>rw [hf] at hc; cases hc
      | some l=>
        rw [hf] at hc
        obtain ⟨h1,h2,h3⟩:=h.fields hf
        cases es:sumO (l.map fun p=>cnt recs m (tyOf p)) with
        | none=>simp only [es] at hc; cases hc
        | some z=>
        have hv:∀ x ∈ l,∃ v,Ev (fun k=>ref17_first k (tyOf x) recs) v:=fun x hx=>by
          obtain ⟨y,hy⟩:=sum_mem es (cnt recs m (tyOf x)) (List.mem_map.2 ⟨x,hx,rfl⟩)
          exact ih (tyOf x) (h3 x hx).ty.2 y hy
        obtain ⟨v,g⟩:=first_loop l h1 h3 hv _ 0 (by rw [Nat.zero_add]) [] (by simp)
        have q:=rec_ev recs h.len n.Name
        have k1:(n.Kind == 1) = false∧(n.Kind == 2) = false∧(n.Kind == 5) = false:=by
          simp only [leafT,Bool.or_eq_false_iff] at hl
          exact ⟨hl.1.1,hl.1.2,hl.2⟩
        unfold fieldsS at hf
        by_cases h4:n.Kind = 4
        · rw [if_pos h4] at hf
          cases hr:recS recs n.Name with
          | none=>rw [hr] at hf; cases hf
          | some r=>
            rw [hr] at hf q
            cases hf
            refine ⟨v,Ev.succ1 ?_⟩
            simp only [qR,↓reduceIte,Int.reduceBEq,Int.reduceBNe,Int.reduceLT,Int.reduceLE,Int.reduceGT,Int.reduceGE,ref17_first,k1.1,k1.2.1,k1.2.2,Ev.bnd q]
            exact Ev.loop g
        · rw [if_neg h4] at hf; cases hf
def zok (recs:List TNode) (n:TNode):Bool:=leO (cnt recs 100 n) 4096
theorem zero_ref (h:RecOk recs) {n:TNode} (hn:TyS n):∃ v,Ev (fun k=>ref17_Zero k n recs) (v,zok recs n):=by
  obtain ⟨s,q,h1,h2,h3⟩:=size_ev h 100 (Nat.le_refl _) n hn
  have q:Ev (fun k=>ref17_size k n recs 0) s:=q
  unfold SzOk at h3
  unfold zok
  cases hz:leO (cnt recs 100 n) 4096 with
  | true=>
    rw [if_pos hz] at h3
    obtain ⟨c,hc,rfl⟩:=h3
    obtain ⟨v,g⟩:=first_ev h 100 n hn c hc
    have e:decide ((c:Int) > 4096) = false:=by
      rw [hc] at hz
      simp only [leO,decide_eq_true_eq] at hz
      simp; omega
    exact ⟨v,by simp only [qR,↓reduceIte,Int.reduceBEq,Int.reduceBNe,Int.reduceLT,Int.reduceLE,Int.reduceGT,Int.reduceGE,ref17_Zero,Ev.bnd q,e,Ev.bnd g]⟩
  | false=>
    rw [if_neg (by rw [hz]; simp)] at h3
    have e:decide (s > 4096) = true:=by simpa using h3
    exact ⟨TValue.mk 0 0 [],by simp only [qR,↓reduceIte,Int.reduceBEq,Int.reduceBNe,Int.reduceLT,Int.reduceLE,Int.reduceGT,Int.reduceGE,ref17_Zero,Ev.bnd q,e]⟩
theorem zero_imp (h:RecOk recs) {n:TNode} (hn:TyS n):∃ v,Ev (fun k=>kind_Zero k n recs) (v,zok recs n):=by
  obtain ⟨v,r',q,_,_⟩:=zero_ev h 100 (Nat.le_refl _) n hn 4096 (by omega) (by omega)
  have q:Ev (fun k=>kind_zero_of k n 0 recs 4096) (v,zok recs n,r'):=q
  exact ⟨v,by simp only [qR,↓reduceIte,Int.reduceBEq,Int.reduceBNe,Int.reduceLT,Int.reduceLE,Int.reduceGT,Int.reduceGE,kind_Zero,Ev.bnd q]⟩
end Go.Proofs.YtjojaiomgdjhfaaGreatDoor.F
namespace Go.Proofs.YtjojaiomgdjhfaaGreatDoor.F
open Go
def hd0 (l:List TNode):TNode:=match l with | x :: _=>x | []=>TNode.mk 0 0 0 [] []
def parOne (ds recs l:List TNode) (c:Int) (i:Nat) (p:TNode):Int × Int :=
  if (hasN (l.take i) p.Name || (c != 51 && glb ds p.Name)) = true then (p.At,6) else
  if (typS recs (tyOf p) (c == 53)).2 ≠ 0 then typS recs (tyOf p) (c == 53) else
  if ((c == 54) && !sameS (tyOf p) (tyOf (hd0 l))) = true then (p.At,7) else (0,0)
def parGo (ds recs l:List TNode) (c:Int):List TNode→Nat→Int × Int
  | [],_=>(0,0)
  | p :: r,i=>if (parOne ds recs l c i p).2 ≠ 0 then parOne ds recs l c i p else parGo ds recs l c r (i + 1)
def parS (ds recs l:List TNode) (c:Int):Int × Int:=parGo ds recs l c l 0
theorem twice_loop {ρ:Type} (l:List TNode) (i:Nat) (hi:i < l.length) (hl:l.length ≤ 10000000) (J:Nat→Option (Int ⊕ ρ)) (y:TNode→ρ) {no:Int ⊕ ρ} (hJ:hasN (l.take i) l[i].Name = false→Ev J no) :
    ∀ (d j:Nat),j + d = i→hasN (l.take j) l[i].Name = false→EvL (fun k (l3_10:Int)=>
    if (decide (l3_10 < (i:Int))) then
    (ix l l3_10).bind fun x7_2=>
    (ix l (i:Int)).bind fun x7_7=>
    if (x7_2.Name == x7_7.Name) then
    (ix l (i:Int)).bind fun x8_2=>
    some (.inr (.inr (y x8_2)))
    else
    some (.inl (IntKind.i64.wrap (l3_10 + 1)))
    else
    (J k).map .inr) (j:Int) (if hasN (l.take i) l[i].Name = true then .inr (y l[i]) else no)
  | 0,j,h,hn=>by
    obtain rfl:j = i:=by omega
    rw [hn]
    refine EvL.done ?_
    simp only [qR,↓reduceIte,Int.reduceBEq,Int.reduceBNe,Int.reduceLT,Int.reduceLE,Int.reduceGT,Int.reduceGE,lt_f (Nat.le_refl j)]
    exact Ev.map (hJ hn)
  | d + 1,j,h,hn=>by
    have hj:j < i:=by omega
    cases hc:l[j].Name == l[i].Name with
    | true=>
      have e:hasN (l.take i) l[i].Name = true:=List.any_eq_true.2 ⟨l[j],List.mem_take_iff_getElem.2 ⟨j,by omega,rfl⟩,hc⟩
      rw [e]
      refine EvL.done ?_
      simp only [qR,↓reduceIte,Int.reduceBEq,Int.reduceBNe,Int.reduceLT,Int.reduceLE,Int.reduceGT,Int.reduceGE,lt_t hj,ix_nat (show j < l.length by omega),ix_nat hi,hc]
    | false=>
      refine EvL.step (s':=((j + 1:Nat):Int)) ?_ (twice_loop l i hi hl J y hJ d (j + 1) (by omega) ?_)
      · simp only [qR,↓reduceIte,Int.reduceBEq,Int.reduceBNe,Int.reduceLT,Int.reduceLE,Int.reduceGT,Int.reduceGE,lt_t hj,ix_nat (show j < l.length by omega),ix_nat hi,hc,w_succ (show j ≤ 1000000000 by omega)]
      · unfold hasN at hn ⊢
        rw [List.take_succ_eq_append_getElem (show j < l.length by omega),List.any_append,hn,Bool.false_or,List.any_cons,hc]; rfl
structure ParOk (l:List TNode):Prop where
  len:l.length ≤ 10000000
  pas:∀ p ∈ l,PaS p
  bd:∀ p ∈ l,Bd p
theorem Bd.ty {p:TNode} (h:Bd p):Bd (tyOf p):=by
  obtain ⟨kd,a,n,s,l⟩:=p
  unfold tyOf
  cases l with
  | nil=>exact Bd.mk 0 0 0 [] [] (by simp) (by simp)
  | cons x r=>exact h.kid x (by simp)
theorem head_ix {l:List TNode} (h:0 < l.length):ix l 0 = some (hd0 l):=by
  cases l with
  | nil=>simp at h
  | cons x r=>rfl
theorem bne_dec (a:Int):(a != 0) = !decide (a = 0):=by by_cases h:a = 0 <;> simp [h]
theorem params_ref {p m:TNode} {ds:List TNode} (hp:p.Kids = ds ++ [m]) (hld:ds.length ≤ 10000000) (recs:List TNode) (hlr:recs.length ≤ 10000000) (l:List TNode) (h:ParOk l) (c:Int) :
    Ev (fun k=>ref18_params k p l recs c) (Tref18_Fault.mk (parS ds recs l c).1 (parS ds recs l c).2):=by
  have hl:=h.len
  simp only [ref18_params,joinK]
  refine Ev.loop (forI l (fun r i=>Tref18_Fault.mk (parGo ds recs l c r i).1 (parGo ds recs l c r i).2) (fun i hi=>?_) ?_)
  · have hpi:=h.pas l[i] (List.getElem_mem hi)
    have hbi:=h.bd l[i] (List.getElem_mem hi)
    have h0:=head_ix (show 0 < l.length by omega)
    have hp0:PaS (hd0 l):=by
      cases l with
      | nil=>simp at hi
      | cons x r=>exact h.pas x (by simp)
    have hix:=ix_nat hi
    have qt:=typed_ref hpi.ty.2 recs hlr (c == 53)
    have qs:=same_ref hbi.ty (tyOf (hd0 l))
    have qg:=global_ref hp hld l[i].Name
    have hw:=w_succ (show i ≤ 1000000000 by omega)
    refine step_or ((parOne ds recs l c i l[i]).2 != 0) (Tref18_Fault.mk (parOne ds recs l c i l[i]).1 (parOne ds recs l c i l[i]).2) ?_ (fun e=>by rw [parGo,if_pos (by simpa using e)]) (fun e=>by rw [parGo,if_neg (by simpa using e)])
    refine Ev.ite_t (lt_t hi) (Ev.loop (EvL.cast (twice_loop l i hi hl _ (fun z=>Tref18_Fault.mk z.At 6) (no:=(if ((parOne ds recs l c i l[i]).2 != 0) = true then .inr (Tref18_Fault.mk (parOne ds recs l c i l[i]).1 (parOne ds recs l c i l[i]).2) else .inl ((i + 1:Nat):Int))) ?_ i 0 (by omega) (by simp [hasN])) ?_))
    rotate_left
    · cases hh:hasN (l.take i) l[i].Name with
      | false=>simp
      | true=>simp [parOne,hh]
    intro hn
    cases h51:(c != 51) <;> cases hg:glb ds l[i].Name <;> by_cases ht:(typS recs (tyOf l[i]) (c == 53)).2 = 0 <;> cases h54:(c == 54) <;> cases hs:sameS (tyOf l[i]) (tyOf (hd0 l))
    all_goals
      have e:((typS recs (tyOf l[i]) (c == 53)).2 != 0) = !decide ((typS recs (tyOf l[i]) (c == 53)).2 = 0):=bne_dec _
      simp only [qR,↓reduceIte,Int.reduceBEq,Int.reduceBNe,Int.reduceLT,Int.reduceLE,Int.reduceGT,Int.reduceGE,hix,Ev.bnd qg,hg,hpi.ty.1,Ev.bnd qt,e,ht,h0,hp0.ty.1,Ev.bnd qs,hs,hw]
      simp [parOne,hn,h51,hg,ht,h54,hs]
  · simp only [qR,↓reduceIte,Int.reduceBEq,Int.reduceBNe,Int.reduceLT,Int.reduceLE,Int.reduceGT,Int.reduceGE,lt_f (Nat.le_refl l.length)]; rfl
theorem has3 (l:List TNode) (hl:l.length ≤ 10000000) (o:TNode):Ev (fun k=>slices_ContainsFunc_Node_v3 k l o) (hasN l o.Name):=by
  obtain ⟨r,r1,r2⟩:=idxf (fun k x=>decl_Table_params_1 k x o) l (by omega) (fun x=>x.Name == o.Name) (fun x hx=>by simp only [qR,↓reduceIte,Int.reduceBEq,Int.reduceBNe,Int.reduceLT,Int.reduceLE,Int.reduceGT,Int.reduceGE,decl_Table_params_1]) l.length 0 (by omega)
  rw [List.drop_zero] at r2
  have h1:Ev (fun k=>slices_IndexFunc_Node_v3 k l o) r:=by
    simp only [slices_IndexFunc_Node_v3,joinK]
    exact Ev.loop r1
  simp only [qR,↓reduceIte,Int.reduceBEq,Int.reduceBNe,Int.reduceLT,Int.reduceLE,Int.reduceGT,Int.reduceGE,slices_ContainsFunc_Node_v3,Ev.bnd h1,r2,hasN]
theorem sub_take {α:Type} (l:List α) {i:Nat} (h:i ≤ l.length):sub l 0 (i:Int) = some (l.take i):=by
  unfold sub; rw [if_pos (by omega)]; simp
theorem params_imp {all:List (Int × Tdecl_kinds)} {ds:List TNode} (htab:TabOk all ds) (recs:List TNode) (hlr:recs.length ≤ 10000000) (l:List TNode) (h:ParOk l) (c:Int) (prog:TNode) (locs:Int) (b0:List Int) :
    Ev (fun k=>decl_Table_params k l recs c all prog locs b0) (parS ds recs l c):=by
  have hl:=h.len
  simp only [decl_Table_params,joinK]
  refine Ev.loop (forI l (fun r i=>parGo ds recs l c r i) (fun i hi=>?_) ?_)
  · have hpi:=h.pas l[i] (List.getElem_mem hi)
    have hbi:=h.bd l[i] (List.getElem_mem hi)
    have h0:=head_ix (show 0 < l.length by omega)
    have hp0:PaS (hd0 l):=by
      cases l with
      | nil=>simp at hi
      | cons x r=>exact h.pas x (by simp)
    have hix:=ix_nat hi
    have hsub:=sub_take l (show i ≤ l.length by omega)
    have qh:=has3 (l.take i) (by rw [List.length_take]; omega) l[i]
    have qt:=typed_imp hpi.ty.2 recs hlr (c == 53)
    have qs:=same_imp hbi.ty (tyOf (hd0 l))
    have qg:=global_imp htab l[i].Name prog locs b0
    have hw:=w_succ (show i ≤ 1000000000 by omega)
    refine step_or ((parOne ds recs l c i l[i]).2 != 0) (parOne ds recs l c i l[i]) ?_ (fun e=>by rw [parGo,if_pos (by simpa using e)]) (fun e=>by rw [parGo,if_neg (by simpa using e)])
    refine Ev.ite_t (lt_t hi) ?_
    cases hn:hasN (l.take i) l[i].Name <;> cases h51:(c != 51) <;> cases hg:glb ds l[i].Name <;> by_cases ht:(typS recs (tyOf l[i]) (c == 53)).2 = 0 <;> cases h54:(c == 54) <;> cases hs:sameS (tyOf l[i]) (tyOf (hd0 l))
    all_goals
      have e:((typS recs (tyOf l[i]) (c == 53)).2 != 0) = !decide ((typS recs (tyOf l[i]) (c == 53)).2 = 0):=bne_dec _
      simp only [qR,↓reduceIte,Int.reduceBEq,Int.reduceBNe,Int.reduceLT,Int.reduceLE,Int.reduceGT,Int.reduceGE,hix,hsub,Ev.bnd qh,hn,Ev.bnd qg,hg,hpi.ty.1,Ev.bnd qt,e,ht,h0,hp0.ty.1,Ev.bnd qs,hs,hw]
      simp [parOne,hn,h51,hg,ht,h54,hs]
  · simp only [qR,↓reduceIte,Int.reduceBEq,Int.reduceBNe,Int.reduceLT,Int.reduceLE,Int.reduceGT,Int.reduceGE,lt_f (Nat.le_refl l.length)]; rfl
end Go.Proofs.YtjojaiomgdjhfaaGreatDoor.F
namespace Go.Proofs.YtjojaiomgdjhfaaGreatDoor.F
open Go
structure DsOk (ds:List TNode):Prop where
  len:ds.length ≤ 10000000
  des:∀ d ∈ ds,DeS d
  bd:∀ d ∈ ds,Bd d
theorem DsOk.four {ds:List TNode} (h:DsOk ds):∀ d ∈ ds,d.Kind = 51 ∨ d.Kind = 52 ∨ d.Kind = 53 ∨ d.Kind = 54:=fun d hd=>(h.des d hd).four
theorem DsOk.recs {ds:List TNode} (h:DsOk ds):RecOk (dk ds 51):=by
  refine ⟨by have:=dk_len ds 51; have:=h.len; omega,fun r hr=>?_⟩
  obtain ⟨hr,hk⟩:=(dk_mem (by decide)).1 hr
  have hb:=h.bd r hr
  cases h.des r hr with
  | recd a s l h0 hp=>exact ⟨hb.len,h0,hp⟩
  | iso1=>cases hk
  | iso2=>cases hk
  | fn=>cases hk
  | mrg=>cases hk
def lsum (l:List TNode):Int:=(l.map fun d=>max 1 (min d.N 1000000)).sum
theorem lsum_snoc (l:List TNode) (d:TNode):lsum (l ++ [d]) = lsum l + max 1 (min d.N 1000000):=by simp [lsum,List.sum_append]
theorem lsum_bd:∀ l:List TNode,0 ≤ lsum l∧lsum l ≤ 1000000 * (l.length:Int)
  | []=>by simp [lsum]
  | x :: r=>by
    have h:=lsum_bd r
    have e:lsum (x :: r) = max 1 (min x.N 1000000) + lsum r:=by simp [lsum]
    rw [e,List.length_cons]
    omega
theorem locs_loop (l:List TNode) (hl:l.length ≤ 10000000) (n:Nat):∀ (d i:Nat),i + d = min n l.length→EvL (fun (k:Nat) ((l1_5,l1_7):Int × Int)=>
    if ((decide (l1_7 < (n:Int))) && (decide (l1_7 < (l.length:Int)))) then
    (ix l l1_7).bind fun x6_3=>
    some (.inl ((IntKind.i64.wrap (l1_5 + (mx 1 (mn x6_3.N 1000000)))),(IntKind.i64.wrap (l1_7 + 1))))
    else
    some (.inr l1_5)) (lsum (l.take i),(i:Int)) (lsum (l.take n))
  | 0,i,h=>by
    refine EvL.done ?_
    have e:((decide ((i:Int) < (n:Int))) && (decide ((i:Int) < (l.length:Int)))) = false:=by
      simp only [Bool.and_eq_false_iff,decide_eq_false_iff_not]; omega
    have e2:l.take i = l.take n:=by
      by_cases hn:n ≤ l.length
      · rw [show i = n by omega]
      · rw [List.take_of_length_le (show l.length ≤ i by omega),List.take_of_length_le (by omega)]
    simp only [qR,↓reduceIte,Int.reduceBEq,Int.reduceBNe,Int.reduceLT,Int.reduceLE,Int.reduceGT,Int.reduceGE,e,e2]
  | d + 1,i,h=>by
    have hi:i < l.length:=by omega
    have hn:i < n:=by omega
    refine EvL.step (s':=(lsum (l.take (i + 1)),((i + 1:Nat):Int))) ?_ (locs_loop l hl n d (i + 1) (by omega))
    have hb:=lsum_bd (l.take (i + 1))
    rw [List.length_take,show min (i + 1) l.length = i + 1 by omega] at hb
    have e2:l.take (i + 1) = l.take i ++ [l[i]]:=List.take_succ_eq_append_getElem hi
    have hw:IntKind.i64.wrap (lsum (l.take i) + mx 1 (mn l[i].N 1000000)) = lsum (l.take (i + 1)):=by
      rw [mx_eq,mn_eq,e2,lsum_snoc]
      rw [e2,lsum_snoc] at hb
      rw [w64 (by omega) (by omega)]
    simp only [qR,↓reduceIte,Int.reduceBEq,Int.reduceBNe,Int.reduceLT,Int.reduceLE,Int.reduceGT,Int.reduceGE,lt_t hi,lt_t hn,ix_nat hi,w_succ (show i ≤ 1000000000 by omega),hw]
theorem locs_ev {p m:TNode} {ds:List TNode} (hp:p.Kids = ds ++ [m]) (hl:ds.length ≤ 10000000) (n:Nat):Ev (fun k=>ref18_Locs k p (n:Int)) (lsum ((dk ds 52).take n)):=by
  have hlen:(dk ds 52).length ≤ 10000000:=by have:=dk_len ds 52; omega
  simp only [qR,↓reduceIte,Int.reduceBEq,Int.reduceBNe,Int.reduceLT,Int.reduceLE,Int.reduceGT,Int.reduceGE,ref18_Locs,Ev.bnd (decls_ev hp hl 52)]
  exact Ev.loop (locs_loop (dk ds 52) hlen n _ 0 (by rw [Nat.zero_add]))
def mgS (ds:List TNode) (s:List UInt8):TNode:=(recS (dk ds 54) s).getD (TNode.mk 0 0 0 [] [])
def isoOne (ds:List TNode) (d:TNode) (sum:Int):Int × Int :=
  if (typS (dk ds 51) (tyOf d) false).2 ≠ 0 then typS (dk ds 51) (tyOf d) false
  else if d.N > 64 then (d.At,2)
  else if ((!zok (dk ds 51) (tyOf d)) || decide (sum > 256)) = true then (d.At,13)
  else match d.Kids with
    | _ :: m :: _=>if hasN (dk ds 54) m.Name = false then (m.At,5) else if sameS (tyOf (tyOf (mgS ds m.Name))) (tyOf d) = false then (m.At,7) else (0,0)
    | _=>(0,0)
theorem mg_of {ds:List TNode} (h:DsOk ds) {s:List UInt8} (hs:hasN (dk ds 54) s = true):ix (dk ds 54) (fI (dk ds 54) s) = some (mgS ds s)∧0 ≤ fI (dk ds 54) s∧ix (mgS ds s).Kids 0 = some (tyOf (mgS ds s))∧PaS (tyOf (mgS ds s))∧Bd (tyOf (tyOf (mgS ds s))):=by
  rw [← recS_isSome] at hs
  rcases fI_rec (dk ds 54) s with ⟨e,_⟩ | ⟨r,e,e1,e2⟩
  · rw [e] at hs; cases hs
  have em:mgS ds s = r:=by unfold mgS; rw [e]; rfl
  rw [em]
  obtain ⟨hr,hk⟩:=(dk_mem (by decide)).1 (List.mem_of_find?_eq_some e)
  have hb:=h.bd r hr
  refine ⟨e2,e1,?_⟩
  cases h.des r hr with
  | recd a s l h0 hp=>cases hk
  | iso1=>cases hk
  | iso2=>cases hk
  | fn=>cases hk
  | mrg a s x y z b hx hy hz hbk=>exact ⟨rfl,hx,(hb.ty).ty⟩
theorem hasN_fI (l:List TNode) (s:List UInt8):decide (fI l s < 0) = !hasN l s:=by
  have:=fI_ge l s
  unfold hasN
  rw [← this]
  by_cases h:fI l s < 0
  · rw [decide_eq_true h,decide_eq_false (by omega)]; rfl
  · rw [decide_eq_false h,decide_eq_true (by omega)]; rfl
theorem DeS.iso {d:TNode} (h:DeS d) (hk:d.Kind = 52):ix d.Kids 0 = some (tyOf d)∧TyS (tyOf d)∧0 ≤ d.N∧((∃ t,d.Kids = [t]) ∨ ∃ t m,d.Kids = [t,m]):=by
  cases h with
  | recd a s l h0 hp=>cases hk
  | iso1 a n s t hn ht=>exact ⟨rfl,ht,hn,.inl ⟨t,rfl⟩⟩
  | iso2 a n s t m hn ht=>exact ⟨rfl,ht,hn,.inr ⟨t,m,rfl⟩⟩
  | fn=>cases hk
  | mrg=>cases hk
theorem iso_ref {p m:TNode} {ds:List TNode} (hp:p.Kids = ds ++ [m]) (h:DsOk ds) {d:TNode} (hd:d ∈ ds) (hk:d.Kind = 52) (n:Nat) (hn:n ≤ 10000000) :
    Ev (fun k=>ref18_iso k p d (n:Int)) (Tref18_Fault.mk (isoOne ds d (lsum ((dk ds 52).take (n + 1)))).1 (isoOne ds d (lsum ((dk ds 52).take (n + 1)))).2):=by
  have hrl:=h.recs.len
  obtain ⟨h0,ht,hN,hkids⟩:=(h.des d hd).iso hk
  have q1:=decls_ev hp h.len 51
  have qt:=typed_ref ht (dk ds 51) hrl false
  obtain ⟨v,qz⟩:=zero_ref h.recs ht
  have ql:=locs_ev hp h.len (n + 1)
  have q54:=decls_ev hp h.len 54
  have hw:=w_succ (show n ≤ 1000000000 by omega)
  by_cases ht0:(typS (dk ds 51) (tyOf d) false).2 = 0
  rotate_left
  · have e:((typS (dk ds 51) (tyOf d) false).2 != 0) = true:=by simpa using ht0
    unfold isoOne
    rw [if_pos ht0]
    simp only [qR,↓reduceIte,Int.reduceBEq,Int.reduceBNe,Int.reduceLT,Int.reduceLE,Int.reduceGT,Int.reduceGE,ref18_iso,Ev.bnd q1,h0,Ev.bnd qt,e]
  have e0:((typS (dk ds 51) (tyOf d) false).2 != 0) = false:=by simpa using ht0
  by_cases h64:d.N > 64
  · have e:decide (d.N > 64) = true:=by simpa using h64
    unfold isoOne
    rw [if_neg (by simpa using ht0),if_pos h64]
    simp only [qR,↓reduceIte,Int.reduceBEq,Int.reduceBNe,Int.reduceLT,Int.reduceLE,Int.reduceGT,Int.reduceGE,ref18_iso,Ev.bnd q1,h0,Ev.bnd qt,e0,e]
  have e64:decide (d.N > 64) = false:=by simpa using h64
  cases hz:zok (dk ds 51) (tyOf d) with
  | false=>
    unfold isoOne
    rw [if_neg (by simpa using ht0),if_neg h64,hz]
    simp only [qR,↓reduceIte,Int.reduceBEq,Int.reduceBNe,Int.reduceLT,Int.reduceLE,Int.reduceGT,Int.reduceGE,ref18_iso,Ev.bnd q1,h0,Ev.bnd qt,e0,e64,Ev.bnd qz,hz]
  | true=>
  cases hs:decide (lsum ((dk ds 52).take (n + 1)) > 256) with
  | true=>
    unfold isoOne
    rw [if_neg (by simpa using ht0),if_neg h64,hz,hs]
    simp only [qR,↓reduceIte,Int.reduceBEq,Int.reduceBNe,Int.reduceLT,Int.reduceLE,Int.reduceGT,Int.reduceGE,ref18_iso,Ev.bnd q1,h0,Ev.bnd qt,e0,e64,Ev.bnd qz,hz,hw,Ev.bnd ql,hs]
  | false=>
  unfold isoOne
  rw [if_neg (by simpa using ht0),if_neg h64,hz,hs]
  rcases hkids with ⟨t,hkd⟩ | ⟨t,mm,hkd⟩
  · have h0':=h0
    rw [hkd] at h0'
    simp only [hkd]
    simp only [qR,↓reduceIte,Int.reduceBEq,Int.reduceBNe,Int.reduceLT,Int.reduceLE,Int.reduceGT,Int.reduceGE,ref18_iso,Ev.bnd q1,h0,h0',Ev.bnd qt,e0,e64,Ev.bnd qz,hz,hw,Ev.bnd ql,hs,hkd]
  · have h0':=h0
    rw [hkd] at h0'
    simp only [hkd]
    have qf:=find_ev hp h.len 54 mm.Name
    have e5:=hasN_fI (dk ds 54) mm.Name
    cases hm:hasN (dk ds 54) mm.Name with
    | false=>
      rw [hm] at e5
      simp only [qR,↓reduceIte,Int.reduceBEq,Int.reduceBNe,Int.reduceLT,Int.reduceLE,Int.reduceGT,Int.reduceGE,ref18_iso,Ev.bnd q1,h0,h0',Ev.bnd qt,e0,e64,Ev.bnd qz,hz,hw,Ev.bnd ql,hs,hkd,Ev.bnd qf,e5]
    | true=>
      rw [hm] at e5
      obtain ⟨g1,g2,g3,g4,g5⟩:=mg_of h hm
      have qs:=same_ref g5 (tyOf d)
      cases hsm:sameS (tyOf (tyOf (mgS ds mm.Name))) (tyOf d) with
      | false=>
        simp only [qR,↓reduceIte,Int.reduceBEq,Int.reduceBNe,Int.reduceLT,Int.reduceLE,Int.reduceGT,Int.reduceGE,ref18_iso,Ev.bnd q1,h0,h0',Ev.bnd qt,e0,e64,Ev.bnd qz,hz,hw,Ev.bnd ql,hs,hkd,Ev.bnd qf,e5,Ev.bnd q54,g1,g3,g4.ty.1,Ev.bnd qs,hsm]
        simp
      | true=>
        simp only [qR,↓reduceIte,Int.reduceBEq,Int.reduceBNe,Int.reduceLT,Int.reduceLE,Int.reduceGT,Int.reduceGE,ref18_iso,Ev.bnd q1,h0,h0',Ev.bnd qt,e0,e64,Ev.bnd qz,hz,hw,Ev.bnd ql,hs,hkd,Ev.bnd qf,e5,Ev.bnd q54,g1,g3,g4.ty.1,Ev.bnd qs,hsm]
        simp
theorem iso_imp {all:List (Int × Tdecl_kinds)} {ds:List TNode} (htab:TabOk all ds) (h:DsOk ds) {d:TNode} (hd:d ∈ ds) (hk:d.Kind = 52) (prog:TNode) (locs:Int) (b0:List Int) (h0l:0 ≤ locs) (hl2:locs ≤ 1000) (hb:b0.length ≤ 10000000) :
    ∃ b' l',Ev (fun k=>decl_Table_iso k d all prog locs b0) (b',(isoOne ds d (locs + max 1 (min d.N 1000000))).1,(isoOne ds d (locs + max 1 (min d.N 1000000))).2,l')∧((isoOne ds d (locs + max 1 (min d.N 1000000))).2 = 0→b' = b0 ++ [locs]∧l' = locs + max 1 (min d.N 1000000)∧l' ≤ 256):=by
  have hrl:=h.recs.len
  obtain ⟨h0,ht,hN,hkids⟩:=(h.des d hd).iso hk
  have q1:=fun k locs b0=>recs_ev htab h.len k prog locs b0
  have qt:=typed_imp ht (dk ds 51) hrl false
  obtain ⟨v,qz⟩:=zero_imp h.recs ht
  by_cases ht0:(typS (dk ds 51) (tyOf d) false).2 = 0
  rotate_left
  · have e:((typS (dk ds 51) (tyOf d) false).2 != 0) = true:=by simpa using ht0
    have ei:∀ s,isoOne ds d s = typS (dk ds 51) (tyOf d) false:=fun s=>by unfold isoOne; rw [if_pos ht0]
    rw [ei]
    refine ⟨b0,locs,?_,fun h=>absurd h ht0⟩
    simp only [qR,↓reduceIte,Int.reduceBEq,Int.reduceBNe,Int.reduceLT,Int.reduceLE,Int.reduceGT,Int.reduceGE,decl_Table_iso,q1,h0,Ev.bnd qt,e]
  have e0:((typS (dk ds 51) (tyOf d) false).2 != 0) = false:=by simpa using ht0
  by_cases h64:d.N > 64
  · have e:decide (d.N > 64) = true:=by simpa using h64
    have ei:∀ s,isoOne ds d s = (d.At,2):=fun s=>by unfold isoOne; rw [if_neg (by simpa using ht0),if_pos h64]
    rw [ei]
    refine ⟨b0,locs,?_,fun h=>by cases h⟩
    simp only [qR,↓reduceIte,Int.reduceBEq,Int.reduceBNe,Int.reduceLT,Int.reduceLE,Int.reduceGT,Int.reduceGE,decl_Table_iso,q1,h0,Ev.bnd qt,e0,e]
  have e64:decide (d.N > 64) = false:=by simpa using h64
  have hm1:max 1 (min d.N 1000000) = mx 1 d.N:=by rw [mx_eq]; omega
  rw [hm1]
  have hmb:1 ≤ mx 1 d.N∧mx 1 d.N ≤ 64:=by rw [mx_eq]; omega
  have hw:IntKind.i64.wrap (locs + mx 1 d.N) = locs + mx 1 d.N:=w64 (by omega) (by omega)
  have hr:room 8 (b0.length + [locs].length) = true:=room_of (by omega) (by simp; omega)
  generalize hS:locs + mx 1 d.N = S at hw
  cases hz:zok (dk ds 51) (tyOf d) with
  | false=>
    have ei:isoOne ds d S = (d.At,13):=by unfold isoOne; rw [if_neg (by simpa using ht0),if_neg h64,hz]; rfl
    rw [ei]
    refine ⟨b0 ++ [locs],S,?_,fun h=>by cases h⟩
    simp only [qR,↓reduceIte,Int.reduceBEq,Int.reduceBNe,Int.reduceLT,Int.reduceLE,Int.reduceGT,Int.reduceGE,decl_Table_iso,q1,h0,Ev.bnd qt,e0,e64,hr,hS,hw,Ev.bnd qz,hz]
  | true=>
  cases hs:decide (S > 256) with
  | true=>
    have ei:isoOne ds d S = (d.At,13):=by unfold isoOne; rw [if_neg (by simpa using ht0),if_neg h64,hz,hs]; rfl
    rw [ei]
    refine ⟨b0 ++ [locs],S,?_,fun h=>by cases h⟩
    simp only [qR,↓reduceIte,Int.reduceBEq,Int.reduceBNe,Int.reduceLT,Int.reduceLE,Int.reduceGT,Int.reduceGE,decl_Table_iso,q1,h0,Ev.bnd qt,e0,e64,hr,hS,hw,Ev.bnd qz,hz,hs]
  | false=>
  have hs2:S ≤ 256:=by simpa using hs
  rcases hkids with ⟨t,hkd⟩ | ⟨t,mm,hkd⟩
  · have ei:isoOne ds d S = (0,0):=by unfold isoOne; rw [if_neg (by simpa using ht0),if_neg h64,hz,hs]; simp [hkd]
    rw [ei]
    have h0':=h0
    rw [hkd] at h0'
    refine ⟨b0 ++ [locs],S,?_,fun _=>⟨rfl,rfl,hs2⟩⟩
    simp only [qR,↓reduceIte,Int.reduceBEq,Int.reduceBNe,Int.reduceLT,Int.reduceLE,Int.reduceGT,Int.reduceGE,decl_Table_iso,q1,h0,h0',Ev.bnd qt,e0,e64,hr,hS,hw,Ev.bnd qz,hz,hs,hkd]
  · have h0':=h0
    rw [hkd] at h0'
    obtain ⟨o,ho,hmo⟩:=htab.get 54 (by simp)
    cases hm:hasN (dk ds 54) mm.Name with
    | false=>
      have ei:isoOne ds d S = (mm.At,5):=by unfold isoOne; rw [if_neg (by simpa using ht0),if_neg h64,hz,hs]; simp [hkd,hm]
      rw [ei]
      obtain ⟨nn,g1,_⟩:=merge_ev htab 0 mm.Name prog S (b0 ++ [locs])
      have g1:∀ k,decl_Table_Merge k mm.Name all prog S (b0 ++ [locs]) = _:=fun k=>g1
      rw [hm] at g1
      refine ⟨b0 ++ [locs],S,?_,fun h=>by cases h⟩
      simp only [qR,↓reduceIte,Int.reduceBEq,Int.reduceBNe,Int.reduceLT,Int.reduceLE,Int.reduceGT,Int.reduceGE,decl_Table_iso,q1,h0,h0',Ev.bnd qt,e0,e64,hr,hS,hw,Ev.bnd qz,hz,hs,hkd,g1]
    | true=>
      obtain ⟨nn,g1,g1'⟩:=merge_ev htab 0 mm.Name prog S (b0 ++ [locs])
      have g1:∀ k,decl_Table_Merge k mm.Name all prog S (b0 ++ [locs]) = _:=fun k=>g1
      rw [hm] at g1
      obtain rfl:=g1' hm
      obtain ⟨f1,f2,f3,f4,f5⟩:=mg_of h hm
      have qs:=same_imp f5 (tyOf d)
      cases hsm:sameS (tyOf (tyOf (mgS ds mm.Name))) (tyOf d) with
      | false=>
        have ei:isoOne ds d S = (mm.At,7):=by unfold isoOne; rw [if_neg (by simpa using ht0),if_neg h64,hz,hs]; simp [hkd,hm,hsm]
        rw [ei]
        refine ⟨b0 ++ [locs],S,?_,fun h=>by cases h⟩
        simp only [qR,↓reduceIte,Int.reduceBEq,Int.reduceBNe,Int.reduceLT,Int.reduceLE,Int.reduceGT,Int.reduceGE,decl_Table_iso,q1,h0,h0',Ev.bnd qt,e0,e64,hr,hS,hw,Ev.bnd qz,hz,hs,hkd,g1,ho,Option.getD_some,f1,f3,f4.ty.1,Ev.bnd qs,hsm]
      | true=>
        have ei:isoOne ds d S = (0,0):=by unfold isoOne; rw [if_neg (by simpa using ht0),if_neg h64,hz,hs]; simp [hkd,hm,hsm]
        rw [ei]
        refine ⟨b0 ++ [locs],S,?_,fun _=>⟨rfl,rfl,hs2⟩⟩
        simp only [qR,↓reduceIte,Int.reduceBEq,Int.reduceBNe,Int.reduceLT,Int.reduceLE,Int.reduceGT,Int.reduceGE,decl_Table_iso,q1,h0,h0',Ev.bnd qt,e0,e64,hr,hS,hw,Ev.bnd qz,hz,hs,hkd,g1,ho,Option.getD_some,f1,f3,f4.ty.1,Ev.bnd qs,hsm]
def oneS (ds pre:List TNode) (d:TNode):Int × Int :=
  if d.Kind = 51 then parS ds ((dk ds 51).take (dk pre 51).length) d.Kids 51
  else if d.Kind = 52 then isoOne ds d (lsum (dk pre 52 ++ [d]))
  else if d.Kind = 54 then parS ds (dk ds 51) (d.Kids.take 3) 54
  else if (parS ds (dk ds 51) (d.Kids.take (d.Kids.length - 2)) 53).2 ≠ 0 then parS ds (dk ds 51) (d.Kids.take (d.Kids.length - 2)) 53
  else typS (dk ds 51) (d.Kids.getD (d.Kids.length - 2) (TNode.mk 0 0 0 [] [])) true
theorem typed_no_ref (a:Int) (recs:List TNode) (hl:recs.length ≤ 10000000) (b:Bool):Ev (fun k=>ref18_Typed k (TNode.mk 0 a 0 [] []) recs b) (Tref18_Fault.mk 0 0):=by
  have q:=rec_ev recs hl []
  refine Ev.succ1 ?_
  simp only [qR,↓reduceIte,Int.reduceBEq,Int.reduceBNe,Int.reduceLT,Int.reduceLE,Int.reduceGT,Int.reduceGE,ref18_Typed,Ev.bnd q]
theorem typed_no_imp (a:Int) (recs:List TNode) (b:Bool):Ev (fun k=>decl_typed k (TNode.mk 0 a 0 [] []) recs b) (0,0):=by
  refine Ev.succ1 ?_
  simp only [qR,↓reduceIte,Int.reduceBEq,Int.reduceBNe,Int.reduceLT,Int.reduceLE,Int.reduceGT,Int.reduceGE,decl_typed]
theorem dk_split (pre:List TNode) (d:TNode) (post:List TNode) (c:Int):dk (pre ++ d :: post) c = dk pre c ++ dk [d] c ++ dk post c:=by
  unfold dk; rw [show pre ++ d :: post = pre ++ ([d] ++ post) from rfl,List.filter_append,List.filter_append,List.append_assoc]
theorem dk_one {d:TNode} {c:Int} (h:d.Kind = c):dk [d] c = [d]:=by unfold dk; simp [h]
theorem dk_other {d:TNode} {c:Int} (h:d.Kind ≠ c) (hc:c ≠ 0):dk [d] c = []:=by unfold dk; simp [h,hc]
theorem fI_at {pre post:List TNode} {d:TNode} {c:Int} (hk:d.Kind = c) (hc:c ≠ 0) (hn:hasN pre d.Name = false):fI (dk (pre ++ d :: post) c) d.Name = ((dk pre c).length:Int):=by
  rw [dk_split,dk_one hk]
  have hno:(dk pre c).findIdx? (fun x=>x.Name == d.Name) = none:=by
    rw [List.findIdx?_eq_none_iff]
    intro x hx
    have:=List.any_eq_false.1 hn _ ((dk_mem hc).1 hx).1
    simpa using this
  unfold fI
  rw [List.append_assoc,List.findIdx?_append,hno]
  simp [List.findIdx?_cons]
theorem one_ref {p m:TNode} {pre post:List TNode} {d:TNode} (hp:p.Kids = (pre ++ d :: post) ++ [m]) (h:DsOk (pre ++ d :: post)) :
    Ev (fun k=>ref18_one k p d ((dk pre d.Kind).length:Int)) (Tref18_Fault.mk (oneS (pre ++ d :: post) pre d).1 (oneS (pre ++ d :: post) pre d).2):=by
  have hd:d ∈ pre ++ d :: post:=by simp
  have hrl:=h.recs.len
  have q1:=decls_ev hp h.len 51
  have hb:=h.bd d hd
  have hds:=h.des d hd
  generalize hK:d.Kind = K
  cases hds with
  | recd a s l h0 hpas=>
    have hK:(51:Int) = K:=hK
    subst hK
    have hsub:sub (dk (pre ++ TNode.mk 51 a 0 s l :: post) 51) 0 ((dk pre 51).length:Int) = some ((dk (pre ++ TNode.mk 51 a 0 s l :: post) 51).take (dk pre 51).length):=sub_take _ (by rw [dk_split]; simp)
    have qp:=params_ref hp h.len ((dk (pre ++ TNode.mk 51 a 0 s l :: post) 51).take (dk pre 51).length) (by rw [List.length_take]; omega) l ⟨hb.len,hpas,hb.kid⟩ 51
    simp only [qR,↓reduceIte,Int.reduceBEq,Int.reduceBNe,Int.reduceLT,Int.reduceLE,Int.reduceGT,Int.reduceGE,ref18_one,Ev.bnd q1,hsub,Ev.bnd qp]
    rfl
  | iso1 a n s t hn ht=>
    have hK:(52:Int) = K:=hK
    subst hK
    have hbl:(dk pre 52).length ≤ 10000000:=by
      have:=dk_len pre 52
      have:=h.len
      simp at this; omega
    have qi:=iso_ref hp h hd rfl (dk pre 52).length hbl
    have et:(dk (pre ++ TNode.mk 52 a n s [t] :: post) 52).take ((dk pre 52).length + 1) = dk pre 52 ++ [TNode.mk 52 a n s [t]]:=by rw [dk_split,dk_one rfl,List.take_append_of_le_length (by simp),List.take_of_length_le (by simp)]
    rw [et] at qi
    simp only [qR,↓reduceIte,Int.reduceBEq,Int.reduceBNe,Int.reduceLT,Int.reduceLE,Int.reduceGT,Int.reduceGE,ref18_one,Ev.bnd q1,Ev.bnd qi]
    rfl
  | iso2 a n s t mm hn ht=>
    have hK:(52:Int) = K:=hK
    subst hK
    have hbl:(dk pre 52).length ≤ 10000000:=by
      have:=dk_len pre 52
      have:=h.len
      simp at this; omega
    have qi:=iso_ref hp h hd rfl (dk pre 52).length hbl
    have et:(dk (pre ++ TNode.mk 52 a n s [t,mm] :: post) 52).take ((dk pre 52).length + 1) = dk pre 52 ++ [TNode.mk 52 a n s [t,mm]]:=by rw [dk_split,dk_one rfl,List.take_append_of_le_length (by simp),List.take_of_length_le (by simp)]
    rw [et] at qi
    simp only [qR,↓reduceIte,Int.reduceBEq,Int.reduceBNe,Int.reduceLT,Int.reduceLE,Int.reduceGT,Int.reduceGE,ref18_one,Ev.bnd q1,Ev.bnd qi]
    rfl
  | fn a s l t b hpas ht hbk=>
    have hK:(53:Int) = K:=hK
    subst hK
    have hlen:(l ++ [t,b]).length ≤ 10000000:=hb.len
    have hw:=w_len2 hlen
    have hsub:sub (l ++ [t,b]) 0 (l.length:Int) = some l:=sub_pre l [t,b]
    have hix:ix (l ++ [t,b]) (l.length:Int) = some t:=ix_mid l t [b]
    have hll:l.length ≤ 10000000:=by simp at hlen; omega
    have qp:=params_ref hp h.len (dk (pre ++ TNode.mk 53 a 0 s (l ++ [t,b]) :: post) 51) hrl l ⟨hll,hpas,fun x hx=>hb.kid x (by simp [hx])⟩ 53
    have qt:Ev (fun k=>ref18_Typed k t (dk (pre ++ TNode.mk 53 a 0 s (l ++ [t,b]) :: post) 51) true) (Tref18_Fault.mk (typS (dk (pre ++ TNode.mk 53 a 0 s (l ++ [t,b]) :: post) 51) t true).1 (typS (dk (pre ++ TNode.mk 53 a 0 s (l ++ [t,b]) :: post) 51) t true).2):=by
      rcases ht with ht | ⟨a',rfl⟩
      · exact typed_ref ht _ hrl true
      · exact typed_no_ref a' _ hrl true
    unfold oneS
    have e1:(TNode.mk 53 a 0 s (l ++ [t,b])).Kids.take ((TNode.mk 53 a 0 s (l ++ [t,b])).Kids.length - 2) = l:=by simp
    have e2:(TNode.mk 53 a 0 s (l ++ [t,b])).Kids.getD ((TNode.mk 53 a 0 s (l ++ [t,b])).Kids.length - 2) (TNode.mk 0 0 0 [] []) = t:=by simp
    rw [e1,e2]
    simp only [show ¬ ((53:Int) = 51) from by decide,show ¬ ((53:Int) = 52) from by decide,show ¬ ((53:Int) = 54) from by decide,if_false]
    by_cases hf:(parS (pre ++ TNode.mk 53 a 0 s (l ++ [t,b]) :: post) (dk (pre ++ TNode.mk 53 a 0 s (l ++ [t,b]) :: post) 51) l 53).2 = 0
    · have e:((parS (pre ++ TNode.mk 53 a 0 s (l ++ [t,b]) :: post) (dk (pre ++ TNode.mk 53 a 0 s (l ++ [t,b]) :: post) 51) l 53).2 != 0) = false:=by simpa using hf
      rw [if_neg (by simpa using hf)]
      simp only [qR,↓reduceIte,Int.reduceBEq,Int.reduceBNe,Int.reduceLT,Int.reduceLE,Int.reduceGT,Int.reduceGE,ref18_one,Ev.bnd q1,hw,hsub,Ev.bnd qp,e,hix,Ev.bnd qt]
    · have e:((parS (pre ++ TNode.mk 53 a 0 s (l ++ [t,b]) :: post) (dk (pre ++ TNode.mk 53 a 0 s (l ++ [t,b]) :: post) 51) l 53).2 != 0) = true:=by simpa using hf
      rw [if_pos hf]
      simp only [qR,↓reduceIte,Int.reduceBEq,Int.reduceBNe,Int.reduceLT,Int.reduceLE,Int.reduceGT,Int.reduceGE,ref18_one,Ev.bnd q1,hw,hsub,Ev.bnd qp,e]
  | mrg a s x y z b hx hy hz hbk=>
    have hK:(54:Int) = K:=hK
    subst hK
    have qp:=params_ref hp h.len (dk (pre ++ TNode.mk 54 a 0 s [x,y,z,b] :: post) 51) hrl [x,y,z] ⟨by simp,by simp [hx,hy,hz],fun u hu=>hb.kid u (by simp at hu ⊢; rcases hu with h | h | h <;> simp [h])⟩ 54
    have hsub:sub [x,y,z,b] 0 3 = some [x,y,z]:=rfl
    simp only [qR,↓reduceIte,Int.reduceBEq,Int.reduceBNe,Int.reduceLT,Int.reduceLE,Int.reduceGT,Int.reduceGE,ref18_one,Ev.bnd q1,hsub,Ev.bnd qp]
    rfl
end Go.Proofs.YtjojaiomgdjhfaaGreatDoor.F
