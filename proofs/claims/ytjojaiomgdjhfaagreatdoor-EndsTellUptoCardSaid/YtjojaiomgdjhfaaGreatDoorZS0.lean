/- A symbolic executor of the code, and that it is sound. No condition. -/
import Derived.Test.YtjojaiomgdjhfaaGreatDoorZA1
set_option linter.unusedVariables false
set_option linter.unusedSimpArgs false
namespace Go.Proofs.YtjojaiomgdjhfaaGreatDoor.SY
open Go AE F
theorem bnd_of {top:Nat} {kd:IntKind} {i:Int} (h1:0 ≤ i) (h2:i ≤ top):bnd (.int kd i) top = some i.toNat:=by unfold bnd; simp only; rw [if_pos ⟨h1,h2⟩]
theorem room_roomy (b n:Nat):room b n = roomy b n:=rfl
inductive SV (U:Nat→Type) where
  | raw (a:AV)
  | typ (i:Nat) (x:U i)
  | lst (full:Bool) (i:Nat) (l:List (U i))
  | tip (b:Oid)
  | opt (i:Nat) (x:Option (U i))
  | pint (i:Nat) (x:U i) (off:Nat)
  | arr (i:Nat) (l:List (U i))
  | pin (l:List (SV U))
  | agg (l:List (SV U))
  | tup (l:List (SV U))
  | fn (f:FuncId) (a b:List (SV U))
structure Bf (U:Nat→Type) where
  i:Nat
  l:List (U i)
abbrev Bufs (U:Nat→Type):=List (Oid × Bf U)
inductive MK where
  | int (k:IntKind) | bool | str | typ (j:Nat)
abbrev MT (U:Nat→Type):MK→Type
  | .int _=>Int
  | .bool=>Bool
  | .str=>List UInt8
  | .typ j=>U j
structure MpD (U:Nat→Type) (i:Nat) where
  kk:MK
  vk:MK
  list:U i→List (MT U kk × MT U vk)
  back:List (MT U kk × MT U vk)→U i
structure TM (U:Nat→Type) where
  size:Nat→Nat
  agg:Nat→Bool
  enc:(i:Nat)→U i→AV
  view:(i:Nat)→U i→List (SV U)
  mkT:(i:Nat)→List (SV U)→Option (U i)
  one:(i:Nat)→SV U→Option (U i)
  ofTy:List (Nat × Nat)
  byt:(i:Nat)→Option (List UInt8→List (U i))
  fns:(i:Nat)→List ((U i→Bool) × FuncId)
  mp:(i:Nat)→Option (MpD U i)
def encK {U:Nat→Type} (M:TM U):(k:MK)→MT U k→AV
  | .int kd,n=>.int kd n
  | .bool,b=>.bool b
  | .str,s=>.str s
  | .typ j,x=>M.enc j x
section
variable {U:Nat→Type} (M:TM U)
mutual
def den (B:Bufs U):SV U→AV
  | .raw a=>a
  | .typ i x=>M.enc i x
  | .lst f i l=>.slice (if f then .full else .none) (M.size i) (l.map (M.enc i))
  | .tip b=>match find B b with
    | some ⟨i,l⟩=>.slice (.buf b) (M.size i) (l.map (M.enc i))
    | none=>.undef
  | .opt _ none=>.nilp
  | .opt i (some x)=>.pin (cellsOf (M.enc i x))
  | .pint i x off=>.pin ((cellsOf (M.enc i x)).drop off)
  | .arr i l=>.agg (l.flatMap fun x=>cellsOf (M.enc i x))
  | .pin l=>.pin (flat B l)
  | .agg l=>.agg (flat B l)
  | .tup l=>.tuple (denL B l)
  | .fn f a b=>.fn (.func f) (denL B a) (denL B b)
def denL (B:Bufs U):List (SV U)→List AV
  | []=>[]
  | v :: r=>den B v :: denL B r
def flat (B:Bufs U):List (SV U)→List AV
  | []=>[]
  | v :: r=>cellsOf (den B v) ++ flat B r
end
theorem flat_append (B:Bufs U):∀ a b:List (SV U),flat M B (a ++ b) = flat M B a ++ flat M B b
  | [],b=>rfl
  | v :: a,b=>by simp only [List.cons_append,flat,flat_append B a b,List.append_assoc]
theorem denL_map (B:Bufs U):∀ l:List (SV U),denL M B l = l.map (den M B)
  | []=>rfl
  | v :: r=>by simp only [denL,List.map_cons,denL_map B r]
theorem flat_raw (B:Bufs U):∀ l:List AV,(∀ a ∈ l,cellOk a = true ∨ a = .undef)→flat M B (l.map .raw) = l
  | [],_=>rfl
  | a :: r,h=>by
    simp only [List.map_cons,flat,den]
    rw [flat_raw B r fun x hx=>h x (List.mem_cons_of_mem _ hx)]
    have:=h a List.mem_cons_self
    cases a <;> simp_all [cellsOf,cellOk]
mutual
def csize:SV U→Option Nat
  | .raw a=>match a with | .agg cs=>none | _=>some 1
  | .typ i _=>some (M.size i)
  | .agg l=>csizeL l
  | .arr i l=>some (l.length * M.size i)
  | .tup _=>none
  | _=>some 1
def csizeL:List (SV U)→Option Nat
  | []=>some 0
  | v :: r=>match csize v,csizeL r with
    | some a,some b=>some (a + b)
    | _,_=>none
end
def isAgg:SV U→Bool
  | .raw a=>match a with | .agg _=>true | _=>false
  | .typ i _=>M.agg i
  | .agg _=>true
  | .arr _ _=>true
  | _=>false
def leafT:SV U→Bool
  | .typ i _=>!M.agg i && (M.fns i).isEmpty && (M.mp i).isNone
  | _=>false
def expand:SV U→Option (List (SV U))
  | .typ i x=>some (M.view i x)
  | .agg l=>some l
  | _=>none
def splitS:Nat→Nat→List (SV U)→Option (List (SV U) × List (SV U))
  | 0,_,_=>none
  | _ + 1,0,cs=>some ([],cs)
  | _ + 1,_ + 1,[]=>none
  | f + 1,k + 1,c :: r=>match csize M c with
    | none=>none
    | some m=>if m ≤ k + 1 then (match splitS f (k + 1 - m) r with | some p=>some (c :: p.1,p.2) | none=>none)
      else match expand M c with
        | none=>none
        | some l=>splitS f (k + 1) (l ++ r)
def headS (n:Nat) (ag:Bool):Nat→List (SV U)→Option (SV U)
  | 0,_=>none
  | _ + 1,[]=>none
  | f + 1,c :: r=>match csize M c with
    | none=>none
    | some m=>
      if m = n∧isAgg M c = ag∧leafT M c = false then some c
      else if ag then (match splitS M f n (c :: r) with | some p=>some (.agg p.1) | none=>none)
      else match expand M c with
        | none=>none
        | some l=>headS n ag f (l ++ r)
def chunk:SV U→List (SV U)
  | .agg l=>l
  | v=>[v]
def takeS (off n:Nat) (ag:Bool) (cs:List (SV U)):Option (SV U) :=
  match splitS M 300 off cs with
  | some p=>headS M n ag 300 p.2
  | none=>none
def setS (off:Nat) (v:SV U) (cs:List (SV U)):Option (List (SV U)) :=
  match splitS M 300 off cs,csize M v with
  | some p,some m=>match splitS M 300 m p.2 with
    | some q=>some (p.1 ++ (chunk v ++ q.2))
    | none=>none
  | _,_=>none
end
structure TMOk {U:Nat→Type} (M:TM U) (tb:List TI):Prop where
  view:∀ B i x,flat M B (M.view i x) = cellsOf (M.enc i x)
  shape:∀ i x,if M.agg i = true then ∃ cs,M.enc i x = .agg cs else cellOk (M.enc i x) = true
  size:∀ i x,(cellsOf (M.enc i x)).length = M.size i
  refs:∀ i x,refs (M.enc i x) = []
  toks:∀ i x,toks (M.enc i x) = []
  clean:∀ i x,AE.clean (M.enc i x) = M.enc i x
  cells:∀ i x,(cellsOf (M.enc i x)).all cellOk = true
  mkT:∀ B i cs x,M.mkT i cs = some x→WkL (flat M B cs) (cellsOf (M.enc i x))
  one:∀ B i v x,M.one i v = some x→den M B v = M.enc i x
  byt:∀ i f,M.byt i = some f→M.size i = 1∧∀ l,(f l).map (M.enc i) = l.map fun b=>AV.int .u8 b.toNat
  fns:∀ i p f x,(p,f) ∈ M.fns i→p x = true→M.enc i x = .fn (.func f) [] []
  mp:∀ i d,M.mp i = some d→(∀ x,M.enc i x = .mapf ((d.list x).map fun p=>encK M d.kk p.1) ((d.list x).map fun p=>encK M d.vk p.2))∧∀ l,d.list (d.back l) = l
  ty:M.ofTy.all (fun p=>match tb[p.1]? with | some ti=>ti.size == M.size p.2 && ti.agg == M.agg p.2 && decide (0 < M.size p.2) | none=>false) = true
section
variable {U:Nat→Type} {M:TM U} {tb:List TI}
theorem cellsOf_one {a:AV} (h:cellOk a = true):cellsOf a = [a]:=by cases a <;> first | rfl | cases h
theorem cells_nonagg (a:AV) (h:∀ cs,a ≠ .agg cs):cellsOf a = [a]:=by cases a <;> first | rfl | exact (h _ rfl).elim
theorem arr_len (hM:TMOk M tb) {i:Nat}:∀ l:List (U i),(l.flatMap fun x=>cellsOf (M.enc i x)).length = l.length * M.size i
  | []=>by simp
  | x :: l=>by rw [List.flatMap_cons,List.length_append,hM.size,arr_len hM l,List.length_cons,Nat.succ_mul,Nat.add_comm]
mutual
theorem csize_ok (hM:TMOk M tb) (B:Bufs U):∀ (v:SV U) {m:Nat},csize M v = some m→(cellsOf (den M B v)).length = m
  | .raw a,m,h=>by
    simp only [csize] at h
    cases a <;> simp at h <;> subst h <;> rfl
  | .typ i x,m,h=>by simp only [csize] at h; cases h; exact hM.size i x
  | .agg l,m,h=>by simp only [csize] at h; simp only [den,cellsOf]; exact csizeL_ok hM B l h
  | .arr i l,m,h=>by simp only [csize] at h; cases h; simp only [den,cellsOf]; exact arr_len hM l
  | .tup _,m,h=>by simp [csize] at h
  | .lst _ _ _,m,h=>by simp only [csize] at h; cases h; rfl
  | .tip b,m,h=>by simp only [csize] at h; cases h; simp only [den]; split <;> rfl
  | .opt i none,m,h=>by simp only [csize] at h; cases h; rfl
  | .opt i (some x),m,h=>by simp only [csize] at h; cases h; rfl
  | .pint _ _ _,m,h=>by simp only [csize] at h; cases h; rfl
  | .pin _,m,h=>by simp only [csize] at h; cases h; rfl
  | .fn _ _ _,m,h=>by simp only [csize] at h; cases h; rfl
theorem csizeL_ok (hM:TMOk M tb) (B:Bufs U):∀ (l:List (SV U)) {m:Nat},csizeL M l = some m→(flat M B l).length = m
  | [],m,h=>by simp only [csizeL] at h; cases h; rfl
  | v :: r,m,h=>by
    simp only [csizeL] at h
    split at h
    · rename_i a b ha hb
      cases h
      simp only [flat,List.length_append,csize_ok hM B v ha,csizeL_ok hM B r hb]
    · cases h
end
theorem expand_ok (hM:TMOk M tb) (B:Bufs U) {v:SV U} {l:List (SV U)} (h:expand M v = some l):flat M B l = cellsOf (den M B v):=by
  cases v <;> simp only [expand] at h <;> first | (cases h; done) | skip
  · cases h; exact hM.view B _ _
  · cases h; rfl
theorem splitS_ok (hM:TMOk M tb) (B:Bufs U):∀ (f off:Nat) (cs:List (SV U)) {p:List (SV U) × List (SV U)},splitS M f off cs = some p→flat M B cs = flat M B p.1 ++ flat M B p.2∧(flat M B p.1).length = off
  | 0,_,_,p,h=>by simp [splitS] at h
  | f + 1,0,cs,p,h=>by simp only [splitS] at h; cases h; exact ⟨rfl,rfl⟩
  | f + 1,k + 1,[],p,h=>by simp [splitS] at h
  | f + 1,k + 1,c :: r,p,h=>by
    simp only [splitS] at h
    split at h
    · cases h
    rename_i m hm
    split at h
    · rename_i hle
      split at h
      · rename_i q hq
        cases h
        obtain ⟨h1,h2⟩:=splitS_ok hM B f _ r hq
        refine ⟨by simp only [flat,h1,List.append_assoc],?_⟩
        simp only [flat,List.length_append,h2,csize_ok hM B c hm]; omega
      · cases h
    · split at h
      · cases h
      · rename_i l hl
        obtain ⟨h1,h2⟩:=splitS_ok hM B f _ _ h
        refine ⟨?_,h2⟩
        rw [← h1,flat_append,expand_ok hM B hl]; rfl
theorem isAgg_true (hM:TMOk M tb) (B:Bufs U) {v:SV U} (h:isAgg M v = true):den M B v = .agg (cellsOf (den M B v)):=by
  cases v <;> simp only [isAgg] at h <;> first | (cases h; done) | skip
  · rename_i a; cases a <;> first | rfl | cases h
  · rename_i i x
    have:=hM.shape i x
    rw [if_pos h] at this
    obtain ⟨cs,e⟩:=this
    simp only [den,e,cellsOf]
  · simp only [den,cellsOf]
  · simp only [den,cellsOf]
theorem isAgg_false (hM:TMOk M tb) (B:Bufs U) {v:SV U} (h:isAgg M v = false):cellsOf (den M B v) = [den M B v]:=by
  apply cells_nonagg
  intro cs e
  cases v with
  | raw a=>simp only [den] at e; subst e; simp [isAgg] at h
  | typ i x=>
    simp only [isAgg] at h
    have:=hM.shape i x
    rw [if_neg (by simp [h])] at this
    simp only [den] at e
    rw [e] at this; cases this
  | agg l=>simp [isAgg] at h
  | arr _ _=>simp [isAgg] at h
  | lst _ _ _=>simp [den] at e
  | tip b=>simp only [den] at e; split at e <;> cases e
  | opt i x=>cases x <;> simp [den] at e
  | pint _ _ _=>simp [den] at e
  | pin _=>simp [den] at e
  | tup _=>simp [den] at e
  | fn _ _ _=>simp [den] at e
theorem headS_ok (hM:TMOk M tb) (B:Bufs U) {ti:TI}:∀ (f:Nat) (cs:List (SV U)) {v:SV U},headS M ti.size ti.agg f cs = some v→takeCells ti (flat M B cs) 0 = some (den M B v)
  | 0,_,v,h=>by simp [headS] at h
  | f + 1,[],v,h=>by simp [headS] at h
  | f + 1,c :: r,v,h=>by
    simp only [headS] at h
    split at h
    · cases h
    rename_i m hm
    split at h
    · rename_i hc
      cases h
      obtain ⟨rfl,hag,_⟩:=hc
      have hl:=csize_ok hM B _ hm
      unfold takeCells
      split
      · rename_i hag2
        rw [if_pos (by simp only [flat,List.length_append,hl]; omega)]
        rw [isAgg_true hM B (hag.trans hag2)]
        simp only [flat,List.drop_zero]
        have e2:cellsOf (AV.agg (cellsOf (den M B c))) = cellsOf (den M B c):=rfl
        rw [← isAgg_true hM B (hag.trans hag2),List.take_append_of_le_length (Nat.le_of_eq hl.symm),List.take_of_length_le (Nat.le_of_eq hl)]
        rw [← isAgg_true hM B (hag.trans hag2)]
      · rename_i hag2
        rw [flat,isAgg_false hM B (hag.trans (by simpa using hag2))]; rfl
    · split at h
      · rename_i hag
        split at h
        · rename_i p hp
          cases h
          obtain ⟨h1,h2⟩:=splitS_ok hM B _ _ _ hp
          unfold takeCells
          rw [if_pos hag,h1,if_pos (by simp only [List.length_append,h2]; omega)]
          simp only [List.drop_zero,den]
          rw [← h2,List.take_left']
          rfl
        · cases h
      · split at h
        · cases h
        · rename_i l hl
          have:=headS_ok hM B f _ h
          rw [← this,flat_append,expand_ok hM B hl]; rfl
theorem takeCells_off (ti:TI) (a b:List AV):takeCells ti (a ++ b) a.length = takeCells ti b 0:=by
  unfold takeCells
  split
  · have e:(a.length + ti.size ≤ (a ++ b).length) = (0 + ti.size ≤ b.length):=by simp [List.length_append]
    simp only [e,List.drop_left',List.drop_zero]
  · rw [List.getElem?_append_right (Nat.le_refl _),Nat.sub_self]
theorem takeS_ok (hM:TMOk M tb) (B:Bufs U) {ti:TI} {off:Nat} {cs:List (SV U)} {v:SV U} (h:takeS M off ti.size ti.agg cs = some v):takeCells ti (flat M B cs) off = some (den M B v):=by
  unfold takeS at h
  split at h
  · rename_i p hp
    obtain ⟨h1,h2⟩:=splitS_ok hM B _ _ _ hp
    rw [h1,← h2,takeCells_off]
    exact headS_ok hM B _ _ h
  · cases h
theorem chunk_ok (hM:TMOk M tb) (B:Bufs U) (v:SV U):flat M B (chunk v) = cellsOf (den M B v):=by
  cases v <;> first | (simp only [chunk,flat,List.append_nil]; done) | rfl
theorem setRange_mid:∀ (y x a b:List AV),x.length = y.length→setRange (a ++ (x ++ b)) a.length y = a ++ (y ++ b)
  | [],[],a,b,_=>rfl
  | [],_ :: _,_,_,h=>by simp at h
  | _ :: _,[],_,_,h=>by simp at h
  | y :: ys,x :: xs,a,b,h=>by
    simp only [setRange]
    have e1:(a ++ (x :: xs ++ b)).set a.length y = (a ++ [y]) ++ (xs ++ b):=by simp
    rw [e1,show a.length + 1 = (a ++ [y]).length by simp,setRange_mid ys xs (a ++ [y]) b (by simpa using h)]
    simp
theorem setS_ok (hM:TMOk M tb) (B:Bufs U) {off:Nat} {v:SV U} {cs cs':List (SV U)} (h:setS M off v cs = some cs') :
    setRange (flat M B cs) off (cellsOf (den M B v)) = flat M B cs'∧off + (cellsOf (den M B v)).length ≤ (flat M B cs).length∧(flat M B cs').length = (flat M B cs).length:=by
  unfold setS at h
  split at h
  · rename_i p m hp hm
    split at h
    · rename_i q hq
      cases h
      obtain ⟨h1,h2⟩:=splitS_ok hM B _ _ _ hp
      obtain ⟨h3,h4⟩:=splitS_ok hM B _ _ _ hq
      have hl:=csize_ok hM B _ hm
      rw [h1,h3,← h2,setRange_mid _ _ _ _ (by rw [h4,hl])]
      refine ⟨by rw [flat_append,flat_append,chunk_ok hM],by simp only [List.length_append]; omega,?_⟩
      rw [flat_append,flat_append,chunk_ok hM]
      simp only [List.length_append]; omega
    · cases h
  · cases h
end
end Go.Proofs.YtjojaiomgdjhfaaGreatDoor.SY
namespace Go.Proofs.YtjojaiomgdjhfaaGreatDoor.SY
open Go AE F
structure SSt (U:Nat→Type) where
  A:List (Nat × SV U)
  H:List (Oid × Fl × List (SV U))
  B:Bufs U
  W:List (Oid × Nat)
  X:List Oid
structure SZ (U:Nat→Type) where
  Z:Seat
  M:TM U
  ok:TMOk M Z.tb
  gs:List (Nat × List (SV U))
  hg:∀ B,Z.gl = gs.map fun x=>(x.1,flat M B x.2)
theorem find_append {K α:Type} [DecidableEq K] (a b:List (K × α)) (k:K):find (a ++ b) k = match find a k with | some v=>some v | none=>find b k:=by
  induction a with
  | nil=>rfl
  | cons x a ih=>obtain ⟨k',v⟩:=x; simp only [List.cons_append,find]; split <;> first | rfl | exact ih
section
variable {U:Nat→Type} (Y:SZ U)
def getS (A:List (Nat × SV U)) (t:Nat):SV U:=match find A t with | some v=>v | none=>.raw .undef
def denS (S:SSt U):St :=
  ⟨S.A.map fun x=>(x.1,den Y.M S.B x.2),(S.H.map fun x=>(x.1,Ob.cells x.2.1 (flat Y.M S.B x.2.2))) ++ S.B.map fun x=>(x.1,Ob.buf (Y.M.size x.2.i) x.2.l.length)⟩
def evS (A:List (Nat × SV U)):Operand→SV U
  | .tmp t=>getS A t
  | .const v=>.raw (ofVal v)
  | .global g=>match find Y.gs g with | some cs=>.pin cs | none=>.raw .undef
  | .func f=>.fn f [] []
theorem getS_ok (S:SSt U) (t:Nat):getA (denS Y S).A t = den Y.M S.B (getS S.A t):=by
  simp only [getA,denS,getS]
  rw [find_map (den Y.M S.B)]
  cases find S.A t <;> rfl
theorem evS_ok (S:SSt U) (x:Operand):evalA Y.Z.gl (denS Y S).A x = den Y.M S.B (evS Y S.A x):=by
  cases x with
  | tmp t=>exact getS_ok Y S t
  | const v=>rfl
  | func f=>rfl
  | global g=>
    simp only [evalA,evS]
    rw [Y.hg S.B,find_map (flat Y.M S.B)]
    cases find Y.gs g <;> rfl
theorem findH (S:SSt U) (b:Oid):find (denS Y S).H b = match find S.H b with
    | some p=>some (Ob.cells p.1 (flat Y.M S.B p.2))
    | none=>(find S.B b).map fun x=>Ob.buf (Y.M.size x.i) x.l.length:=by
  simp only [denS]
  rw [find_append,find_map (fun p:Fl × List (SV U)=>Ob.cells p.1 (flat Y.M S.B p.2)),find_map (fun x:Bf U=>Ob.buf (Y.M.size x.i) x.l.length)]
  cases find S.H b <;> rfl
def Fact (S:SSt U) (o:Oper) (rd:List Oid) (v:SV U):Prop :=
  ∃ R:OpR,evOp Y.Z.tb c0 noCall 0 (evalA Y.Z.gl (denS Y S).A) (denS Y S).H o = some R∧R.ws = []∧R.fresh = false∧R.rd = rd∧Wk R.v (den Y.M S.B v)
variable {Y}
theorem Fact.of {S:SSt U} {o:Oper} {v:SV U} {a:AV} (h:evOp Y.Z.tb c0 noCall 0 (evalA Y.Z.gl (denS Y S).A) (denS Y S).H o = some { v:=a }) (hw:Wk a (den Y.M S.B v)):Fact Y S o [] v:=⟨_,h,rfl,rfl,rfl,hw⟩
theorem Fact.map {S:SSt U} {o:Oper} {v:SV U} {x:Option AV} {a:AV} (h:evOp Y.Z.tb c0 noCall 0 (evalA Y.Z.gl (denS Y S).A) (denS Y S).H o = x.map fun v=>({ v }:OpR)) (hx:x = some a) (hw:Wk a (den Y.M S.B v)):Fact Y S o [] v:=Fact.of (by rw [h,hx]; rfl) hw
end
section
variable {U:Nat→Type} {ρ:Type}
def sPick (t:Bool) (a b:SV U) (K:SV U→Option ρ):Option ρ :=
  match a,b with
  | .raw (.bool x),.raw (.bool y)=>K (.raw (.bool (bif t then x else y)))
  | .raw (.str x),.raw (.str y)=>K (.raw (.str (bif t then x else y)))
  | x,y=>match t with
    | true=>K x
    | false=>K y
theorem sPick_ok {t:Bool} {a b:SV U} {K:SV U→Option ρ} {r:ρ} (h:sPick t a b K = some r):∃ v,(v = if t then a else b)∧K v = some r:=by
  unfold sPick at h
  split at h
  · cases t <;> exact ⟨_,rfl,h⟩
  · cases t <;> exact ⟨_,rfl,h⟩
  · cases t <;> exact ⟨_,rfl,h⟩
def lit:Option AV→(SV U→Option ρ)→Option ρ
  | some v,K=>K (.raw v)
  | none,_=>none
def sInt (op:BinOp) (k k':IntKind) (a b:Int) (K:SV U→Option ρ):Option ρ :=
  match op with
  | .quo=>if k = k' then (if (b == 0) then none else K (.raw (.int k (k.wrap (Int.tdiv a b))))) else none
  | .rem=>if k = k' then (if (b == 0) then none else K (.raw (.int k (Int.tmod a b)))) else none
  | .shl=>if (decide (b < 0)) then none else K (.raw (.int k (k.wrap (a * 2 ^ (min b.toNat k.bits)))))
  | .shr=>if (decide (b < 0)) then none else K (.raw (.int k (a.fdiv (2 ^ (min b.toNat k.bits)))))
  | op=>if k = k' then lit (intOp op k a b) K else none
theorem sInt_ok {tb:List TI} {op:BinOp} {t:TypeId} {k k':IntKind} {a b:Int} {K:SV U→Option ρ} {r:ρ} (h:sInt op k k' a b K = some r):∃ v,evBin tb op t (.int k a) (.int k' b) = some v∧K (.raw v) = some r:=by
  have hl:∀ op,¬ (op = BinOp.shl ∨ op = .shr)→(if k = k' then lit (intOp op k a b) K else none) = some r→∃ v,evBin tb op t (.int k a) (.int k' b) = some v∧K (.raw v) = some r:=by
    intro op ho h
    split at h
    · rename_i hk
      unfold evBin
      simp only [if_neg ho,if_pos hk]
      cases hi:intOp op k a b with
      | none=>rw [hi] at h; cases h
      | some v=>rw [hi] at h; exact ⟨v,rfl,h⟩
    · cases h
  cases op <;> first
    | (simp only [sInt] at h; exact hl _ (by simp) h)
    | skip
  · simp only [sInt] at h
    split at h
    · rename_i hk
      split at h
      · cases h
      · rename_i hb
        refine ⟨_,?_,h⟩
        simp only [evBin,if_pos hk,intOp]
        rw [if_neg (by simp),if_neg (by simpa using hb)]
    · cases h
  · simp only [sInt] at h
    split at h
    · rename_i hk
      split at h
      · cases h
      · rename_i hb
        refine ⟨_,?_,h⟩
        simp only [evBin,if_pos hk,intOp]
        rw [if_neg (by simp),if_neg (by simpa using hb)]
    · cases h
  · simp only [sInt] at h
    split at h
    · cases h
    · rename_i hb
      refine ⟨_,?_,h⟩
      simp only [evBin,intOp]
      rw [if_pos (by simp),if_neg (by simpa using hb)]
  · simp only [sInt] at h
    split at h
    · cases h
    · rename_i hb
      refine ⟨_,?_,h⟩
      simp only [evBin,intOp]
      rw [if_pos (by simp),if_neg (by simpa using hb)]
def sStr (op:BinOp) (a b:List UInt8) (K:SV U→Option ρ):Option ρ :=
  match op with
  | .add=>if (decide (a.length + b.length ≤ 9223372036854775807)) then K (.raw (.str (a ++ b))) else none
  | op=>lit (strOp op a b) K
theorem lit_ok {x:Option AV} {K:SV U→Option ρ} {r:ρ} (h:lit x K = some r):∃ v,x = some v∧K (.raw v) = some r:=by
  cases x with
  | none=>cases h
  | some v=>exact ⟨v,rfl,h⟩
theorem sStr_ok {tb:List TI} {op:BinOp} {t:TypeId} {a b:List UInt8} {K:SV U→Option ρ} {r:ρ} (h:sStr op a b K = some r):∃ v,evBin tb op t (.str a) (.str b) = some v∧K (.raw v) = some r:=by
  cases op <;> first
    | (simp only [sStr] at h; exact lit_ok h)
    | skip
  simp only [sStr] at h
  split at h
  · rename_i hl
    exact ⟨_,by simp only [evBin,strOp]; rw [if_pos (by simpa using hl)],h⟩
  · cases h
def sEqF (M:TM U) (tb:List TI) (xs ys:List (SV U)):List (Nat × TypeId)→Option Bool
  | []=>some true
  | [(o,t)]=>match takeS M o 1 false xs,takeS M o 1 false ys,tb[t]? with
    | some (.raw a),some (.raw b),some ti=>if ti.agg = false∧ti.size = 1 then evEq tb 99 t a b else none
    | _,_,_=>none
  | (o,t) :: f :: r=>match takeS M o 1 false xs,takeS M o 1 false ys,tb[t]?,sEqF M tb xs ys (f :: r) with
    | some (.raw a),some (.raw b),some ti,some e'=>if ti.agg = false∧ti.size = 1 then (match evEq tb 99 t a b with | some e=>some (e && e') | none=>none) else none
    | _,_,_,_=>none
theorem sEqF_ok {M:TM U} {tb:List TI} (hM:TMOk M tb) (B:Bufs U) {xs ys:List (SV U)}:∀ (fs:List (Nat × TypeId)) {e:Bool},sEqF M tb xs ys fs = some e→evEqF tb (evEq tb 99) (flat M B xs) (flat M B ys) fs = some e:=by
  have tk:∀ {o:Nat} {zs:List (SV U)} {a:AV} {ti:TI},ti.agg = false∧ti.size = 1→takeS M o 1 false zs = some (.raw a)→(flat M B zs)[o]? = some a:=by
    intro o zs a ti hti h
    have h':takeS M o ti.size ti.agg zs = some (.raw a):=by rw [hti.1,hti.2]; exact h
    have:=takeS_ok hM B h'
    unfold takeCells at this
    rw [if_neg (by simp [hti.1])] at this
    exact this
  intro fs
  induction fs with
  | nil=>intro e h; exact h
  | cons f r ih=>
    obtain ⟨o,t⟩:=f
    intro e h
    cases r with
    | nil=>
      simp only [sEqF] at h
      split at h
      · rename_i a b ti ha hb hti
        split at h
        · rename_i hc
          simp only [evEqF,hti,hc.1,Bool.false_eq_true,if_false,tk hc ha,tk hc hb,h,Bool.and_true]
        · cases h
      · cases h
    | cons f2 r=>
      simp only [sEqF] at h
      split at h
      · rename_i a b ti e' ha hb hti he'
        split at h
        · rename_i hc
          split at h
          · rename_i e2 he2
            cases h
            have:=ih he'
            unfold evEqF
            simp only [hti,hc.1,Bool.false_eq_true,if_false,tk hc ha,tk hc hb,he2,this]
          · cases h
        · cases h
      · cases h
def sNil:SV U→Option Bool
  | .opt _ x=>some x.isNone
  | .pin _=>some false
  | .pint _ _ _=>some false
  | _=>none
theorem sNil_ok {M:TM U} {tb:List TI} (B:Bufs U) {v:SV U} {e:Bool} {t et:TypeId} {d:Nat} (ht:descOf tb t = some (.ptr et)) (h:sNil v = some e):evEq tb (d + 1) t (den M B v) .nilp = some e∧evEq tb (d + 1) t .nilp (den M B v) = some e:=by
  cases v <;> simp only [sNil] at h <;> first | (cases h; done) | skip
  · rename_i i x
    cases h
    cases x <;> simp [evEq,ht,den]
  · cases h; simp [evEq,ht,den]
  · cases h; simp [evEq,ht,den]
def neg? (op:BinOp) (e:Bool):Option Bool:=match op with | .eql=>some e | .neq=>some (!e) | _=>none
def sBin (M:TM U) (tb:List TI) (op:BinOp) (t:TypeId) (x y:SV U) (K:SV U→Option ρ):Option ρ :=
  match x,y with
  | .raw a,.raw b=>match a,b with
    | .int k a,.int k' b=>sInt op k k' a b K
    | .str a,.str b=>sStr op a b K
    | a,b=>lit (evBin tb op t a b) K
  | v,.raw .nilp=>match descOf tb t with
    | some (.ptr _)=>lit ((sNil v).bind fun e=>(neg? op e).map .bool) K
    | _=>none
  | .raw .nilp,v=>match descOf tb t with
    | some (.ptr _)=>lit ((sNil v).bind fun e=>(neg? op e).map .bool) K
    | _=>none
  | x,y=>match descOf tb t with
    | some (.struct fs)=>if isAgg M x = true∧isAgg M y = true∧eqOkT tb t = true then lit ((sEqF M tb (chunk x) (chunk y) fs).bind fun e=>(neg? op e).map .bool) K else none
    | _=>none
theorem evBin_eq {tb:List TI} {op:BinOp} {t:TypeId} {x y:AV} {e e':Bool} (h:evEq tb 100 t x y = some e) (hn:neg? op e = some e') (hx:∀ k a k' b,¬ (x = .int k a∧y = .int k' b)) (hs:∀ a b,¬ (x = .str a∧y = .str b)):evBin tb op t x y = some (.bool e'):=by
  unfold evBin
  split
  · exact (hx _ _ _ _ ⟨rfl,rfl⟩).elim
  · exact (hs _ _ ⟨rfl,rfl⟩).elim
  · cases op <;> simp only [neg?] at hn <;> first | (cases hn; done) | skip
    · cases hn; simp only [h,Option.map_some]
    · cases hn; simp only [h,Option.map_some]
theorem sBin_ok {M:TM U} {tb:List TI} (hM:TMOk M tb) (B:Bufs U) {op:BinOp} {t:TypeId} {x y:SV U} {K:SV U→Option ρ} {r:ρ} (h:sBin M tb op t x y K = some r) :
    ∃ a,evBin tb op t (den M B x) (den M B y) = some a∧K (.raw a) = some r:=by
  unfold sBin at h
  split at h
  · rename_i a b
    split at h
    · exact sInt_ok h
    · exact sStr_ok h
    · exact lit_ok h
  · rename_i v _
    split at h
    · rename_i et ht
      obtain ⟨a,ha,hk⟩:=lit_ok h
      obtain ⟨e,he,h2⟩:=Option.bind_eq_some_iff.1 ha
      obtain ⟨e',he',rfl⟩:=Option.map_eq_some_iff.1 h2
      exact ⟨_,evBin_eq (sNil_ok B ht he).1 he' (by simp [den]) (by simp [den]),hk⟩
    · cases h
  · rename_i v _
    split at h
    · rename_i et ht
      obtain ⟨a,ha,hk⟩:=lit_ok h
      obtain ⟨e,he,h2⟩:=Option.bind_eq_some_iff.1 ha
      obtain ⟨e',he',rfl⟩:=Option.map_eq_some_iff.1 h2
      exact ⟨_,evBin_eq (sNil_ok B ht he).2 he' (by simp [den]) (by simp [den]),hk⟩
    · cases h
  · split at h
    · rename_i fs ht
      split at h
      · rename_i hc
        obtain ⟨a,ha,hk⟩:=lit_ok h
        obtain ⟨e,he,h2⟩:=Option.bind_eq_some_iff.1 ha
        obtain ⟨e',he',rfl⟩:=Option.map_eq_some_iff.1 h2
        refine ⟨_,evBin_eq ?_ he' ?_ ?_,hk⟩
        · rw [isAgg_true hM B hc.1,isAgg_true hM B hc.2.1]
          unfold evEq
          simp only [ht,hc.2.2,if_true]
          have:=sEqF_ok hM B fs he
          rw [chunk_ok hM,chunk_ok hM] at this
          exact this
        · rw [isAgg_true hM B hc.1]; simp
        · rw [isAgg_true hM B hc.1]; simp
      · cases h
    · cases h
end
end Go.Proofs.YtjojaiomgdjhfaaGreatDoor.SY
namespace Go.Proofs.YtjojaiomgdjhfaaGreatDoor.SY
open Go AE F
section
variable {U:Nat→Type} {ρ:Type} (M:TM U) (tb:List TI)
def mem (B:Bufs U):SV U→Option (Bf U)
  | .lst _ i l=>some ⟨i,l⟩
  | .tip b=>find B b
  | _=>none
def elemOk (t i:Nat):Bool:=match descOf tb t with
  | some (.slice e)=>tsize tb e == some (M.size i)
  | _=>false
def sIndexAddr (B:Bufs U) (t:TypeId) (x i:SV U) (K:SV U→Option ρ):Option ρ :=
  match i with
  | .raw (.int _ n)=>match mem B x with
    | some ⟨j,l⟩=>if elemOk M tb t j then (ix l n).bind fun x=>K (.pint j x 0) else none
    | none=>match x,descOf tb t with
      | .pin [.arr j l],some (.array len e)=>if l.length = len∧tsize tb e = some (M.size j) then (ix l n).bind fun x=>K (.pint j x 0) else none
      | .pin cs,some (.array len e)=>match tsize tb e with
        | some sz=>if 0 ≤ n∧n < len then (match splitS M 300 (n.toNat * sz) cs with | some p=>K (.pin p.2) | none=>none) else none
        | none=>none
      | .raw (.ptr b off),some (.array len e)=>match tsize tb e with
        | some sz=>if 0 ≤ n∧n < len then K (.raw (.ptr b (off + n.toNat * sz))) else none
        | none=>none
      | .pint j x o,some (.array len e)=>match tsize tb e with
        | some sz=>if 0 ≤ n∧n < len then K (.pint j x (o + n.toNat * sz)) else none
        | none=>none
      | _,_=>none
  | _=>none
def sIndex (t:TypeId) (x i:SV U) (K:SV U→Option ρ):Option ρ :=
  match i with
  | .raw (.int _ n)=>match x,descOf tb t with
    | .raw (.str s),some .string=>(ix s n).bind fun x=>K (.raw (.int .u8 (x.toNat:Int)))
    | .arr j l,some (.array len e)=>match tb[e]? with
      | some ti=>if l.length = len∧ti.size = M.size j∧ti.agg = M.agg j∧(ti.agg = false→ti.size = 1) then (ix l n).bind fun x=>(match takeS M 0 ti.size ti.agg [.typ j x] with | some v=>K v | none=>none) else none
      | none=>none
    | x,some (.array len e)=>match tb[e]? with
      | some ti=>if isAgg M x = true∧0 ≤ n∧n < len then (match takeS M (n.toNat * ti.size) ti.size ti.agg (chunk x) with | some v=>K v | none=>none) else none
      | none=>none
    | _,_=>none
  | _=>none
def sFieldAddr (s:TypeId) (x:SV U) (f:Nat) (K:SV U→Option ρ):Option ρ :=
  match fieldsOf tb s with
  | none=>none
  | some fs=>match fs[f]? with
    | none=>none
    | some (off,ft)=>match tsize tb ft with
      | none=>none
      | some sz=>
        if sz = 0 then none else
        match x with
        | .raw (.ptr b o)=>K (.raw (.ptr b (o + off)))
        | .pint i x o=>K (.pint i x (o + off))
        | .pin cs=>match splitS M 300 off cs with
          | some p=>K (.pin p.2)
          | none=>none
        | _=>none
def sField (s:TypeId) (x:SV U) (f:Nat) (K:SV U→Option ρ):Option ρ :=
  match fieldsOf tb s with
  | none=>none
  | some fs=>match fs[f]? with
    | none=>none
    | some (off,ft)=>match tb[ft]? with
      | none=>none
      | some ti=>if isAgg M x then (match takeS M off ti.size ti.agg (chunk x) with | some v=>K v | none=>none) else none
def sLoad (H:List (Oid × Fl × List (SV U))) (t:TypeId) (a:SV U):Option (SV U) :=
  match tb[t]? with
  | none=>none
  | some ti=>match a with
    | .pin cs=>takeS M 0 ti.size ti.agg cs
    | .pint i x off=>takeS M off ti.size ti.agg [.typ i x]
    | .raw (.ptr b off)=>match find H b with
      | some (f,cs)=>if f.row then takeS M off ti.size ti.agg cs else none
      | none=>none
    | _=>none
def loadRd:SV U→List Oid
  | .raw (.ptr b _)=>[b]
  | _=>[]
def bound:Option (SV U)→Int→Option Int
  | none,d=>some d
  | some (.raw (.int _ n)),_=>some n
  | _,_=>none
def sSlice (B:Bufs U) (t:TypeId) (x:SV U) (lo hi:Option (SV U)) (K:SV U→Option ρ):Option ρ :=
  match x,descOf tb t with
  | .raw (.str s),some .string=>match bound lo 0,bound hi s.length with
    | some a,some b=>(sub s a b).bind fun m=>K (.raw (.str m))
    | _,_=>none
  | x,_=>match mem B x with
    | some ⟨i,l⟩=>if elemOk M tb t i then (match bound lo 0,bound hi l.length with
      | some a,some b=>(sub l a b).bind fun m=>K (.lst false i m)
      | _,_=>none) else none
    | none=>none
def sdef (B:Bufs U):SV U→Bool
  | .raw a=>cellOk a
  | .tip b=>(find B b).isSome
  | .typ i _=>true
  | .tup _=>false
  | _=>true
def sFill (B:Bufs U) (place:Nat→Option (Nat × Nat)) (cs:List (SV U)):List (Nat × SV U)→Option (List (SV U))
  | []=>some cs
  | (i,v) :: r=>match place i with
    | none=>none
    | some (off,size)=>
      if csize M v = some size∧sdef B v = true then (match setS M off v cs with
        | some cs'=>sFill B place cs' r
        | none=>none) else none
def sBuild (B:Bufs U) (t:TypeId) (parts:List (Nat × SV U)):Option (SV U) :=
  match tb[t]? with
  | none=>none
  | some ti=>
    if ti.zero.isEmpty || !(ti.zero.all cellOk) then none else
    match ti.desc with
    | .struct fs=>if fs.any fun f=>(tsize tb f.2).isNone then none else
      match sFill M B (fun i=>(fs[i]?).bind fun f=>(tsize tb f.2).map fun s=>(f.1,s)) (ti.zero.map .raw) parts with
      | some cs=>some (.agg cs)
      | none=>none
    | .array _ e=>match tsize tb e with
      | some s=>match sFill M B (fun i=>some (i * s,s)) (ti.zero.map .raw) parts with
        | some cs=>some (.agg cs)
        | none=>none
      | none=>none
    | _=>none
def sOnes (i:Nat):Nat→List (Nat × SV U)→Option (List (U i))
  | _,[]=>some []
  | n,(k,v) :: r=>if k = n then (match M.one i v,sOnes i (n + 1) r with
    | some x,some l=>some (x :: l)
    | _,_=>none) else none
def sBuildSlice (t:TypeId) (len:Nat) (parts:List (Nat × SV U)):Option (SV U) :=
  match descOf tb t with
  | some (.slice e)=>match tb[e]?,M.ofTy.lookup e with
    | some te,some i=>
      if len * te.size > 16777216 ∨ te.zero.length ≠ te.size ∨ te.size = 0 ∨ (te.agg = false∧te.size ≠ 1) ∨ te.size ≠ M.size i ∨ te.agg ≠ M.agg i ∨ parts.length ≠ len then none else
      match sOnes M i 0 parts with
      | some l=>some (.lst true i l)
      | none=>none
    | _,_=>none
  | _=>none
def sLen (B:Bufs U) (t:TypeId) (x:SV U) (K:SV U→Option ρ):Option ρ :=
  match descOf tb t,x with
  | some .string,.raw (.str s)=>K (.raw (.int .i64 s.length))
  | some (.array n _),_=>K (.raw (.int .i64 n))
  | some (.slice _),.raw .nils=>K (.raw (.int .i64 0))
  | some (.slice _),x=>match mem B x with
    | some ⟨_,l⟩=>K (.raw (.int .i64 l.length))
    | none=>none
  | _,_=>none
def raws:List (SV U)→Option (List AV)
  | []=>some []
  | .raw a :: r=>match raws r with | some l=>some (a :: l) | none=>none
  | _=>none
end
section
variable {U:Nat→Type} {ρ:Type} {Y:SZ U}
theorem mem_ok {M:TM U} {B:Bufs U} {x:SV U} {j:Nat} {l:List (U j)} (h:mem B x = some ⟨j,l⟩):∃ tok,den M B x = .slice tok (M.size j) (l.map (M.enc j)):=by
  cases x <;> simp only [mem] at h <;> first | (cases h; done) | skip
  · cases h; exact ⟨_,rfl⟩
  · rename_i b; exact ⟨.buf b,by simp only [den,h]⟩
theorem ix_some {α:Type} {l:List α} {n:Int} {x:α} (h:ix l n = some x):0 ≤ n∧l[n.toNat]? = some x:=by
  unfold ix at h
  split at h
  · exact ⟨by assumption,h⟩
  · cases h
theorem drop_flat {M:TM U} {j:Nat} {sz:Nat}:∀ {l:List (U j)} (k:Nat) {x:U j},(∀ y,(cellsOf (M.enc j y)).length = sz)→l[k]? = some x→∃ r,(l.flatMap fun x=>cellsOf (M.enc j x)).drop (k * sz) = cellsOf (M.enc j x) ++ r
  | [],k,x,_,h=>by simp at h
  | y :: l,0,x,hs,h=>by
    simp at h; subst h
    exact ⟨_,by rw [Nat.zero_mul,List.drop_zero,List.flatMap_cons]⟩
  | y :: l,k + 1,x,hs,h=>by
    obtain ⟨r,hr⟩:=drop_flat (l:=l) k hs (by simpa using h)
    refine ⟨r,?_⟩
    rw [List.flatMap_cons,Nat.succ_mul,Nat.add_comm,← List.drop_drop,← hs y,List.drop_left',hs y,hr]
    rfl
theorem lookup_ty {M:TM U} {tb:List TI} (hM:TMOk M tb) {e i:Nat} {te:TI} (h:M.ofTy.lookup e = some i) (ht:tb[e]? = some te):te.size = M.size i∧te.agg = M.agg i∧0 < M.size i:=by
  have hmem:(e,i) ∈ M.ofTy:=by
    have:∀ l:List (Nat × Nat),l.lookup e = some i→(e,i) ∈ l:=by
      intro l
      induction l with
      | nil=>intro h; cases h
      | cons p l ih=>
        obtain ⟨a,b⟩:=p
        intro h
        simp only [List.lookup] at h
        split at h
        · rename_i he
          cases h
          rw [beq_iff_eq] at he; subst he
          exact List.mem_cons_self
        · exact List.mem_cons_of_mem _ (ih h)
    exact this _ h
  have:=List.all_eq_true.1 hM.ty _ hmem
  simp only [ht,Bool.and_eq_true,beq_iff_eq,decide_eq_true_eq] at this
  exact ⟨this.1.1,this.1.2,this.2⟩
theorem sIndexAddr_ok {S:SSt U} {o:Oper} {t:TypeId} {x i:Operand} (ho:o.op = .indexAddr t x i) {K:SV U→Option ρ} {r:ρ} (h:sIndexAddr Y.M Y.Z.tb S.B t (evS Y S.A x) (evS Y S.A i) K = some r):∃ v,Fact Y S o [] v∧K v = some r:=by
  have h0:evOp Y.Z.tb c0 noCall 0 (evalA Y.Z.gl (denS Y S).A) (denS Y S).H o = (evIndexAddr Y.Z.tb t (den Y.M S.B (evS Y S.A x)) (den Y.M S.B (evS Y S.A i))).map fun v=>({ v }:OpR):=by
    unfold evOp; simp only [ho,evS_ok]
  generalize evS Y S.A x = vx at h h0
  generalize evS Y S.A i = vi at h h0
  unfold sIndexAddr at h
  split at h
  · rename_i kd n
    simp only [den] at h0
    split at h
    · rename_i j l hm
      obtain ⟨tok,hd⟩:=mem_ok (M:=Y.M) hm
      split at h
      · rename_i he
        obtain ⟨y,hy,hk⟩:=Option.bind_eq_some_iff.1 h
        refine ⟨_,Fact.map h0 (a:=.pin (cellsOf (Y.M.enc j y))) ?_ ?_,hk⟩
        · rw [hd]
          unfold elemOk at he
          split at he
          · rename_i e hde
            simp only [beq_iff_eq] at he
            obtain ⟨h1,h2⟩:=ix_some hy
            unfold evIndexAddr
            simp only [hde,he,ne_eq,not_true,if_false,if_pos h1,List.getElem?_map,h2,Option.map_some]
          · cases he
        · simp only [den,List.drop_zero]; exact Wk.refl _
      · cases h
    · split at h
      · rename_i j l len e hde _
        split at h
        · rename_i hc
          obtain ⟨y,hy,hk⟩:=Option.bind_eq_some_iff.1 h
          obtain ⟨h1,h2⟩:=ix_some hy
          have hlt:=(List.getElem?_eq_some_iff.1 h2).1
          obtain ⟨r,hr⟩:=drop_flat (M:=Y.M) n.toNat (Y.ok.size j) h2
          refine ⟨_,Fact.map h0 (a:=.pin (cellsOf (Y.M.enc j y) ++ r)) ?_ ?_,hk⟩
          · unfold evIndexAddr
            simp only [den,flat,hde,hc.2,List.append_nil]
            rw [show ∀ z,cellsOf (AV.agg z) = z from fun _=>rfl]
            rw [if_pos ⟨h1,by omega⟩]
            exact congrArg (fun z=>some (AV.pin z)) hr
          · simp only [den,List.drop_zero]; exact Wk.pin _
        · cases h
      · rename_i cs len e _ hde _
        split at h
        · rename_i sz hsz
          split at h
          · rename_i hc
            split at h
            · rename_i p hp
              obtain ⟨h1,h2⟩:=splitS_ok Y.ok S.B _ _ _ hp
              refine ⟨_,Fact.map h0 (a:=.pin (flat Y.M S.B p.2)) ?_ (Wk.refl _),h⟩
              unfold evIndexAddr
              simp only [den,hde,hsz]
              rw [if_pos hc,h1,← h2,List.drop_left']
              rfl
            · cases h
          · cases h
        · cases h
      · rename_i b off len e hde _
        split at h
        · rename_i sz hsz
          split at h
          · rename_i hc
            refine ⟨_,Fact.map h0 (a:=.ptr b (off + n.toNat * sz)) ?_ (Wk.refl _),h⟩
            unfold evIndexAddr
            simp only [den,hde,hsz]
            rw [if_pos hc]
          · cases h
        · cases h
      · rename_i j y o len e hde _
        split at h
        · rename_i sz hsz
          split at h
          · rename_i hc
            refine ⟨_,Fact.map h0 (a:=.pin ((cellsOf (Y.M.enc j y)).drop (o + n.toNat * sz))) ?_ (Wk.refl _),h⟩
            unfold evIndexAddr
            simp only [den,hde,hsz]
            rw [if_pos hc,List.drop_drop]
          · cases h
        · cases h
      · cases h
  · cases h
theorem sIndex_ok {S:SSt U} {o:Oper} {t:TypeId} {x i:Operand} (ho:o.op = .index t x i) {K:SV U→Option ρ} {r:ρ} (h:sIndex Y.M Y.Z.tb t (evS Y S.A x) (evS Y S.A i) K = some r):∃ v,Fact Y S o [] v∧K v = some r:=by
  have h0:evOp Y.Z.tb c0 noCall 0 (evalA Y.Z.gl (denS Y S).A) (denS Y S).H o = (evIndex Y.Z.tb t (den Y.M S.B (evS Y S.A x)) (den Y.M S.B (evS Y S.A i))).map fun v=>({ v }:OpR):=by
    unfold evOp; simp only [ho,evS_ok]
  generalize evS Y S.A x = vx at h h0
  generalize evS Y S.A i = vi at h h0
  unfold sIndex at h
  split at h
  · rename_i kd n
    simp only [den] at h0
    split at h
    · rename_i s _ hde
      obtain ⟨y,hy,hk⟩:=Option.bind_eq_some_iff.1 h
      obtain ⟨h1,h2⟩:=ix_some hy
      refine ⟨_,Fact.map h0 (a:=.int .u8 y.toNat) ?_ (Wk.refl _),hk⟩
      unfold evIndex
      simp only [den,hde,if_pos h1,h2,Option.map_some]
    · rename_i j l len e hde
      split at h
      · rename_i ti hti
        split at h
        · rename_i hc
          obtain ⟨hc1,hc2,hc3,hc4⟩:=hc
          obtain ⟨y,hy,hk⟩:=Option.bind_eq_some_iff.1 h
          obtain ⟨h1,h2⟩:=ix_some hy
          have hlt:=(List.getElem?_eq_some_iff.1 h2).1
          obtain ⟨r,hr⟩:=drop_flat (M:=Y.M) n.toNat (Y.ok.size j) h2
          split at hk
          case h_2=>cases hk
          rename_i v hv
          have hdv:den Y.M S.B v = Y.M.enc j y:=by
            have h3:=takeS_ok Y.ok S.B hv
            simp only [flat,List.append_nil,den] at h3
            have hsh:=Y.ok.shape j y
            have hsz:=Y.ok.size j y
            unfold takeCells at h3
            split at h3
            · rename_i hag
              rw [if_pos (hc3 ▸ hag)] at hsh
              obtain ⟨cs,hcs⟩:=hsh
              split at h3
              · have h4:=Option.some.inj h3
                rw [← h4,List.drop_zero,List.take_of_length_le (by rw [hsz,hc2]; exact Nat.le_refl _),hcs]; rfl
              · cases h3
            · rename_i hag
              have hag':Y.M.agg j = false:=by rw [← hc3]; simpa using hag
              rw [if_neg (by simp [hag'])] at hsh
              rw [cellsOf_one hsh] at h3
              exact (Option.some.inj h3).symm
          refine ⟨_,Fact.map h0 (a:=Y.M.enc j y) ?_ (Wk.eq hdv.symm),hk⟩
          unfold evIndex
          simp only [den,hde,hti]
          rw [if_pos ⟨h1,by omega⟩,hc2]
          have hsh:=Y.ok.shape j y
          have hsz:=Y.ok.size j y
          unfold takeCells
          split
          · rename_i hag
            rw [if_pos (hc3 ▸ hag)] at hsh
            obtain ⟨cs,hcs⟩:=hsh
            have hle:n.toNat * Y.M.size j + Y.M.size j ≤ (l.flatMap fun x=>cellsOf (Y.M.enc j x)).length:=by
              have:=congrArg List.length hr
              simp only [List.length_drop,List.length_append,hsz] at this
              have h0:=Nat.le_of_lt hlt
              by_cases hz:Y.M.size j = 0
              · rw [hz] at this ⊢; omega
              · omega
            rw [hc2,if_pos hle,hr,← hsz,List.take_left']
            · rw [hcs]; rfl
            · rfl
          · rename_i hag
            have hag':Y.M.agg j = false:=by rw [← hc3]; simpa using hag
            rw [if_neg (by simp [hag'])] at hsh
            have h3:=hc4 (by simpa using hag)
            have e:(l.flatMap fun x=>cellsOf (Y.M.enc j x))[n.toNat * Y.M.size j]? = (cellsOf (Y.M.enc j y) ++ r)[0]?:=by rw [← hr,List.getElem?_drop,Nat.add_zero]
            rw [e,cellsOf_one hsh]; rfl
        · cases h
      · cases h
    · rename_i len e hde _
      split at h
      · rename_i ti hti
        split at h
        · rename_i hc
          split at h
          · rename_i v hv
            have:=takeS_ok Y.ok S.B hv
            rw [chunk_ok Y.ok] at this
            refine ⟨_,Fact.map h0 (a:=den Y.M S.B v) ?_ (Wk.refl _),h⟩
            rw [isAgg_true Y.ok S.B hc.1]
            unfold evIndex
            rw [show descOf Y.Z.tb t = some (.array _ _) from ‹_›]
            simp only [hti]
            rw [if_pos hc.2]; exact this
          · cases h
        · cases h
      · cases h
    · cases h
  · cases h
theorem sFieldAddr_ok {S:SSt U} {o:Oper} {s:TypeId} {x:Operand} {f:Nat} (ho:o.op = .fieldAddr s x f) {K:SV U→Option ρ} {r:ρ} (h:sFieldAddr Y.M Y.Z.tb s (evS Y S.A x) f K = some r):∃ v,Fact Y S o [] v∧K v = some r:=by
  have h0:evOp Y.Z.tb c0 noCall 0 (evalA Y.Z.gl (denS Y S).A) (denS Y S).H o = (evFieldAddr Y.Z.tb s (den Y.M S.B (evS Y S.A x)) f).map fun v=>({ v }:OpR):=by
    unfold evOp; simp only [ho,evS_ok]
  generalize evS Y S.A x = vx at h h0
  unfold sFieldAddr at h
  split at h
  · cases h
  rename_i fs hfs
  split at h
  · cases h
  rename_i off ft hf
  split at h
  · cases h
  rename_i sz hsz
  split at h
  · cases h
  rename_i hz
  unfold evFieldAddr at h0
  simp only [hfs,hf,hsz,hz,if_false] at h0
  split at h
  · exact ⟨_,Fact.of h0 (Wk.refl _),h⟩
  · refine ⟨_,Fact.of h0 ?_,h⟩
    simp only [den,List.drop_drop]; exact Wk.refl _
  · split at h
    · rename_i p hp
      obtain ⟨h1,h2⟩:=splitS_ok Y.ok S.B _ _ _ hp
      refine ⟨_,Fact.of h0 ?_,h⟩
      simp only [den]
      rw [h1,← h2,List.drop_left' rfl]; exact Wk.refl _
    · cases h
  · cases h
theorem sField_ok {S:SSt U} {o:Oper} {s:TypeId} {x:Operand} {f:Nat} (ho:o.op = .field s x f) {K:SV U→Option ρ} {r:ρ} (h:sField Y.M Y.Z.tb s (evS Y S.A x) f K = some r):∃ v,Fact Y S o [] v∧K v = some r:=by
  have h0:evOp Y.Z.tb c0 noCall 0 (evalA Y.Z.gl (denS Y S).A) (denS Y S).H o = (evField Y.Z.tb s (den Y.M S.B (evS Y S.A x)) f).map fun v=>({ v }:OpR):=by
    unfold evOp; simp only [ho,evS_ok]
  generalize evS Y S.A x = vx at h h0
  unfold sField at h
  split at h
  · cases h
  rename_i fs hfs
  split at h
  · cases h
  rename_i off ft hf
  split at h
  · cases h
  rename_i ti hti
  split at h
  · rename_i hag
    split at h
    · rename_i v hv
      have:=takeS_ok Y.ok S.B hv
      rw [chunk_ok Y.ok] at this
      refine ⟨_,Fact.map h0 (a:=den Y.M S.B v) ?_ (Wk.refl _),h⟩
      rw [isAgg_true Y.ok S.B hag]
      unfold evField
      simp only [hfs,hf,hti]; exact this
    · cases h
  · cases h
theorem takeCells_drop (ti:TI) (l:List AV) (off:Nat) {v:AV} (h:takeCells ti l off = some v):takeCells ti (l.drop off) 0 = some v:=by
  unfold takeCells at h ⊢
  split
  · rename_i hag
    rw [if_pos hag] at h
    split at h
    · rename_i hle
      rw [if_pos (by rw [List.length_drop]; omega),List.drop_zero]; exact h
    · cases h
  · rename_i hag
    rw [if_neg hag] at h
    rw [List.getElem?_drop,Nat.add_zero]; exact h
theorem sLoad_ok {S:SSt U} {o:Oper} {t:TypeId} {a:Operand} (ho:o.op = .load t a) {v:SV U} (h:sLoad Y.M Y.Z.tb S.H t (evS Y S.A a) = some v):Fact Y S o (loadRd (evS Y S.A a)) v:=by
  have h0:evOp Y.Z.tb c0 noCall 0 (evalA Y.Z.gl (denS Y S).A) (denS Y S).H o = evLoad Y.Z.tb (denS Y S).H t (den Y.M S.B (evS Y S.A a)):=by
    unfold evOp; simp only [ho,evS_ok]
  generalize evS Y S.A a = va at h h0
  unfold sLoad at h
  split at h
  · cases h
  rename_i ti hti
  unfold evLoad at h0
  split at h
  · simp only [hti,den] at h0
    exact Fact.map h0 (takeS_ok Y.ok S.B h) (Wk.refl _)
  · simp only [hti,den] at h0
    have:=takeS_ok Y.ok S.B h
    simp only [flat,List.append_nil,den] at this
    exact Fact.map h0 (takeCells_drop ti _ _ this) (Wk.refl _)
  · rename_i b off
    split at h
    · rename_i wr cs hf
      split at h
      case isFalse=>cases h
      rename_i hrow
      simp only [hti,den,findH,hf,hrow,if_true] at h0
      have:=takeS_ok Y.ok S.B h
      rw [this] at h0
      exact ⟨_,h0,rfl,rfl,rfl,Wk.refl _⟩
    · cases h
  · cases h
end
end Go.Proofs.YtjojaiomgdjhfaaGreatDoor.SY
namespace Go.Proofs.YtjojaiomgdjhfaaGreatDoor.SY
open Go AE F
section
variable {U:Nat→Type} {ρ:Type} {Y:SZ U}
theorem sub_some {α:Type} {l m:List α} {a b:Int} (h:sub l a b = some m):0 ≤ a∧a ≤ b∧b ≤ l.length∧m = (l.take b.toNat).drop a.toNat:=by
  unfold sub at h
  split at h
  · rename_i hc; cases h; exact ⟨hc.1,hc.2.1,hc.2.2,rfl⟩
  · cases h
theorem bound_hi {B:Bufs U} {x:Option (SV U)} {top:Nat} {b:Int} (h:bound x top = some b) (h1:0 ≤ b) (h2:b ≤ top):bndO (x.map (den Y.M B)) top top = some b.toNat:=by
  unfold bound at h
  split at h
  · cases h; simp [bndO]
  · cases h
    simp only [Option.map_some,den,bndO]
    exact bnd_of h1 h2
  · cases h
theorem bound_lo {B:Bufs U} {x:Option (SV U)} {top:Nat} {b:Int} (h:bound x 0 = some b) (h1:0 ≤ b) (h2:b ≤ top):bndO (x.map (den Y.M B)) 0 top = some b.toNat:=by
  unfold bound at h
  split at h
  · cases h; simp [bndO]
  · cases h
    simp only [Option.map_some,den,bndO]
    exact bnd_of h1 h2
  · cases h
theorem sSlice_ok {S:SSt U} {o:Oper} {t:TypeId} {x:Operand} {lo hi:Option Operand} (ho:o.op = .slice t x lo hi none) {K:SV U→Option ρ} {r:ρ}
    (h:sSlice Y.M Y.Z.tb S.B t (evS Y S.A x) (lo.map (evS Y S.A)) (hi.map (evS Y S.A)) K = some r):∃ v,Fact Y S o [] v∧K v = some r:=by
  have h0:evOp Y.Z.tb c0 noCall 0 (evalA Y.Z.gl (denS Y S).A) (denS Y S).H o = (evSlice Y.Z.tb t (den Y.M S.B (evS Y S.A x)) ((lo.map (evS Y S.A)).map (den Y.M S.B)) ((hi.map (evS Y S.A)).map (den Y.M S.B)) none).map fun v=>({ v }:OpR):=by
    unfold evOp
    simp only [ho,evS_ok,Option.map_none,Option.map_map]
    cases lo <;> cases hi <;> simp only [Option.map_some,Option.map_none,evS_ok,Function.comp]
  generalize evS Y S.A x = vx at h h0
  generalize lo.map (evS Y S.A) = vl at h h0
  generalize hi.map (evS Y S.A) = vh at h h0
  unfold sSlice at h
  split at h
  · rename_i s hde
    split at h
    · rename_i a b ha hb
      obtain ⟨m,hm,hk⟩:=Option.bind_eq_some_iff.1 h
      obtain ⟨h1,h2,h3,rfl⟩:=sub_some hm
      refine ⟨_,Fact.map h0 (a:=.str ((s.take b.toNat).drop a.toNat)) ?_ (Wk.refl _),hk⟩
      unfold evSlice
      simp only [den,hde]
      rw [bound_hi hb (by omega) h3]
      simp only
      rw [bound_lo ha h1 (by omega)]
    · cases h
  · split at h
    · rename_i i l hm
      split at h
      · rename_i he
        split at h
        · rename_i a b ha hb
          obtain ⟨m,hm2,hk⟩:=Option.bind_eq_some_iff.1 h
          obtain ⟨h1,h2,h3,rfl⟩:=sub_some hm2
          obtain ⟨tok,hd⟩:=mem_ok (M:=Y.M) hm
          unfold elemOk at he
          split at he
          · rename_i e hde
            simp only [beq_iff_eq] at he
            refine ⟨_,Fact.map h0 (a:=.slice (if b.toNat = (l.map (Y.M.enc i)).length∧(a.toNat = 0 ∨ tok = .full) then tok else .none) (Y.M.size i) (((l.map (Y.M.enc i)).take b.toNat).drop a.toNat)) ?_ ?_,hk⟩
            · rw [hd]
              unfold evSlice
              simp only [hde,he,ne_eq,not_true,if_false]
              rw [bound_hi (by rw [List.length_map]; exact hb) (by omega) (by rw [List.length_map]; exact h3)]
              simp only
              rw [bound_lo ha h1 (by omega)]
            · simp only [den,Bool.false_eq_true,if_false,List.map_drop,List.map_take]
              exact Wk.tok _ _ _
          · cases he
        · cases h
      · cases h
    · cases h
theorem sdef_ok {M:TM U} {tb:List TI} (hM:TMOk M tb) {B:Bufs U} {v:SV U} (h:sdef B v = true):noUndef (den M B v) = true:=by
  cases v <;> simp only [sdef] at h <;> first | rfl | (cases h; done) | skip
  · rename_i a; cases a <;> first | rfl | cases h
  · rename_i i x
    have:=hM.shape i x
    simp only [den]
    split at this
    · obtain ⟨cs,e⟩:=this; rw [e]; rfl
    · revert this; cases M.enc i x <;> intro h <;> first | rfl | cases h
  · simp only [den]
    split
    · rfl
    · rename_i hn; rw [hn] at h; cases h
  · rename_i i x; cases x <;> rfl
theorem sFill_ok {M:TM U} {tb:List TI} (hM:TMOk M tb) {B:Bufs U} {place:Nat→Option (Nat × Nat)}:∀ {parts:List (Nat × SV U)} {cs cs':List (SV U)},sFill M B place cs parts = some cs'→fillL place (flat M B cs) (parts.map fun p=>(p.1,den M B p.2)) = some (flat M B cs')
  | [],cs,cs',h=>by simp only [sFill] at h; cases h; rfl
  | (i,v) :: r,cs,cs',h=>by
    simp only [sFill] at h
    split at h
    · cases h
    rename_i off size hp
    split at h
    · rename_i hc
      split at h
      · rename_i cs1 hs
        obtain ⟨h1,h2,h3⟩:=setS_ok hM B hs
        simp only [List.map_cons,fillL,hp]
        have hl:=csize_ok hM B _ hc.1
        rw [if_neg (by rw [hl,sdef_ok hM hc.2]; simp; omega),h1]
        exact sFill_ok hM h
      · cases h
    · cases h
theorem cellOk_flat {M:TM U} {B:Bufs U} {l:List AV} (h:l.all cellOk = true):flat M B (l.map .raw) = l:=flat_raw M B l fun a ha=>.inl (List.all_eq_true.1 h a ha)
theorem sBuild_ok {S:SSt U} {o:Oper} {t:TypeId} {parts:Array (Nat × Operand)} (ho:o.op = .build t parts) {v:SV U} (h:sBuild Y.M Y.Z.tb S.B t (parts.toList.map fun p=>(p.1,evS Y S.A p.2)) = some v):Fact Y S o [] v:=by
  have h0:evOp Y.Z.tb c0 noCall 0 (evalA Y.Z.gl (denS Y S).A) (denS Y S).H o = (evBuild Y.Z.tb t ((parts.toList.map fun p=>(p.1,evS Y S.A p.2)).map fun p=>(p.1,den Y.M S.B p.2))).map fun v=>({ v }:OpR):=by
    unfold evOp; simp only [ho,evS_ok,List.map_map,Function.comp_def]
  generalize (parts.toList.map fun p=>(p.1,evS Y S.A p.2)) = ps at h h0
  unfold sBuild at h
  unfold evBuild at h0
  split at h
  · cases h
  rename_i ti hti
  split at h
  · cases h
  rename_i hz
  simp only [Bool.or_eq_true,Bool.not_eq_true',not_or,Bool.not_eq_true,Bool.not_eq_false] at hz
  rw [hti] at h0
  simp only [hz.1,Bool.false_eq_true,if_false] at h0
  split at h
  · rename_i fs hd
    split at h
    · cases h
    rename_i hn
    split at h
    · rename_i cs hf
      cases h
      have:=sFill_ok Y.ok hf
      rw [cellOk_flat hz.2] at this
      simp only [hd,if_neg hn] at h0
      rw [this] at h0
      exact Fact.map h0 rfl (Wk.refl _)
    · cases h
  · rename_i e hd
    split at h
    · rename_i s hs
      split at h
      · rename_i cs hf
        cases h
        have:=sFill_ok Y.ok hf
        rw [cellOk_flat hz.2] at this
        simp only [hd,hs] at h0
        rw [this] at h0
        exact Fact.map h0 rfl (Wk.refl _)
      · cases h
    · cases h
  · cases h
theorem sOnes_fill {M:TM U} {tb:List TI} (hM:TMOk M tb) {B:Bufs U} {i:Nat}:∀ {parts:List (Nat × SV U)} {n:Nat} {l:List (U i)} {a b:List AV},sOnes M i n parts = some l→a.length = n * M.size i→b.length = parts.length * M.size i →
    fillL (fun k=>some (k * M.size i,M.size i)) (a ++ b) (parts.map fun p=>(p.1,den M B p.2)) = some (a ++ l.flatMap fun x=>cellsOf (M.enc i x))
  | [],n,l,a,b,h,ha,hb=>by
    simp only [sOnes] at h
    cases h
    simp at hb
    subst hb
    simp [fillL]
  | (k,v) :: r,n,l,a,b,h,ha,hb=>by
    simp only [sOnes] at h
    split at h
    · rename_i hk
      split at h
      · rename_i x l' hx hr
        cases h
        have hd:=hM.one B i v x hx
        have hsz:=hM.size i x
        simp only [List.length_cons,Nat.succ_mul] at hb
        simp only [List.map_cons,fillL,hd,hsz]
        rw [if_neg ?_]
        · obtain ⟨b1,b2,rfl,hb1⟩:∃ b1 b2,b = b1 ++ b2∧b1.length = M.size i:=⟨b.take (M.size i),b.drop (M.size i),(List.take_append_drop _ _).symm,by rw [List.length_take]; omega⟩
          rw [hk,← ha,setRange_mid _ _ _ _ (by rw [hb1,hsz]),← List.append_assoc]
          rw [sOnes_fill hM (B:=B) hr (a:=a ++ cellsOf (M.enc i x)) (b:=b2) (by rw [List.length_append,ha,hsz,Nat.succ_mul]) (by rw [List.length_append] at hb; omega)]
          rw [List.flatMap_cons,List.append_assoc]
        · have hu:=sdef_ok hM (v:=.typ i x) (B:=B) rfl
          simp only [den] at hu
          rw [hu,List.length_append,hk]
          simp; omega
      · cases h
    · cases h
theorem cleanL_cells {M:TM U} {tb:List TI} (hM:TMOk M tb) {i:Nat} (x:U i):cleanL (cellsOf (M.enc i x)) = cellsOf (M.enc i x):=by
  have h:=hM.clean i x
  cases e:M.enc i x <;> rw [e] at h <;> simp only [cellsOf,cleanL] <;> first | (simp only [AE.clean,AV.agg.injEq] at h; exact h) | rw [h]
theorem cleanL_append (a b:List AV):cleanL (a ++ b) = cleanL a ++ cleanL b:=by induction a with
  | nil=>rfl
  | cons x a ih=>simp only [List.cons_append,cleanL,ih]
theorem refsL_append (a b:List AV):refsL (a ++ b) = refsL a ++ refsL b:=by induction a with
  | nil=>rfl
  | cons x a ih=>simp only [List.cons_append,refsL,ih,List.append_assoc]
theorem toksL_append (a b:List AV):toksL (a ++ b) = toksL a ++ toksL b:=by induction a with
  | nil=>rfl
  | cons x a ih=>simp only [List.cons_append,toksL,ih,List.append_assoc]
theorem refsL_cells (a:AV):refsL (cellsOf a) = refs a:=by cases a <;> simp [cellsOf,refsL,refs]
theorem toksL_cells (a:AV):toksL (cellsOf a) = toks a:=by cases a <;> simp [cellsOf,toksL,toks]
theorem members_still {M:TM U} {tb:List TI} (hM:TMOk M tb) {i:Nat}:∀ l:List (U i),cleanL (l.flatMap fun x=>cellsOf (M.enc i x)) = (l.flatMap fun x=>cellsOf (M.enc i x))∧stillL (l.flatMap fun x=>cellsOf (M.enc i x)) = true
  | []=>⟨rfl,rfl⟩
  | x :: l=>by
    obtain ⟨h1,h2⟩:=members_still hM l
    simp only [stillL,Bool.and_eq_true] at h2
    refine ⟨by rw [List.flatMap_cons,cleanL_append,cleanL_cells hM,h1],?_⟩
    simp only [stillL,List.flatMap_cons,refsL_append,toksL_append,List.all_append,refsL_cells,toksL_cells,hM.refs,hM.toks,hM.cells,List.nil_append,Bool.true_and,h2.1.1,h2.1.2,h2.2,Bool.and_self]
theorem members_chunk {M:TM U} {tb:List TI} (hM:TMOk M tb) {i:Nat} (hs:M.agg i = false→M.size i = 1):∀ l:List (U i),AE.chunk (M.agg i) (M.size i) l.length (l.flatMap fun x=>cellsOf (M.enc i x)) = l.map (M.enc i)
  | []=>rfl
  | x :: l=>by
    have hsz:=hM.size i x
    have hsh:=hM.shape i x
    simp only [List.length_cons,AE.chunk,List.flatMap_cons,List.map_cons]
    congr 1
    · split
      · rename_i hag
        rw [if_pos hag] at hsh
        obtain ⟨cs,e⟩:=hsh
        rw [← hsz,List.take_left' rfl,e]; rfl
      · rename_i hag
        rw [if_neg hag] at hsh
        rw [cellsOf_one hsh]; rfl
    · rw [← hsz,List.drop_left' rfl,hsz]
      exact members_chunk hM hs l
theorem sBuildSlice_ok {S:SSt U} {o:Oper} {t:TypeId} {len:Nat} {parts:Array (Nat × Operand)} (ho:o.op = .buildSlice t len parts) {v:SV U} (h:sBuildSlice Y.M Y.Z.tb t len (parts.toList.map fun p=>(p.1,evS Y S.A p.2)) = some v):Fact Y S o [] v:=by
  have h0:evOp Y.Z.tb c0 noCall 0 (evalA Y.Z.gl (denS Y S).A) (denS Y S).H o = (evBuildSlice Y.Z.tb t len ((parts.toList.map fun p=>(p.1,evS Y S.A p.2)).map fun p=>(p.1,den Y.M S.B p.2))).map fun v=>({ v }:OpR):=by
    unfold evOp; simp only [ho,evS_ok,List.map_map,Function.comp_def]
  generalize (parts.toList.map fun p=>(p.1,evS Y S.A p.2)) = ps at h h0
  unfold sBuildSlice at h
  split at h
  · rename_i e hd
    split at h
    · rename_i te i hte hi
      split at h
      · cases h
      rename_i hc
      split at h
      · rename_i l hl
        cases h
        simp only [not_or,Decidable.not_not,not_and] at hc
        obtain ⟨c1,c2,c3,c4,c5,c6,c7⟩:=hc
        have hlen:l.length = len:=by
          rw [← c7]
          have:∀ {ps:List (Nat × SV U)} {n:Nat} {l:List (U i)},sOnes Y.M i n ps = some l→l.length = ps.length:=by
            intro ps
            induction ps with
            | nil=>intro n l h; simp only [sOnes] at h; cases h; rfl
            | cons p ps ih=>
              intro n l h
              obtain ⟨k,v⟩:=p
              simp only [sOnes] at h
              split at h
              · split at h
                · rename_i hr; cases h; simp only [List.length_cons,ih hr]
                · cases h
              · cases h
          exact this hl
        have hfill:=sOnes_fill Y.ok (B:=S.B) hl (a:=[]) (b:=(List.replicate len te.zero).flatten) (by simp) (by simp [c2,c5,c7])
        rw [List.nil_append,List.nil_append] at hfill
        obtain ⟨m1,m2⟩:=members_still Y.ok l
        refine Fact.map h0 (a:=.slice .full (Y.M.size i) (l.map (Y.M.enc i))) ?_ (Wk.refl _)
        unfold evBuildSlice
        simp only [hd,hte]
        rw [if_neg (by simp only [not_or,Decidable.not_not,not_and]; exact ⟨c1,c2,c3,c4⟩),c5,hfill]
        simp only [m1,m2,if_true,c6,← hlen]
        rw [members_chunk Y.ok (fun hf=>by rw [← c5]; exact c4 (c6.trans hf))]
      · cases h
    · cases h
  · cases h
theorem sLen_ok {S:SSt U} {o:Oper} {c:Call} (ho:o.op = .call c) (hcal:c.callee = .builtin .len) {t:TypeId} {ts:List TypeId} {x:Operand} {xs:List Operand} (hts:c.argTypes.toList = t :: ts) (hxs:c.args.toList = x :: xs) {K:SV U→Option ρ} {r:ρ}
    (h:sLen Y.Z.tb S.B t (evS Y S.A x) K = some r):∃ v,Fact Y S o [] v∧K v = some r:=by
  have h0:∀ n:Int,(match descOf Y.Z.tb t,den Y.M S.B (evS Y S.A x) with
        | some .string,.str s=>some { v:=.int .i64 s.length }
        | some (.array n _),_=>some { v:=.int .i64 n }
        | some (.slice _),.slice _ _ es=>some { v:=.int .i64 es.length }
        | some (.slice _),.nils=>some { v:=.int .i64 0 }
        | some (.slice _),.mref _ _ _ len _=>some { v:=.int .i64 len }
        | _,_=>(none:Option OpR)) = some { v:=.int .i64 n }→Fact Y S o [] (.raw (.int .i64 n)):=by
    intro n hn
    refine Fact.of (a:=.int .i64 n) ?_ (Wk.refl _)
    unfold evOp
    simp only [ho,hcal,hts,hxs,List.map_cons,evS_ok]
    exact hn
  generalize evS Y S.A x = vx at h h0
  unfold sLen at h
  split at h
  · rename_i s hd; exact ⟨_,h0 _ (by simp only [hd,den]),h⟩
  · rename_i n e hd; exact ⟨_,h0 _ (by simp only [hd]),h⟩
  · rename_i e hd; exact ⟨_,h0 _ (by simp only [hd,den]),h⟩
  · rename_i e hd _
    split at h
    · rename_i i l hm
      obtain ⟨tok,hden⟩:=mem_ok (M:=Y.M) hm
      exact ⟨_,h0 _ (by simp only [hd,hden,List.length_map]),h⟩
    · cases h
  · cases h
theorem raws_ok {M:TM U} {B:Bufs U}:∀ {l:List (SV U)} {as:List AV},raws l = some as→denL M B l = as
  | [],as,h=>by simp only [raws] at h; cases h; rfl
  | v :: r,as,h=>by
    cases v <;> simp only [raws] at h <;> first | (cases h; done) | skip
    split at h
    · rename_i hr; cases h; simp only [denL,den,raws_ok hr]
    · cases h
end
end Go.Proofs.YtjojaiomgdjhfaaGreatDoor.SY
namespace Go.Proofs.YtjojaiomgdjhfaaGreatDoor.SY
open Go AE F
section
variable {U:Nat→Type} {ρ:Type}
def mgetM {V:Type}:(k:MK)→MT U k→List (MT U k × V)→Option V
  | .int _,n,l=>mgetI n l
  | .str,s,l=>mgetS s l
  | _,_,_=>none
def ofS:(k:MK)→SV U→Option (MT U k)
  | .int kd=>fun s=>match s with | .raw (.int kd' n)=>if kd' = kd then some n else none | _=>none
  | .bool=>fun s=>match s with | .raw (.bool b)=>some b | _=>none
  | .str=>fun s=>match s with | .raw (.str b)=>some b | _=>none
  | .typ j=>fun s=>match s with | .typ j' x=>if h:j' = j then some (h ▸ x) else none | _=>none
def keyMK (d:TD):MK→Bool
  | .int kd=>d == .int kd
  | .str=>d == .string
  | _=>false
section
variable (M:TM U) (tb:List TI)
def sGetD (t:TypeId):(k:MK)→Option (MT U k)→Option (SV U)
  | .int kd,r=>match zeroOf tb t with
    | some (.int kd' z)=>if kd' = kd then some (.raw (.int kd (r.getD z))) else none
    | _=>none
  | .bool,r=>match zeroOf tb t with
    | some (.bool z)=>some (.raw (.bool (r.getD z)))
    | _=>none
  | .str,r=>match zeroOf tb t with
    | some (.str z)=>some (.raw (.str (r.getD z)))
    | _=>none
  | .typ j,r=>match zeroOf tb t with
    | some (.agg zs)=>if M.agg j = true∧(zs.all cellOk) = true then (match M.mkT j (zs.map .raw) with
      | some z=>some (.typ j (r.getD z))
      | none=>none) else none
    | _=>none
def okV (ok:Bool) (v:SV U) (has:Bool):SV U:=if ok then .tup [v,.raw (.bool has)] else v
def sLookK (kd:IntKind) (n:Nat) (ok:Bool) (z:AV) (k:Int) (K:SV U→Option ρ):List Int→List (SV U)→Option ρ
  | [],_=>K (okV ok (.raw z) false)
  | k0 :: ks,cs=>match splitS M 300 n cs with
    | some p=>if k0 == k then K (okV ok (.agg p.1) true) else sLookK kd n ok z k K ks p.2
    | none=>none
def plainMap (H:List (Oid × Fl × List (SV U))):SV U→Option ((i:Nat) × U i)
  | .typ i x=>some ⟨i,x⟩
  | .raw (.mapr b)=>match find H b with
    | some (.mw,[.typ i x])=>some ⟨i,x⟩
    | _=>none
  | _=>none
def mapRd:SV U→List Oid
  | .raw (.mapr b)=>[b]
  | _=>[]
def sLookup (H:List (Oid × Fl × List (SV U))) (t:TypeId) (m key:SV U) (ok:Bool) (K:SV U→Option ρ):Option ρ :=
  match descOf tb t with
  | some (.map kt et)=>match descOf tb kt with
    | some d=>match plainMap H m with
      | some ⟨i,x⟩=>match M.mp i with
        | some p=>if keyMK d p.kk then (match ofS p.kk key with
          | some k=>match sGetD M tb et p.vk (mgetM p.kk k (p.list x)) with
            | some v=>K (okV ok v (mgetM p.kk k (p.list x)).isSome)
            | none=>none
          | none=>none) else none
        | none=>none
      | none=>match m with
        | .raw (.mapr b)=>match find H b,key,zeroOf tb et with
          | some (.mk kd ks n,cs),.raw (.int kd' k),some z=>if kd' = kd∧d = .int kd∧noUndef z = true∧csizeL M cs = some (ks.length * n) then sLookK M kd n ok z k K ks cs else none
          | _,_,_=>none
        | _=>none
    | none=>none
  | _=>none
end
end
section
variable {U:Nat→Type} {ρ:Type} {Y:SZ U}
theorem ofS_ok {M:TM U} {B:Bufs U}:∀ {k:MK} {s:SV U} {x:MT U k},ofS k s = some x→den M B s = encK M k x
  | .int kd,s,x,h=>by
    simp only [ofS] at h
    split at h
    · split at h
      · rename_i e; subst e; cases h; rfl
      · cases h
    · cases h
  | .bool,s,x,h=>by
    simp only [ofS] at h
    split at h <;> cases h; rfl
  | .str,s,x,h=>by
    simp only [ofS] at h
    split at h <;> cases h; rfl
  | .typ j,s,x,h=>by
    simp only [ofS] at h
    split at h
    · split at h
      · rename_i e; subst e; cases h; rfl
      · cases h
    · cases h
theorem mgetM_ok {M:TM U} {vk kk:MK} {d:TD} (hd:keyMK d kk = true) {k:MT U kk}:∀ (l:List (MT U kk × MT U vk)) (i:Nat),∃ q,findE (encK M kk k) ((l.map fun p=>encK M kk p.1).zip (l.map fun p=>encK M vk p.2)) i = some q∧q.map (·.2) = (mgetM kk k l).map (encK M vk):=by
  intro l
  induction l with
  | nil=>
    intro i
    refine ⟨none,rfl,?_⟩
    cases kk <;> first | rfl | cases hd
  | cons p l ih=>
    intro i
    obtain ⟨q,h1,h2⟩:=ih (i + 1)
    cases kk with
    | int kd=>
      simp only [List.map_cons,List.zip_cons_cons,findE,encK,sameK,if_true,mgetM,mgetI]
      cases hb:(p.1 == k) with
      | true=>
        have hb':((p.1:Int) == k) = true:=hb
        simp only [hb',if_true]
        exact ⟨_,rfl,rfl⟩
      | false=>
        have hb':((p.1:Int) == k) = false:=hb
        simp only [hb',Bool.false_eq_true,if_false]
        exact ⟨q,h1,h2⟩
    | str=>
      simp only [List.map_cons,List.zip_cons_cons,findE,encK,sameK,mgetM,mgetS]
      cases hb:(p.1 == k) with
      | true=>
        have hb':((p.1:List UInt8) == k) = true:=hb
        simp only [hb',if_true]
        exact ⟨_,rfl,rfl⟩
      | false=>
        have hb':((p.1:List UInt8) == k) = false:=hb
        simp only [hb',Bool.false_eq_true,if_false]
        exact ⟨q,h1,h2⟩
    | bool=>cases hd
    | typ j=>cases hd
theorem keys_ok {M:TM U} {vk kk:MK} {d:TD} (hd:keyMK d kk = true) (l:List (MT U kk × MT U vk)):(((l.map fun p=>encK M kk p.1).zip (l.map fun p=>encK M vk p.2)).all fun e=>keyOk d e.1) = true∧∀ k:MT U kk,keyOk d (encK M kk k) = true:=by
  have hk:∀ k:MT U kk,keyOk d (encK M kk k) = true:=by
    intro k
    cases kk with
    | int kd=>simp only [keyMK,beq_iff_eq] at hd; subst hd; simp [keyOk,encK]
    | str=>simp only [keyMK,beq_iff_eq] at hd; subst hd; rfl
    | bool=>cases hd
    | typ j=>cases hd
  refine ⟨?_,hk⟩
  rw [List.all_eq_true]
  intro e he
  have:=List.of_mem_zip (a:=e.1) (b:=e.2) he
  obtain ⟨p,_,hp⟩:=List.mem_map.1 this.1
  rw [← hp]; exact hk p.1
theorem sGetD_ok {M:TM U} {tb:List TI} (hM:TMOk M tb) {t:TypeId}:∀ {k:MK} {r:Option (MT U k)} {v:SV U},sGetD M tb t k r = some v→∃ z,zeroOf tb t = some z∧noUndef z = true∧∀ B,Wk ((r.map (encK M k)).getD z) (den M B v)
  | .int kd,r,v,h=>by
    simp only [sGetD] at h
    split at h
    · rename_i kd' z hz
      split at h
      · rename_i e; subst e; cases h
        exact ⟨_,hz,rfl,fun B=>by cases r <;> exact Wk.refl _⟩
      · cases h
    · cases h
  | .bool,r,v,h=>by
    simp only [sGetD] at h
    split at h
    · rename_i z hz
      cases h
      exact ⟨_,hz,rfl,fun B=>by cases r <;> exact Wk.refl _⟩
    · cases h
  | .str,r,v,h=>by
    simp only [sGetD] at h
    split at h
    · rename_i z hz
      cases h
      exact ⟨_,hz,rfl,fun B=>by cases r <;> exact Wk.refl _⟩
    · cases h
  | .typ j,r,v,h=>by
    simp only [sGetD] at h
    split at h
    · rename_i zs hz
      split at h
      · rename_i hc
        split at h
        · rename_i z hmk
          cases h
          refine ⟨_,hz,rfl,fun B=>?_⟩
          cases r with
          | some x=>exact Wk.refl _
          | none=>
            have hw:=hM.mkT B j _ _ hmk
            rw [flat_raw M B zs fun a ha=>.inl (List.all_eq_true.1 hc.2 a ha)] at hw
            have hsh:=hM.shape j z
            rw [if_pos hc.1] at hsh
            obtain ⟨cs,e⟩:=hsh
            simp only [Option.map_none,Option.getD_none,den,e]
            rw [e] at hw
            exact Wk.agg hw
        · cases h
      · cases h
    · cases h
def pickQ (z:AV):Option (Nat × AV)→AV
  | some p=>p.2
  | none=>z
theorem okV_ok {M:TM U} {B:Bufs U} {ok:Bool} {a:AV} {v:SV U} {b:Bool} (h:Wk a (den M B v)):Wk (if ok then .tuple [a,.bool b] else a) (den M B (okV ok v b)):=by
  cases ok with
  | false=>exact h
  | true=>
    simp only [okV,if_true,den,denL]
    exact Wk.tuple ⟨h,Wk.refl _,trivial⟩
theorem sLookK_ok {M:TM U} {tb:List TI} (hM:TMOk M tb) {B:Bufs U} {kd:IntKind} {n:Nat} {ok:Bool} {z:AV} {k:Int} {K:SV U→Option ρ} {r:ρ}:∀ {ks:List Int} {cs:List (SV U)} (i:Nat),sLookK M kd n ok z k K ks cs = some r →
    ∃ q v,findE (.int kd k) (esOf kd n ks (flat M B cs)) i = some q∧Wk (if ok then .tuple [(pickQ z q),.bool q.isSome] else (pickQ z q)) (den M B v)∧K v = some r
  | [],cs,i,h=>by
    simp only [sLookK] at h
    exact ⟨none,_,rfl,okV_ok (Wk.refl _),h⟩
  | k0 :: ks,cs,i,h=>by
    simp only [sLookK] at h
    split at h
    · rename_i p hp
      obtain ⟨h1,h2⟩:=splitS_ok hM B _ _ _ hp
      have ht:(flat M B cs).take n = flat M B p.1:=by rw [h1,List.take_left' h2]
      have hd:(flat M B cs).drop n = flat M B p.2:=by rw [h1,List.drop_left' h2]
      simp only [esOf,findE,sameK,if_true,ht,hd]
      cases hb:(k0 == k) with
      | true=>
        rw [hb,if_pos rfl] at h
        exact ⟨_,_,rfl,okV_ok (Wk.refl _),h⟩
      | false=>
        rw [hb,if_neg (by simp)] at h
        exact sLookK_ok hM (i + 1) h
    · cases h
theorem plainMap_ok {S:SSt U} {m:SV U} {i:Nat} {x:U i} (h:plainMap S.H m = some ⟨i,x⟩) {p:MpD U i} (hp:Y.M.mp i = some p):evEnts (denS Y S).H (den Y.M S.B m) = some (((p.list x).map fun q=>encK Y.M p.kk q.1).zip ((p.list x).map fun q=>encK Y.M p.vk q.2),mapRd m):=by
  obtain ⟨he,_⟩:=Y.ok.mp i p hp
  unfold plainMap at h
  split at h
  · cases h
    simp only [den,he,evEnts,mapRd]
  · rename_i b
    split at h
    · rename_i hb
      cases h
      simp only [den,evEnts,findH,hb,mapRd]
      have hf:flat Y.M S.B [SV.typ i x] = [.mapf ((p.list x).map fun q=>encK Y.M p.kk q.1) ((p.list x).map fun q=>encK Y.M p.vk q.2)]:=by
        simp only [flat,den,he,cellsOf,List.append_nil]
      rw [hf]
      simp only [entsOf,List.length_map,if_true,Option.map_some]
    · cases h
  · cases h
theorem sLookup_ok {S:SSt U} {o:Oper} {t:TypeId} {m key:Operand} {ok:Bool} (ho:o.op = .lookup t m key ok) {K:SV U→Option ρ} {r:ρ} (h:sLookup Y.M Y.Z.tb S.H t (evS Y S.A m) (evS Y S.A key) ok K = some r):∃ v,Fact Y S o (mapRd (evS Y S.A m)) v∧K v = some r:=by
  have h0:evOp Y.Z.tb c0 noCall 0 (evalA Y.Z.gl (denS Y S).A) (denS Y S).H o = evLookup Y.Z.tb (denS Y S).H t (den Y.M S.B (evS Y S.A m)) (den Y.M S.B (evS Y S.A key)) ok:=by
    unfold evOp; simp only [ho,evS_ok]
  generalize evS Y S.A m = vm at h h0
  generalize evS Y S.A key = vk at h h0
  unfold sLookup at h
  split at h
  case h_2=>cases h
  rename_i kt et hd
  split at h
  case h_2=>cases h
  rename_i d hkt
  have fin:∀ {es:List (AV × AV)} {rd:List Oid} {z:AV} {q:Option (Nat × AV)} {v:SV U},evEnts (denS Y S).H (den Y.M S.B vm) = some (es,rd)→zeroOf Y.Z.tb et = some z→noUndef z = true→keyOk d (den Y.M S.B vk) = true→(es.all fun e=>keyOk d e.1) = true→findE (den Y.M S.B vk) es 0 = some q→rd = mapRd vm →
      Wk (if ok then .tuple [(pickQ z q),.bool q.isSome] else (pickQ z q)) (den Y.M S.B v)→Fact Y S o (mapRd vm) v:=by
    intro es rd z q v e1 e2 e3 e4 e5 e6 e7 e8
    subst e7
    refine ⟨{ v:=if ok then .tuple [(pickQ z q),.bool q.isSome] else (pickQ z q),rd:=mapRd vm },?_,rfl,rfl,rfl,e8⟩
    rw [h0]
    unfold evLookup
    simp only [hd,e1,hkt,e2,e4,if_true,e6,e3,e5,Bool.and_self]
    cases q with
    | none=>rfl
    | some p=>rfl
  split at h
  · rename_i i x hpm
    split at h
    case h_2=>cases h
    rename_i p hp
    split at h
    case isFalse=>cases h
    rename_i hkk
    split at h
    case h_2=>cases h
    rename_i k hk
    split at h
    case h_2=>cases h
    rename_i v hv
    have hden:=ofS_ok (M:=Y.M) (B:=S.B) hk
    obtain ⟨q,q1,q2⟩:=mgetM_ok (M:=Y.M) (vk:=p.vk) hkk (k:=k) (p.list x) 0
    obtain ⟨z,z1,z2,z3⟩:=sGetD_ok Y.ok hv
    obtain ⟨k1,k2⟩:=keys_ok (M:=Y.M) (vk:=p.vk) hkk (p.list x)
    refine ⟨_,fin (plainMap_ok hpm hp) z1 z2 (by rw [hden]; exact k2 k) k1 (by rw [hden]; exact q1) rfl ?_,h⟩
    have e:pickQ z q = ((mgetM p.kk k (p.list x)).map (encK Y.M p.vk)).getD z:=by
      rw [← q2]; cases q <;> rfl
    have e2:q.isSome = (mgetM p.kk k (p.list x)).isSome:=by
      have:=congrArg Option.isSome q2
      simpa using this
    rw [e,e2]
    exact okV_ok (z3 S.B)
  · split at h
    case h_2=>cases h
    rename_i b _
    split at h
    case h_2=>cases h
    rename_i kd ks n cs kd' k z hb hz
    split at h
    case isFalse=>cases h
    rename_i hc
    obtain ⟨rfl,rfl,hzu,hlen⟩:=hc
    obtain ⟨q,v,q1,q2,q3⟩:=sLookK_ok Y.ok (B:=S.B) 0 h
    have hl:=csizeL_ok Y.ok S.B _ hlen
    refine ⟨v,fin (es:=esOf kd' n ks (flat Y.M S.B cs)) (rd:=[b]) (q:=q) ?_ hz hzu (by simp [den,keyOk]) ?_ q1 rfl q2,q3⟩
    · simp only [den,evEnts,findH,hb,entsOf,hl,if_true,Option.map_some]
    · have:∀ (ks:List Int) (l:List AV),((esOf kd' n ks l).all fun e=>keyOk (.int kd') e.1) = true:=by
        intro ks
        induction ks with
        | nil=>intro l; rfl
        | cons a ks ih=>intro l; rw [esOf,List.all_cons,ih]; simp [keyOk]
      exact this ks _
end
end Go.Proofs.YtjojaiomgdjhfaaGreatDoor.SY
namespace Go.Proofs.YtjojaiomgdjhfaaGreatDoor.SY
open Go AE F
section
variable {U:Nat→Type} {ρ:Type} (Y:SZ U)
def retK (K:SV U→Option ρ):Option (SV U)→Option ρ
  | some v=>K v
  | none=>none
def sFns {i:Nat} (x:U i) (K:SV U→Option ρ):List ((U i→Bool) × FuncId)→Option ρ
  | []=>none
  | (p,f) :: r=>if p x then K (.fn f [] []) else sFns x K r
def whichK (K:SV U→Option ρ):Option (SV U)→Option ρ
  | some (.typ i x)=>match Y.M.fns i with
    | []=>K (.typ i x)
    | l=>sFns x K l
  | some v=>K v
  | none=>none
def sNilCheck (x:SV U) (K:SV U→Option ρ):Option ρ :=
  match x with
  | .typ i x=>sFns x K (Y.M.fns i)
  | .raw (.ptr b o)=>K (.raw (.ptr b o))
  | .pin l=>K (.pin l)
  | .pint i x o=>K (.pint i x o)
  | .fn f a b=>K (.fn f a b)
  | .opt i x=>x.bind fun y=>K (.pint i y 0)
  | _=>none
def sExtract (x:SV U) (i:Nat):Option (SV U) :=
  match x with
  | .tup vs=>vs[i]?
  | _=>none
def symE (S:SSt U) (o:Oper) (K:SV U→Option ρ):Option ρ :=
  match o.op with
  | .move x=>K (evS Y S.A x)
  | .assign x=>match o.dst with | some _=>K (evS Y S.A x) | none=>none
  | .pick c a b=>match evS Y S.A c with
    | .raw (.bool t)=>sPick t (evS Y S.A a) (evS Y S.A b) K
    | _=>none
  | .nilCheck x=>sNilCheck Y (evS Y S.A x) K
  | .binOp op t x y _=>sBin Y.M Y.Z.tb op t (evS Y S.A x) (evS Y S.A y) K
  | .unOp op _ x=>match evS Y S.A x with
    | .raw a=>lit (evUn op a) K
    | _=>none
  | .convert s d x=>match evS Y S.A x with
    | .raw a=>match evBytes Y.Z.tb s d a with
      | some p=>match Y.M.ofTy.lookup p.1 with
        | some i=>match Y.M.byt i with
          | some f=>K (.lst false i (f p.2))
          | none=>none
        | none=>none
      | none=>lit (evConv Y.Z.tb s d a) K
    | _=>none
  | .makeFunc f a b=>match f with
    | .func f=>K (.fn f (a.toList.map (evS Y S.A)) (b.toList.map (evS Y S.A)))
    | _=>none
  | .slice t x lo hi mx=>match mx with
    | none=>sSlice Y.M Y.Z.tb S.B t (evS Y S.A x) (lo.map (evS Y S.A)) (hi.map (evS Y S.A)) K
    | some _=>none
  | .fieldAddr s x f=>sFieldAddr Y.M Y.Z.tb s (evS Y S.A x) f K
  | .field s x f=>sField Y.M Y.Z.tb s (evS Y S.A x) f K
  | .indexAddr t x i=>sIndexAddr Y.M Y.Z.tb S.B t (evS Y S.A x) (evS Y S.A i) K
  | .index t x i=>sIndex Y.M Y.Z.tb t (evS Y S.A x) (evS Y S.A i) K
  | .load t a=>whichK Y K (sLoad Y.M Y.Z.tb S.H t (evS Y S.A a))
  | .build t parts=>retK K (sBuild Y.M Y.Z.tb S.B t (parts.toList.map fun p=>(p.1,evS Y S.A p.2)))
  | .buildSlice t len parts=>retK K (sBuildSlice Y.M Y.Z.tb t len (parts.toList.map fun p=>(p.1,evS Y S.A p.2)))
  | .extract x i=>retK K (sExtract (evS Y S.A x) i)
  | .lookup t m k ok=>sLookup Y.M Y.Z.tb S.H t (evS Y S.A m) (evS Y S.A k) ok K
  | .call c=>match c.callee with
    | .builtin .len=>match c.argTypes.toList,c.args.toList with
      | t :: _,x :: _=>sLen Y.Z.tb S.B t (evS Y S.A x) K
      | _,_=>none
    | .builtin .min=>match raws (c.args.toList.map (evS Y S.A)) with
      | some as=>lit (minMax false as) K
      | none=>none
    | .builtin .max=>match raws (c.args.toList.map (evS Y S.A)) with
      | some as=>lit (minMax true as) K
      | none=>none
    | _=>none
  | _=>none
def symRd (S:SSt U) (o:Oper):List Oid :=
  match o.op with
  | .load _ a=>loadRd (evS Y S.A a)
  | .lookup _ m _ _=>mapRd (evS Y S.A m)
  | _=>[]
end
section
variable {U:Nat→Type} {ρ:Type} {Y:SZ U}
theorem retK_ok {K:SV U→Option ρ} {x:Option (SV U)} {r:ρ} (h:retK K x = some r):∃ v,x = some v∧K v = some r:=by
  cases x with
  | none=>cases h
  | some v=>exact ⟨v,rfl,h⟩
theorem sFns_ok {M:TM U} {tb:List TI} (hM:TMOk M tb) {i:Nat} (x:U i) {K:SV U→Option ρ} {r:ρ}:∀ l:List ((U i→Bool) × FuncId),(∀ q ∈ l,q ∈ M.fns i)→sFns x K l = some r→∃ f,M.enc i x = .fn (.func f) [] []∧K (.fn f [] []) = some r
  | [],_,h=>by cases h
  | (p,f) :: l,hl,h=>by
    simp only [sFns] at h
    split at h
    · rename_i hp; exact ⟨f,hM.fns i p f x (hl _ List.mem_cons_self) hp,h⟩
    · exact sFns_ok hM x l (fun q hq=>hl q (List.mem_cons_of_mem _ hq)) h
theorem whichK_ok {K:SV U→Option ρ} {x:Option (SV U)} {r:ρ} (h:whichK Y K x = some r):∃ v v',x = some v∧(∀ B,den Y.M B v = den Y.M B v')∧K v' = some r:=by
  unfold whichK at h
  split at h
  · rename_i i x
    split at h
    · exact ⟨_,_,rfl,fun _=>rfl,h⟩
    · obtain ⟨f,e,hk⟩:=sFns_ok (M:=Y.M) Y.ok x _ (fun _ h=>h) h
      exact ⟨_,_,rfl,fun B=>by simp only [den,e,denL],hk⟩
  · exact ⟨_,_,rfl,fun _=>rfl,h⟩
  · cases h
theorem denL_get {M:TM U} {B:Bufs U} {l:List (SV U)} {i:Nat} {v:SV U} (h:l[i]? = some v):(denL M B l)[i]? = some (den M B v):=by
  rw [denL_map,List.getElem?_map,h]; rfl
theorem symE_ok {S:SSt U} {o:Oper} {K:SV U→Option ρ} {r:ρ} (h:symE Y S o K = some r):∃ v,Fact Y S o (symRd Y S o) v∧K v = some r:=by
  unfold symE at h
  cases hop:o.op with
  | move x=>
    simp only [hop] at h
    simp only [symRd,hop]
    exact ⟨_,Fact.of (a:=den Y.M S.B (evS Y S.A x)) (by unfold evOp; simp only [hop,evS_ok]) (Wk.refl _),h⟩
  | assign x=>
    simp only [hop] at h
    simp only [symRd,hop]
    split at h
    · rename_i d hd
      exact ⟨_,Fact.of (a:=den Y.M S.B (evS Y S.A x)) (by unfold evOp; simp only [hop,hd,evS_ok,c0,Bool.false_eq_true,if_false]) (Wk.refl _),h⟩
    · cases h
  | pick c a b=>
    simp only [hop] at h
    simp only [symRd,hop]
    split at h
    · rename_i t hc
      obtain ⟨v,hv,hk⟩:=sPick_ok h
      refine ⟨v,Fact.of (a:=den Y.M S.B v) ?_ (Wk.refl _),hk⟩
      unfold evOp
      simp only [hop,evS_ok,hc,den,hv]
      cases t <;> rfl
    · cases h
  | nilCheck x=>
    simp only [hop] at h
    simp only [symRd,hop]
    have h0:evOp Y.Z.tb c0 noCall 0 (evalA Y.Z.gl (denS Y S).A) (denS Y S).H o = (match den Y.M S.B (evS Y S.A x) with
      | .ptr b o=>some { v:=.ptr b o }
      | .pin cs=>some { v:=.pin cs }
      | .fn (.func f) a b=>some { v:=.fn (.func f) a b }
      | _=>(none:Option OpR)):=by unfold evOp; simp only [hop,evS_ok]; rfl
    generalize evS Y S.A x = vx at h h0
    unfold sNilCheck at h
    split at h
    · rename_i i x
      obtain ⟨f,e,hk⟩:=sFns_ok (M:=Y.M) Y.ok x _ (fun _ h=>h) h
      refine ⟨_,Fact.of (a:=.fn (.func f) [] []) ?_ (Wk.refl _),hk⟩
      rw [h0]; simp only [den,e]
    · exact ⟨_,Fact.of h0 (Wk.refl _),h⟩
    · exact ⟨_,Fact.of h0 (Wk.refl _),h⟩
    · exact ⟨_,Fact.of h0 (Wk.refl _),h⟩
    · exact ⟨_,Fact.of h0 (Wk.refl _),h⟩
    · rename_i i y
      obtain ⟨z,rfl,hk⟩:=Option.bind_eq_some_iff.1 h
      refine ⟨_,Fact.of (a:=.pin (cellsOf (Y.M.enc i z))) h0 ?_,hk⟩
      simp only [den,List.drop_zero]; exact Wk.refl _
    · cases h
  | binOp op t x y u=>
    simp only [hop] at h
    simp only [symRd,hop]
    obtain ⟨a,ha,hk⟩:=sBin_ok Y.ok S.B h
    refine ⟨_,Fact.map (x:=evBin Y.Z.tb op t (den Y.M S.B (evS Y S.A x)) (den Y.M S.B (evS Y S.A y))) ?_ ha (Wk.refl _),hk⟩
    unfold evOp; simp only [hop,evS_ok]
  | unOp op t x=>
    simp only [hop] at h
    simp only [symRd,hop]
    split at h
    · rename_i a hx
      obtain ⟨v,hv,hk⟩:=lit_ok h
      refine ⟨_,Fact.map (x:=evUn op a) ?_ hv (Wk.refl _),hk⟩
      unfold evOp; simp only [hop,evS_ok,hx,den]
    · cases h
  | convert s d x=>
    simp only [hop] at h
    simp only [symRd,hop]
    split at h
    · rename_i a hx
      split at h
      · rename_i p hb
        split at h
        case h_2=>cases h
        rename_i i hi
        split at h
        case h_2=>cases h
        rename_i f hf
        obtain ⟨q1,q2⟩:=Y.ok.byt i f hf
        refine ⟨_,Fact.map (x:=evConv2 Y.Z.tb s d a) (a:=.slice .none 1 (p.2.map fun b=>.int .u8 b.toNat)) ?_ ?_ ?_,h⟩
        · unfold evOp; simp only [hop,evS_ok,hx,den]
        · unfold evConv2; rw [hb]
        · simp only [den,q1,q2,Bool.false_eq_true,if_false]; exact Wk.refl _
      · rename_i hb
        obtain ⟨v,hv,hk⟩:=lit_ok h
        refine ⟨_,Fact.map (x:=evConv2 Y.Z.tb s d a) ?_ (by unfold evConv2; rw [hb]; exact hv) (Wk.refl _),hk⟩
        unfold evOp; simp only [hop,evS_ok,hx,den]
    · cases h
  | makeFunc f a b=>
    simp only [hop] at h
    simp only [symRd,hop]
    split at h
    · rename_i f
      refine ⟨_,Fact.of (a:=.fn (.func f) (a.toList.map (evalA Y.Z.gl (denS Y S).A)) (b.toList.map (evalA Y.Z.gl (denS Y S).A))) ?_ ?_,h⟩
      · unfold evOp; simp only [hop]
      · simp only [den,denL_map,List.map_map]
        have e:evalA Y.Z.gl (denS Y S).A = den Y.M S.B ∘ evS Y S.A:=funext fun x=>evS_ok Y S x
        rw [e]; exact Wk.refl _
    · cases h
  | slice t x lo hi mx=>
    simp only [hop] at h
    simp only [symRd,hop]
    cases mx with
    | none=>exact sSlice_ok hop h
    | some _=>cases h
  | fieldAddr s x f=>simp only [hop] at h; simp only [symRd,hop]; exact sFieldAddr_ok hop h
  | field s x f=>simp only [hop] at h; simp only [symRd,hop]; exact sField_ok hop h
  | indexAddr t x i=>simp only [hop] at h; simp only [symRd,hop]; exact sIndexAddr_ok hop h
  | index t x i=>simp only [hop] at h; simp only [symRd,hop]; exact sIndex_ok hop h
  | load t a=>
    simp only [hop] at h
    simp only [symRd,hop]
    obtain ⟨v,v',hv,hw,hk⟩:=whichK_ok h
    obtain ⟨R,r1,r2,r3,r4,r5⟩:=sLoad_ok hop hv
    exact ⟨v',⟨R,r1,r2,r3,r4,hw S.B ▸ r5⟩,hk⟩
  | build t parts=>
    simp only [hop] at h
    simp only [symRd,hop]
    obtain ⟨v,hv,hk⟩:=retK_ok h
    exact ⟨v,sBuild_ok hop hv,hk⟩
  | buildSlice t n parts=>
    simp only [hop] at h
    simp only [symRd,hop]
    obtain ⟨v,hv,hk⟩:=retK_ok h
    exact ⟨v,sBuildSlice_ok hop hv,hk⟩
  | extract x i=>
    simp only [hop] at h
    simp only [symRd,hop]
    obtain ⟨v,hv,hk⟩:=retK_ok h
    unfold sExtract at hv
    split at hv
    · rename_i vs hx
      refine ⟨v,Fact.map (x:=(denL Y.M S.B vs)[i]?) ?_ (denL_get hv) (Wk.refl _),hk⟩
      unfold evOp; simp only [hop,evS_ok,hx,den]
    · cases hv
  | lookup t m k ok=>simp only [hop] at h; simp only [symRd,hop]; exact sLookup_ok hop h
  | call c=>
    simp only [hop] at h
    simp only [symRd,hop]
    cases hcal:c.callee with
    | value _=>simp only [hcal] at h; cases h
    | invoke _ _=>simp only [hcal] at h; cases h
    | builtin b=>
      simp only [hcal] at h
      split at h
      · rename_i hb
        cases hb
        split at h
        · rename_i t ts x xs hts hxs
          exact sLen_ok hop hcal hts hxs h
        · cases h
      · rename_i hb
        cases hb
        split at h
        · rename_i as has
          obtain ⟨v,hv,hk⟩:=lit_ok h
          refine ⟨_,Fact.map (x:=minMax false (c.args.toList.map (evalA Y.Z.gl (denS Y S).A))) ?_ (a:=v) ?_ (Wk.refl _),hk⟩
          · unfold evOp; simp only [hop,hcal]
          · have:=raws_ok (M:=Y.M) (B:=S.B) has
            rw [denL_map,List.map_map] at this
            have e:evalA Y.Z.gl (denS Y S).A = den Y.M S.B ∘ evS Y S.A:=funext fun x=>evS_ok Y S x
            rw [e,this]; exact hv
        · cases h
      · rename_i hb
        cases hb
        split at h
        · rename_i as has
          obtain ⟨v,hv,hk⟩:=lit_ok h
          refine ⟨_,Fact.map (x:=minMax true (c.args.toList.map (evalA Y.Z.gl (denS Y S).A))) ?_ (a:=v) ?_ (Wk.refl _),hk⟩
          · unfold evOp; simp only [hop,hcal]
          · have:=raws_ok (M:=Y.M) (B:=S.B) has
            rw [denL_map,List.map_map] at this
            have e:evalA Y.Z.gl (denS Y S).A = den Y.M S.B ∘ evS Y S.A:=funext fun x=>evS_ok Y S x
            rw [e,this]; exact hv
        · cases h
      · cases h
  | _=>simp only [hop] at h; cases h
end
end Go.Proofs.YtjojaiomgdjhfaaGreatDoor.SY
namespace Go.Proofs.YtjojaiomgdjhfaaGreatDoor.SY
open Go AE F
section
variable {Z:Seat} {n:Nat}
theorem soWeakF {ops:Array Oper} {k e:Nat} {S S1:St} {K:St→Prop} (hs:SWf S S1) (h:SO Z n ops k e S1 K):SO Z n ops k e S K:=by
  intro g a w hS Q m hq
  obtain ⟨g1,k1,k2,k3,k4⟩:=stWeakF hS hs
  exact h g1 a w k1 Q m fun S' a' w' hK st=>hq S' a' w' hK (StepTo.trans k2 k3 k4 st)
theorem scWeakF {c:Code} {S S1:St} {Q:Ex→St→Prop} (hs:SWf S S1) (h:SC Z n c S1 Q):SC Z n c S Q:=by
  intro g a w hS
  obtain ⟨g1,k1,k2,k3,k4⟩:=stWeakF hS hs
  exact wp_mono (h g1 a w k1) fun e a' w' ⟨x,S',h1,h2⟩=>⟨x,S',h1,CodePost.trans k2 k3 k4 e a' w' h2⟩
theorem soStepF {ops:Array Oper} {k e:Nat} {S S1 S2:St} {K:St→Prop} {cfg:Cfg} {call:CallF} {f:FuncId} (hcall:CallOk Z.P Z.gl call) (hent:Enters Z.P call) (hke:k < e) {o:Oper} (ho:ops[k]? = some o) {r:OpR}
    (h:evStep Z.tb cfg Z.gl call f n ops S o = some (S1,r)) (hS2:SWf S1 S2) (hn:SO Z n ops (k + 1) e S2 K):SO Z n ops k e S K:=by
  intro g a w hS Q m hq
  have main:=evStep_good Z.hP hcall hent hS h (wpOps Z.P ops Q (List.range' (k + 1) (e - (k + 1) + m))) Q fun a' w' st=>by
    obtain ⟨g1,k1,k2,k3,k4⟩:=stepToF st hS2
    exact hn g1 a' w' k1 Q m fun S' a'' w'' hK st2=>hq S' a'' w'' hK (StepTo.trans k2 k3 k4 st2)
  rw [show e - k + m = (e - (k + 1) + m) + 1 by omega]
  simp only [List.range'_succ,wpOps,ho]
  cases hw:Region.wanted o (yielded ops a.tmps) with
  | true=>simp only [if_true]; exact .inl (main.1 hw)
  | false=>simp only [Bool.false_eq_true,if_false]; exact main.2 hw
end
theorem WkL.len:∀ {a b:List AV},WkL a b→a.length = b.length
  | [],[],_=>rfl
  | _ :: _,_ :: _,h=>by simp [WkL.len h.2]
theorem WkL.get:∀ {a b:List AV},WkL a b→∀ {i:Nat} {x y:AV},a[i]? = some x→b[i]? = some y→Wk x y
  | [],[],_,i,x,y,h,_=>by simp at h
  | a :: as,b :: bs,h,0,x,y,hx,hy=>by simp at hx hy; subst hx; subst hy; exact h.1
  | a :: as,b :: bs,h,i + 1,x,y,hx,hy=>WkL.get h.2 (i:=i) (by simpa using hx) (by simpa using hy)
theorem WkL.of_get:∀ {a b:List AV},a.length = b.length→(∀ (i:Nat) (x y:AV),a[i]? = some x→b[i]? = some y→Wk x y)→WkL a b
  | [],[],_,_=>trivial
  | [],_ :: _,h,_=>by simp at h
  | _ :: _,[],h,_=>by simp at h
  | a :: as,b :: bs,h,hg=>⟨hg 0 a b rfl rfl,WkL.of_get (by simpa using h) fun i x y hx hy=>hg (i + 1) x y (by simpa using hx) (by simpa using hy)⟩
theorem WkL.append:∀ {a b c d:List AV},WkL a b→WkL c d→WkL (a ++ c) (b ++ d)
  | [],[],_,_,_,h=>h
  | _ :: _,_ :: _,_,_,h,k=>⟨h.1,WkL.append h.2 k⟩
mutual
def dgA (p:Oid→Bool):AV→AV
  | .slice (.buf b) s es=>if p b then .slice .none s es else .slice (.buf b) s es
  | .fn f a b=>.fn f (dgL p a) (dgL p b)
  | .iface t v=>.iface t (dgA p v)
  | .agg cs=>.agg (dgL p cs)
  | .tuple vs=>.tuple (dgL p vs)
  | v=>v
def dgL (p:Oid→Bool):List AV→List AV
  | []=>[]
  | v :: r=>dgA p v :: dgL p r
end
theorem dgL_map (p:Oid→Bool):∀ l:List AV,dgL p l = l.map (dgA p)
  | []=>rfl
  | v :: r=>by simp only [dgL,List.map_cons,dgL_map p r]
mutual
theorem V_dg {g:Gh} (p:Oid→Bool):∀ (a:AV) (v:Value),V g a v→V g (dgA p a) v
  | .slice (.buf b) s es,v,h=>by
    simp only [dgA]; split
    · exact Wk.tok _ _ _ g v h
    · exact h
  | .slice .none s es,v,h=>h
  | .slice .full s es,v,h=>h
  | .fn f a b,v,h=>by
    simp only [V,dgA] at h ⊢
    obtain ⟨x,y,h1,h2,h3⟩:=h
    exact ⟨x,y,h1,VL_dg p _ _ h2,VL_dg p _ _ h3⟩
  | .iface t x,v,h=>by
    simp only [V,dgA] at h ⊢
    obtain ⟨y,h1,h2⟩:=h
    exact ⟨y,h1,V_dg p _ _ h2⟩
  | .agg cs,v,h=>by
    simp only [V,dgA] at h ⊢
    obtain ⟨y,h1,h2⟩:=h
    exact ⟨y,h1,VL_dg p _ _ h2⟩
  | .tuple cs,v,h=>by
    simp only [V,dgA] at h ⊢
    obtain ⟨y,h1,h2⟩:=h
    exact ⟨y,h1,VL_dg p _ _ h2⟩
  | .undef,v,h=>h
  | .bool _,v,h=>h
  | .int _ _,v,h=>h
  | .str _,v,h=>h
  | .nilp,v,h=>h
  | .ptr _ _,v,h=>h
  | .pin _,v,h=>h
  | .nils,v,h=>h
  | .mref _ _ _ _ _,v,h=>h
  | .nilm,v,h=>h
  | .mapr _,v,h=>h
  | .mapf _ _,v,h=>h
  | .nilf,v,h=>h
  | .nili,v,h=>h
theorem VL_dg {g:Gh} (p:Oid→Bool):∀ (as:List AV) (vs:List Value),VL g as vs→VL g (dgL p as) vs
  | [],vs,h=>h
  | a :: as,vs,h=>by
    obtain ⟨v,r,h1,h2,h3⟩:=h
    exact ⟨v,r,h1,V_dg p _ _ h2,VL_dg p _ _ h3⟩
end
theorem Wk.dg (p:Oid→Bool) (a:AV):Wk a (dgA p a):=fun g v h=>V_dg p a v h
theorem WkL.dg (p:Oid→Bool):∀ a:List AV,WkL a (dgL p a)
  | []=>trivial
  | a :: r=>⟨Wk.dg p a,WkL.dg p r⟩
mutual
theorem dg_dg {p q:Oid→Bool} (h:∀ b,p b = true→q b = true):∀ a:AV,dgA q (dgA p a) = dgA q a
  | .slice (.buf b) s es=>by
    simp only [dgA]
    by_cases hp:p b = true
    · simp only [hp,if_true,h b hp,dgA]
    · simp only [hp,if_false,dgA]; rfl
  | .slice .none s es=>rfl
  | .slice .full s es=>rfl
  | .fn f a b=>by simp only [dgA,dgL_dgL h]
  | .iface t x=>by simp only [dgA,dg_dg h x]
  | .agg cs=>by simp only [dgA,dgL_dgL h]
  | .tuple cs=>by simp only [dgA,dgL_dgL h]
  | .undef=>rfl
  | .bool _=>rfl
  | .int _ _=>rfl
  | .str _=>rfl
  | .nilp=>rfl
  | .ptr _ _=>rfl
  | .pin _=>rfl
  | .nils=>rfl
  | .mref _ _ _ _ _=>rfl
  | .nilm=>rfl
  | .mapr _=>rfl
  | .mapf _ _=>rfl
  | .nilf=>rfl
  | .nili=>rfl
theorem dgL_dgL {p q:Oid→Bool} (h:∀ b,p b = true→q b = true):∀ a:List AV,dgL q (dgL p a) = dgL q a
  | []=>rfl
  | a :: r=>by simp only [dgL,dg_dg h a,dgL_dgL h r]
end
mutual
theorem dg_free {p:Oid→Bool}:∀ a:AV,(∀ b ∈ toks a,p b = false)→dgA p a = a
  | .slice (.buf b) s es,h=>by simp only [dgA,h b (by simp [toks]),Bool.false_eq_true,if_false]
  | .slice .none s es,_=>rfl
  | .slice .full s es,_=>rfl
  | .fn f a b,h=>by simp only [dgA]; rw [dgL_free a fun x hx=>h x (by simp [toks,hx]),dgL_free b fun x hx=>h x (by simp [toks,hx])]
  | .iface t x,h=>by simp only [dgA]; rw [dg_free x fun y hy=>h y (by simp [toks,hy])]
  | .agg cs,h=>by simp only [dgA]; rw [dgL_free cs fun y hy=>h y (by simp [toks,hy])]
  | .tuple cs,h=>by simp only [dgA]; rw [dgL_free cs fun y hy=>h y (by simp [toks,hy])]
  | .undef,_=>rfl
  | .bool _,_=>rfl
  | .int _ _,_=>rfl
  | .str _,_=>rfl
  | .nilp,_=>rfl
  | .ptr _ _,_=>rfl
  | .pin _,_=>rfl
  | .nils,_=>rfl
  | .mref _ _ _ _ _,_=>rfl
  | .nilm,_=>rfl
  | .mapr _,_=>rfl
  | .mapf _ _,_=>rfl
  | .nilf,_=>rfl
  | .nili,_=>rfl
theorem dgL_free {p:Oid→Bool}:∀ a:List AV,(∀ b ∈ toksL a,p b = false)→dgL p a = a
  | [],_=>rfl
  | a :: r,h=>by simp only [dgL]; rw [dg_free a fun y hy=>h y (by simp [toksL,hy]),dgL_free r fun y hy=>h y (by simp [toksL,hy])]
end
theorem cellsOf_dg (p:Oid→Bool) (a:AV):cellsOf (dgA p a) = dgL p (cellsOf a):=by
  cases a <;> first | rfl | skip
  rename_i tok s es
  cases tok <;> first | rfl | skip
  rename_i b
  simp only [dgA,cellsOf,dgL]; by_cases h:p b = true <;> simp [h]
theorem dgL_append (p:Oid→Bool) (a b:List AV):dgL p (a ++ b) = dgL p a ++ dgL p b:=by rw [dgL_map,dgL_map,dgL_map,List.map_append]
section
variable {U:Nat→Type} {M:TM U} {tb:List TI}
mutual
def noTip:SV U→Bool
  | .tip _=>false
  | .pin l=>noTipL l
  | .agg l=>noTipL l
  | .tup l=>noTipL l
  | .fn _ a b=>noTipL a && noTipL b
  | _=>true
def noTipL:List (SV U)→Bool
  | []=>true
  | v :: r=>noTip v && noTipL r
end
mutual
theorem noTip_den {B B':Bufs U}:∀ v:SV U,noTip v = true→den M B v = den M B' v
  | .raw _,_=>rfl
  | .typ _ _,_=>rfl
  | .lst _ _ _,_=>rfl
  | .tip _,h=>by simp [noTip] at h
  | .opt _ none,_=>rfl
  | .opt _ (some _),_=>rfl
  | .pint _ _ _,_=>rfl
  | .arr _ _,_=>rfl
  | .pin l,h=>by simp only [noTip] at h; simp only [den,noTip_flat (B':=B') l h]
  | .agg l,h=>by simp only [noTip] at h; simp only [den,noTip_flat (B':=B') l h]
  | .tup l,h=>by simp only [noTip] at h; simp only [den,noTip_denL (B':=B') l h]
  | .fn f a b,h=>by simp only [noTip,Bool.and_eq_true] at h; simp only [den,noTip_denL (B':=B') a h.1,noTip_denL (B':=B') b h.2]
theorem noTip_denL {B B':Bufs U}:∀ l:List (SV U),noTipL l = true→denL M B l = denL M B' l
  | [],_=>rfl
  | v :: r,h=>by simp only [noTipL,Bool.and_eq_true] at h; simp only [denL,noTip_den (B':=B') v h.1,noTip_denL (B':=B') r h.2]
theorem noTip_flat {B B':Bufs U}:∀ l:List (SV U),noTipL l = true→flat M B l = flat M B' l
  | [],_=>rfl
  | v :: r,h=>by simp only [noTipL,Bool.and_eq_true] at h; simp only [flat,noTip_den (B':=B') v h.1,noTip_flat (B':=B') r h.2]
end
mutual
def dgS (B:Bufs U) (p:Oid→Bool):SV U→Option (SV U)
  | .raw a=>some (.raw (dgA p a))
  | .tip b=>some (if p b then (match find B b with | some ⟨i,l⟩=>.lst false i l | none=>.raw .undef) else .tip b)
  | .pin l=>if noTipL l then some (.pin l) else none
  | .agg l=>match dgSL B p l with | some l'=>some (.agg l') | none=>none
  | .tup l=>match dgSL B p l with | some l'=>some (.tup l') | none=>none
  | .fn f a b=>match dgSL B p a,dgSL B p b with | some a',some b'=>some (.fn f a' b') | _,_=>none
  | v=>some v
def dgSL (B:Bufs U) (p:Oid→Bool):List (SV U)→Option (List (SV U))
  | []=>some []
  | v :: r=>match dgS B p v,dgSL B p r with | some v',some r'=>some (v' :: r') | _,_=>none
end
theorem members_toks (hM:TMOk M tb) {i:Nat} (l:List (U i)):toksL (l.flatMap fun x=>cellsOf (M.enc i x)) = []:=by
  have:=(members_still hM l).2
  simp only [stillL,Bool.and_eq_true,List.isEmpty_iff] at this
  exact this.1.2
theorem members_refs (hM:TMOk M tb) {i:Nat} (l:List (U i)):refsL (l.flatMap fun x=>cellsOf (M.enc i x)) = []:=by
  have:=(members_still hM l).2
  simp only [stillL,Bool.and_eq_true,List.isEmpty_iff] at this
  exact this.1.1
mutual
theorem dgS_ok (hM:TMOk M tb) {B B':Bufs U} {p:Oid→Bool} (hB:∀ b,p b = false→find B' b = find B b):∀ (v:SV U) {v':SV U},dgS B p v = some v'→den M B' v' = dgA p (den M B v)
  | .raw a,v',h=>by simp only [dgS] at h; cases h; rfl
  | .typ i x,v',h=>by simp only [dgS] at h; cases h; simp only [den]; rw [dg_free _ (by simp [hM.toks])]
  | .lst f i l,v',h=>by simp only [dgS] at h; cases h; simp only [den]; cases f <;> rfl
  | .tip b,v',h=>by
    simp only [dgS] at h; cases h
    by_cases hp:p b = true
    · rw [if_pos hp]
      simp only [den]
      cases hf:find B b with
      | none=>rfl
      | some x=>simp only [dgA,hp,if_true,den]; rfl
    · rw [if_neg hp]
      simp only [den]
      rw [hB b (by simpa using hp)]
      cases hf:find B b with
      | none=>rfl
      | some x=>simp only [dgA,hp,if_false]; rfl
  | .opt i none,v',h=>by simp only [dgS] at h; cases h; rfl
  | .opt i (some x),v',h=>by simp only [dgS] at h; cases h; rfl
  | .pint _ _ _,v',h=>by simp only [dgS] at h; cases h; rfl
  | .arr i l,v',h=>by simp only [dgS] at h; cases h; simp only [den,dgA]; rw [dgL_free _ (by simp [members_toks hM])]
  | .pin l,v',h=>by
    simp only [dgS] at h
    split at h
    · rename_i hn; cases h; simp only [den,dgA]; rw [noTip_flat (B':=B) l hn]
    · cases h
  | .agg l,v',h=>by
    simp only [dgS] at h
    split at h
    · rename_i l' hl; cases h; simp only [den,dgA]; rw [dgSF_ok hM hB l hl]
    · cases h
  | .tup l,v',h=>by
    simp only [dgS] at h
    split at h
    · rename_i l' hl; cases h; simp only [den,dgA]; rw [dgSL_ok hM hB l hl]
    · cases h
  | .fn f a b,v',h=>by
    simp only [dgS] at h
    split at h
    · rename_i a' b' ha hb; cases h; simp only [den,dgA]; rw [dgSL_ok hM hB a ha,dgSL_ok hM hB b hb]
    · cases h
theorem dgSL_ok (hM:TMOk M tb) {B B':Bufs U} {p:Oid→Bool} (hB:∀ b,p b = false→find B' b = find B b):∀ (l:List (SV U)) {l':List (SV U)},dgSL B p l = some l'→denL M B' l' = dgL p (denL M B l)
  | [],l',h=>by simp only [dgSL] at h; cases h; rfl
  | v :: r,l',h=>by
    simp only [dgSL] at h
    split at h
    · rename_i v' r' hv hr; cases h; simp only [denL,dgL]; rw [dgS_ok hM hB v hv,dgSL_ok hM hB r hr]
    · cases h
theorem dgSF_ok (hM:TMOk M tb) {B B':Bufs U} {p:Oid→Bool} (hB:∀ b,p b = false→find B' b = find B b):∀ (l:List (SV U)) {l':List (SV U)},dgSL B p l = some l'→flat M B' l' = dgL p (flat M B l)
  | [],l',h=>by simp only [dgSL] at h; cases h; rfl
  | v :: r,l',h=>by
    simp only [dgSL] at h
    split at h
    · rename_i v' r' hv hr; cases h; simp only [flat,dgL_append]; rw [dgS_ok hM hB v hv,dgSF_ok hM hB r hr,cellsOf_dg]
    · cases h
end
end
end Go.Proofs.YtjojaiomgdjhfaaGreatDoor.SY
set_option linter.unusedSectionVars false
namespace Go.Proofs.YtjojaiomgdjhfaaGreatDoor.SY
open Go AE F
section
variable {U:Nat→Type}
mutual
def refsS:SV U→List Oid
  | .raw a=>refs a
  | .agg l=>refsSL l
  | .tup l=>refsSL l
  | .fn _ a b=>refsSL a ++ refsSL b
  | _=>[]
def refsSL:List (SV U)→List Oid
  | []=>[]
  | v :: r=>refsS v ++ refsSL r
end
mutual
def toksS:SV U→List Oid
  | .raw a=>toks a
  | .tip b=>[b]
  | .agg l=>toksSL l
  | .tup l=>toksSL l
  | .fn _ a b=>toksSL a ++ toksSL b
  | _=>[]
def toksSL:List (SV U)→List Oid
  | []=>[]
  | v :: r=>toksS v ++ toksSL r
end
section
variable {M:TM U} {tb:List TI} (hM:TMOk M tb) (B:Bufs U)
include hM
mutual
theorem refs_den:∀ v:SV U,refs (den M B v) = refsS v
  | .raw a=>rfl
  | .typ i x=>hM.refs i x
  | .lst _ _ _=>rfl
  | .tip b=>by simp only [den]; split <;> rfl
  | .opt _ none=>rfl
  | .opt _ (some _)=>rfl
  | .pint _ _ _=>rfl
  | .arr i l=>by simp only [den,refs]; exact members_refs hM l
  | .pin _=>rfl
  | .agg l=>by simp only [den,refs,refsS]; exact refs_flat l
  | .tup l=>by simp only [den,refs,refsS]; exact refs_denL l
  | .fn f a b=>by simp only [den,refs,refsS,refs_denL a,refs_denL b]
theorem refs_denL:∀ l:List (SV U),refsL (denL M B l) = refsSL l
  | []=>rfl
  | v :: r=>by simp only [denL,refsL,refsSL,refs_den v,refs_denL r]
theorem refs_flat:∀ l:List (SV U),refsL (flat M B l) = refsSL l
  | []=>rfl
  | v :: r=>by simp only [flat,refsL_append,refsL_cells,refsSL,refs_den v,refs_flat r]
end
mutual
theorem toks_den:∀ v:SV U,∀ b ∈ toks (den M B v),b ∈ toksS v
  | .raw a=>fun b h=>h
  | .typ i x=>by simp [den,hM.toks]
  | .lst f _ _=>by cases f <;> simp [den,toks]
  | .tip b=>by simp only [den]; split <;> simp [toks,toksS]
  | .opt _ none=>by simp [den,toks]
  | .opt _ (some _)=>by simp [den,toks]
  | .pint _ _ _=>by simp [den,toks]
  | .arr i l=>by simp [den,toks,members_toks hM]
  | .pin _=>by simp [den,toks]
  | .agg l=>by simp only [den,toks,toksS]; exact toks_flat l
  | .tup l=>by simp only [den,toks,toksS]; exact toks_denL l
  | .fn f a b=>by
    simp only [den,toks,toksS,List.mem_append]
    intro x hx
    exact hx.elim (fun h=>.inl (toks_denL a x h)) fun h=>.inr (toks_denL b x h)
theorem toks_denL:∀ l:List (SV U),∀ b ∈ toksL (denL M B l),b ∈ toksSL l
  | []=>fun b h=>by simp [denL,toksL] at h
  | v :: r=>by
    simp only [denL,toksL,toksSL,List.mem_append]
    intro x hx
    exact hx.elim (fun h=>.inl (toks_den v x h)) fun h=>.inr (toks_denL r x h)
theorem toks_flat:∀ l:List (SV U),∀ b ∈ toksL (flat M B l),b ∈ toksSL l
  | []=>fun b h=>by simp [flat,toksL] at h
  | v :: r=>by
    simp only [flat,toksL_append,toksL_cells,toksSL,List.mem_append]
    intro x hx
    exact hx.elim (fun h=>.inl (toks_den v x h)) fun h=>.inr (toks_flat r x h)
end
end
def offS (d:Nat) (l:List Oid):Bool:=!l.any (rooted d)
def sclear (S:SSt U) (d:Nat):Bool :=
  (S.A.all fun x=>x.1 = d || (offS d (refsS x.2) && offS d (toksS x.2))) &&
  (S.H.all fun x=>!rooted d x.1 && offS d (refsSL x.2.2) && offS d (toksSL x.2.2)) && S.B.all fun x=>!rooted d x.1
def putD (dst:Option Nat) (v:SV U) (S:SSt U):SSt U :=
  match dst with
  | some d=>{ S with A:=ins d v S.A }
  | none=>S
theorem getS_ins (k t:Nat) (v:SV U) (A:List (Nat × SV U)):getS (ins k v A) t = if k = t then v else getS A t:=by
  simp only [getS,find_ins]
  by_cases h:k = t <;> simp [h]
end
section
variable {U:Nat→Type} {ρ:Type} {Y:SZ U}
theorem off_sub {d:Nat} {l m:List Oid} (h:∀ b ∈ l,b ∈ m) (k:offS d m = true):l.any (rooted d) = false:=by
  rw [List.any_eq_false]
  intro b hb
  simp only [offS,Bool.not_eq_true',List.any_eq_false] at k
  exact k b (h b hb)
theorem sclear_ok {S:SSt U} {d:Nat} (h:sclear S d = true):clear (denS Y S) d = true:=by
  simp only [sclear,Bool.and_eq_true,List.all_eq_true] at h
  obtain ⟨⟨h1,h2⟩,h3⟩:=h
  simp only [clear,denS,Bool.and_eq_true,List.all_eq_true,List.mem_map,List.mem_append]
  refine ⟨?_,?_⟩
  · rintro x ⟨y,hy,rfl⟩
    have:=h1 y hy
    simp only [Bool.or_eq_true,decide_eq_true_eq,Bool.and_eq_true] at this ⊢
    rcases this with h | ⟨k1,k2⟩
    · exact .inl h
    · refine .inr ⟨?_,?_⟩
      · rw [Bool.not_eq_true',off_sub (fun b hb=>by rw [refs_den Y.ok] at hb; exact hb) k1]
      · rw [Bool.not_eq_true',off_sub (toks_den Y.ok S.B y.2) k2]
  · rintro x (⟨y,hy,rfl⟩ | ⟨y,hy,rfl⟩)
    · have:=h2 y hy
      simp only [Bool.and_eq_true,Bool.not_eq_true'] at this ⊢
      exact ⟨⟨this.1.1,off_sub (fun b hb=>by simp only [Ob.refs,refs_flat Y.ok] at hb; exact hb) this.1.2⟩,off_sub (fun b hb=>toks_flat Y.ok S.B y.2.2 b hb) this.2⟩
    · have:=h3 y hy
      simp only [Bool.and_eq_true,Bool.not_eq_true',Ob.refs,Ob.toks,List.any_nil,and_true] at this ⊢
      exact this
def xp (X:List Oid) (b:Oid):Bool:=X.contains b
variable (Y)
structure Fr (D:List Nat) (S S':SSt U):Prop where
  a:∀ t,t ∉ D→dgA (xp S'.X) (den Y.M S.B (getS S.A t)) = dgA (xp S'.X) (den Y.M S'.B (getS S'.A t))
  h:∀ o wr cs,find S.H o = some (wr,cs)→∃ cs',find S'.H o = some (wr,cs')∧(flat Y.M S'.B cs').length = (flat Y.M S.B cs).length ∧
    ∀ j,(o,j) ∉ S'.W→((flat Y.M S.B cs)[j]?).map (dgA (xp S'.X)) = ((flat Y.M S'.B cs')[j]?).map (dgA (xp S'.X))
  b:∀ b x,b ∉ S'.X→find S.H b = none→find S.B b = some x→find S'.H b = none∧find S'.B b = some x
  w:∀ x ∈ S.W,x ∈ S'.W
  x:∀ x ∈ S.X,x ∈ S'.X
  e:∀ b,IsExt b→(find (denS Y S').H b).isSome = true→(find (denS Y S).H b).isSome = true
variable {Y}
theorem xp_mono {X X':List Oid} (h:∀ x ∈ X,x ∈ X'):∀ b,xp X b = true→xp X' b = true:=by
  intro b hb
  simp only [xp,List.contains_iff_mem] at hb ⊢
  exact h b hb
theorem Fr.refl (S:SSt U):Fr Y [] S S:=⟨fun _ _=>rfl,fun o wr cs h=>⟨cs,h,rfl,fun _ _=>rfl⟩,fun b x _ h1 h2=>⟨h1,h2⟩,fun _ h=>h,fun _ h=>h,fun _ _ h=>h⟩
theorem Fr.wider {D D':List Nat} {S S':SSt U} (h:Fr Y D S S') (hd:∀ t ∈ D,t ∈ D'):Fr Y D' S S':=⟨fun t ht=>h.a t fun hh=>ht (hd t hh),h.h,h.b,h.w,h.x,h.e⟩
theorem Fr.trans {D D':List Nat} {S S1 S2:SSt U} (h:Fr Y D S S1) (k:Fr Y D' S1 S2):Fr Y (D ++ D') S S2:=by
  have hm:=xp_mono k.x
  refine ⟨fun t ht=>?_,fun o wr cs hf=>?_,fun b x hb h1 h2=>?_,fun x hx=>k.w x (h.w x hx),fun x hx=>k.x x (h.x x hx),fun b hb hs=>h.e b hb (k.e b hb hs)⟩
  · simp only [List.mem_append,not_or] at ht
    rw [← k.a t ht.2,← dg_dg hm (den Y.M S.B (getS S.A t)),h.a t ht.1,dg_dg hm]
  · obtain ⟨cs1,f1,l1,e1⟩:=h.h o wr cs hf
    obtain ⟨cs2,f2,l2,e2⟩:=k.h o wr cs1 f1
    refine ⟨cs2,f2,l2.trans l1,fun j hj=>?_⟩
    rw [← e2 j hj]
    have:=e1 j fun hh=>hj (k.w _ hh)
    have:=congrArg (Option.map (dgA (xp S2.X))) this
    simp only [Option.map_map,Function.comp_def,dg_dg hm] at this
    exact this
  · obtain ⟨q1,q2⟩:=h.b b x (fun hh=>hb (k.x b hh)) h1 h2
    exact k.b b x hb q1 q2
theorem Fr.put {S:SSt U} (dst:Option Nat) (v:SV U):Fr Y dst.toList S (putD dst v S):=by
  cases dst with
  | none=>exact Fr.refl S
  | some d=>
    refine ⟨fun t ht=>?_,fun o wr cs h=>⟨cs,h,rfl,fun _ _=>rfl⟩,fun b x _ h1 h2=>⟨h1,h2⟩,fun _ h=>h,fun _ h=>h,fun b hb hs=>by rw [findH] at hs ⊢; exact hs⟩
    simp only [putD,getS_ins]
    rw [if_neg (by simp at ht; exact fun e=>ht e.symm)]
variable (Y)
def updO (dst:Option Nat) (v:AV) (A:Slots):Slots:=match dst with | some d=>put d v A | none=>A
structure Sm where
  rd:List Oid
  ks:List Oid
  fr:Bool
def SmLe (σ:Sm) (R:OpR):Prop:=R.rd = σ.rd∧(∀ x ∈ R.ws,x.1.root ∈ σ.ks.map Oid.root)∧R.fresh = σ.fr
def smNew (o:Oper):Sm:=match o.dst with
  | some d=>⟨[],[.loc d],true⟩
  | none=>⟨[],[],true⟩
def smAt (v:SV U):Sm:=match v with
  | .raw (.ptr b _)=>⟨[b],[b],false⟩
  | .tip b=>⟨[b],[b],false⟩
  | _=>⟨[],[],false⟩
def smAp (o:Oper) (s v:SV U):Sm:=match s with
  | .tip b=>⟨[b],[b],false⟩
  | _=>match v with
    | .tip _=>smNew o
    | _=>⟨[],[],false⟩
def HFact (S:SSt U) (o:Oper) (σ:Sm) (v:SV U) (S1:SSt U):Prop :=
  ∃ (cfg:Cfg) (R:OpR),evOp Y.Z.tb cfg noCall 0 (evalA Y.Z.gl (denS Y S).A) (denS Y S).H o = some R∧isCallV o.op = false∧(R.fresh = true→∃ d,o.dst = some d∧sclear S d = true)∧SmLe σ R ∧
    SWf ⟨updO o.dst R.v (denS Y S).A,insAll (denS Y S).H R.ws⟩ (denS Y (putD o.dst v S1))∧Fr Y o.dst.toList S (putD o.dst v S1)
variable {Y}
theorem SWf.refl {S:St}:SWf S S:=⟨fun _=>Wk.refl _,fun b ob' hb=>⟨ob',hb,ObWk.refl _⟩,fun _ _ h=>h⟩
theorem getA_upd {dst:Option Nat} {v:AV} {A:Slots} {t:Nat}:getA (updO dst v A) t = if dst = some t then v else getA A t:=by
  cases dst with
  | none=>rfl
  | some d=>simp only [updO,getA_put,Option.some.injEq]
theorem getS_putD {dst:Option Nat} {v:SV U} {S:SSt U} {t:Nat}:getS (putD dst v S).A t = if dst = some t then v else getS S.A t:=by
  cases dst with
  | none=>rfl
  | some d=>simp only [putD,getS_ins,Option.some.injEq]
theorem putD_H {dst:Option Nat} {v:SV U} {S:SSt U}:(putD dst v S).H = S.H:=by cases dst <;> rfl
theorem putD_B {dst:Option Nat} {v:SV U} {S:SSt U}:(putD dst v S).B = S.B:=by cases dst <;> rfl
theorem putD_X {dst:Option Nat} {v:SV U} {S:SSt U}:(putD dst v S).X = S.X:=by cases dst <;> rfl
theorem putD_W {dst:Option Nat} {v:SV U} {S:SSt U}:(putD dst v S).W = S.W:=by cases dst <;> rfl
theorem put_weak {S:SSt U} {dst:Option Nat} {a:AV} {v:SV U} (h:Wk a (den Y.M S.B v)):SWf ⟨updO dst a (denS Y S).A,(denS Y S).H⟩ (denS Y (putD dst v S)):=by
  refine ⟨fun t=>?_,fun b ob' hb=>⟨ob',?_,ObWk.refl _⟩,fun e he hs=>?_⟩
  · rw [getS_ok,getA_upd,getS_putD,putD_B]
    split
    · exact h
    · rw [getS_ok]; exact Wk.refl _
  · rw [findH,putD_H,putD_B] at hb
    rw [findH]; exact hb
  · rw [findH,putD_H,putD_B]
    rw [findH] at hs; exact hs
theorem Fact.step {S:SSt U} {o:Oper} {rd:List Oid} {v:SV U} (h:Fact Y S o rd v):HFact Y S o ⟨rd,[],false⟩ v S:=by
  obtain ⟨R,h1,h2,h3,h4,h5⟩:=h
  refine ⟨c0,R,h1,?_,by simp [h3],⟨h4,by simp [h2],h3⟩,?_,Fr.put _ _⟩
  · cases hc:isCallV o.op with
    | false=>rfl
    | true=>
      have:=evOp_noCall_some h1
      rw [hc] at this; cases this
  · rw [h2]; exact put_weak h5
theorem step_ok {n:Nat} {ops:Array Oper} {k e:Nat} {S S1:SSt U} {o:Oper} {σ:Sm} {v:SV U} {K:St→Prop} (hke:k < e) (ho:ops[k]? = some o) (hw:evWanted ops (denS Y S).A o = some true) (hf:HFact Y S o σ v S1) (hd:∀ d,o.dst = some d→d < n)
    (hn:SO Y.Z n ops (k + 1) e (denS Y (putD o.dst v S1)) K):SO Y.Z n ops k e (denS Y S) K:=by
  obtain ⟨cfg,R,h1,h2,h3,_,h4,_⟩:=hf
  refine soStepF (cfg:=cfg) (f:=0) (noCall_ok Y.Z) (noCall_ent Y.Z) hke ho (S1:=⟨updO o.dst R.v (denS Y S).A,insAll (denS Y S).H R.ws⟩) (r:=R) ?_ h4 hn
  unfold evStep
  rw [hw]
  simp only [h1,h2,Bool.and_false,Bool.false_and,Bool.false_eq_true,if_false]
  cases hfr:R.fresh with
  | false=>
    simp only [Bool.false_eq_true,if_false]
    cases hdst:o.dst with
    | none=>rfl
    | some d=>simp only [setDst,if_pos (hd d hdst),Option.map_some]; rfl
  | true=>
    obtain ⟨d,hd',hc⟩:=h3 hfr
    simp only [hd',sclear_ok hc,if_true,setDst,if_pos (hd d hd'),Option.map_some]; rfl
theorem step_not {n:Nat} {ops:Array Oper} {k e:Nat} {S:SSt U} {o:Oper} {K:St→Prop} (hke:k < e) (ho:ops[k]? = some o) (hw:evWanted ops (denS Y S).A o = some false) (hd:∀ d,o.dst = some d→d < n)
    (hn:SO Y.Z n ops (k + 1) e (denS Y (putD o.dst (.raw (.tuple [])) S)) K):SO Y.Z n ops k e (denS Y S) K:=by
  refine soStepF (cfg:=c0) (f:=0) (noCall_ok Y.Z) (noCall_ent Y.Z) hke ho (S1:=⟨updO o.dst (.tuple []) (denS Y S).A,(denS Y S).H⟩) (r:={ v:=.tuple [] }) ?_ (put_weak (v:=.raw (.tuple [])) (Wk.refl _)) hn
  unfold evStep
  rw [hw]
  cases hdst:o.dst with
  | none=>rfl
  | some d=>simp only [setDst,if_pos (hd d hdst),Option.map_some]; rfl
def swanted (ops:Array Oper) (A:List (Nat × SV U)) (o:Oper):Option Bool :=
  match o.guard with
  | none=>some true
  | some (j,want)=>match ops[j]? with
    | some oj=>match oj.dst with
      | some t=>match getS A t with
        | .raw (.bool b)=>some (b == want)
        | .raw (.tuple [])=>some false
        | _=>none
      | none=>none
    | none=>none
theorem swanted_ok {ops:Array Oper} {S:SSt U} {o:Oper} {b:Bool} (h:swanted ops S.A o = some b):evWanted ops (denS Y S).A o = some b:=by
  unfold swanted at h
  unfold evWanted
  split at h
  · rename_i hg; rw [hg]; exact h
  · rename_i j want hg
    rw [hg]
    simp only
    split at h
    · rename_i oj hoj
      rw [hoj]
      simp only
      split at h
      · rename_i t ht
        rw [ht]
        simp only [getS_ok]
        split at h
        · rename_i x hx; rw [hx]; exact h
        · rename_i hx; rw [hx]; exact h
        · cases h
      · cases h
    · cases h
end
end Go.Proofs.YtjojaiomgdjhfaaGreatDoor.SY
namespace Go.Proofs.YtjojaiomgdjhfaaGreatDoor.SY
open Go AE F
mutual
theorem clean_dg:∀ a:AV,clean a = dgA (fun _=>true) a
  | .slice (.buf b) s es=>rfl
  | .slice .none s es=>rfl
  | .slice .full s es=>rfl
  | .fn f a b=>by simp only [clean,dgA,cleanL_dg a,cleanL_dg b]
  | .iface t x=>by simp only [clean,dgA,clean_dg x]
  | .agg cs=>by simp only [clean,dgA,cleanL_dg cs]
  | .tuple cs=>by simp only [clean,dgA,cleanL_dg cs]
  | .undef=>rfl
  | .bool _=>rfl
  | .int _ _=>rfl
  | .str _=>rfl
  | .nilp=>rfl
  | .ptr _ _=>rfl
  | .pin _=>rfl
  | .nils=>rfl
  | .mref _ _ _ _ _=>rfl
  | .nilm=>rfl
  | .mapr _=>rfl
  | .mapf _ _=>rfl
  | .nilf=>rfl
  | .nili=>rfl
theorem cleanL_dg:∀ a:List AV,cleanL a = dgL (fun _=>true) a
  | []=>rfl
  | a :: r=>by simp only [cleanL,dgL,clean_dg a,cleanL_dg r]
end
theorem cleanL_free (l:List AV) (h:toksL l = []):cleanL l = l:=by rw [cleanL_dg,dgL_free]; simp [h]
theorem keepToks_append (o:Oid):∀ (a b:List AV) (j:Nat),keepToks o j (a ++ b) = keepToks o j a ++ keepToks o (j + a.length) b
  | [],b,j=>rfl
  | x :: a,b,j=>by simp only [List.cons_append,keepToks,keepToks_append o a b (j + 1),List.length_cons]; rw [Nat.add_right_comm,Nat.add_assoc]
theorem keepToks_free (o:Oid):∀ (a:List AV) (j:Nat),toksL a = []→keepToks o j a = a
  | [],j,_=>rfl
  | x :: a,j,h=>by
    simp only [toksL,List.append_eq_nil_iff] at h
    simp only [keepToks,keepToks_free o a (j + 1) h.2]
    congr 1
    unfold keepTok
    split
    · simp [toks] at h
    · rw [clean_dg,dg_free]; simp [h.1]
theorem setRange_get:∀ (vs cs:List AV) (off j:Nat),(j < off ∨ off + vs.length ≤ j)→(setRange cs off vs)[j]? = cs[j]?
  | [],_,_,_,_=>rfl
  | v :: vs,cs,off,j,h=>by
    simp only [setRange]
    simp only [List.length_cons] at h
    rw [setRange_get vs _ _ _ (by omega),List.getElem?_set_ne (by omega)]
section
variable {U:Nat→Type} {ρ:Type} {Y:SZ U}
theorem find_clear {S:SSt U} {d:Nat} (h:sclear S d = true):(∀ b,rooted d b = true→find S.H b = none)∧∀ b,rooted d b = true→find S.B b = none:=by
  simp only [sclear,Bool.and_eq_true,List.all_eq_true] at h
  refine ⟨fun b hb=>?_,fun b hb=>?_⟩
  · cases hf:find S.H b with
    | none=>rfl
    | some p=>have:=h.1.2 _ (find_mem hf); simp [hb] at this
  · cases hf:find S.B b with
    | none=>rfl
    | some p=>have:=h.2 _ (find_mem hf); simp [hb] at this
theorem HFact.newObj {S:SSt U} {o:Oper} {d:Nat} {cs:List (SV U)} (hd:o.dst = some d) (hc:sclear S d = true) (hcv:isCallV o.op = false)
    {cfg:Cfg} (h:evOp Y.Z.tb cfg noCall 0 (evalA Y.Z.gl (denS Y S).A) (denS Y S).H o = some { v:=.ptr (.loc d) 0,ws:=[(.loc d,.cells .rw (flat Y.M S.B cs))],fresh:=true }) :
    HFact Y S o (smNew o) (.raw (.ptr (.loc d) 0)) { S with H:=ins (.loc d) (.rw,cs) S.H }:=by
  obtain ⟨f1,f2⟩:=find_clear hc
  refine ⟨cfg,_,h,hcv,fun _=>⟨d,hd,hc⟩,by (unfold smNew; rw [hd]; exact ⟨rfl,by simp,rfl⟩),⟨fun t=>?_,fun b ob' hb=>⟨ob',?_,ObWk.refl _⟩,fun e he hs=>?_⟩,⟨fun t ht=>?_,fun o' wr cs' hf=>⟨cs',?_,?_,fun j _=>?_⟩,fun b x hb h1 h2=>?_,fun x hx=>by rw [putD_W]; exact hx,fun x hx=>by rw [putD_X]; exact hx,fun b hb hs=>?_⟩⟩
  · rw [getS_ok,getA_upd,getS_putD,putD_B]
    split
    · exact Wk.refl _
    · rw [getS_ok]; exact Wk.refl _
  · rw [findH,putD_H,putD_B] at hb
    rw [find_insAll]
    simp only [find_ins,find] at hb ⊢
    by_cases e:AE.Oid.loc d = b
    · rw [if_pos e] at hb ⊢; exact hb
    · rw [if_neg e] at hb ⊢; simp only; rw [findH]; exact hb
  · rw [find_insAll] at hs
    rw [findH,putD_H,putD_B]
    simp only [find_ins,find] at hs ⊢
    by_cases e':AE.Oid.loc d = e
    · rw [if_pos e']; rfl
    · rw [if_neg e'] at hs ⊢; simp only at hs; rw [findH] at hs; exact hs
  · rw [getS_putD,if_neg (by rw [hd] at ht ⊢; simp at ht ⊢; exact fun e=>ht e.symm),putD_B]
  · rw [putD_H,find_ins,if_neg]
    · exact hf
    · intro e; subst e; rw [f1 _ (rooted_loc d)] at hf; cases hf
  · rw [putD_B]
  · rw [putD_B]
  · rw [putD_H,putD_B,find_ins,if_neg]
    · exact ⟨h1,h2⟩
    · intro e; subst e; rw [f2 _ (rooted_loc d)] at h2; cases h2
  · rw [findH,putD_H,putD_B,find_ins,if_neg] at hs
    · rw [findH]; exact hs
    · intro e; subst e; exact rooted_notExt (rooted_loc d) hb
def okZero (z:List AV):Bool:=!z.isEmpty && z.all cellOk && (refsL z).isEmpty && (toksL z).isEmpty
variable (Y)
def sAlloc (S:SSt U) (o:Oper) (e:TypeId) (K:SV U→SSt U→Option ρ):Option ρ :=
  match Y.Z.tb[e]?,o.dst with
  | some ti,some d=>if okZero ti.zero && sclear S d then K (.raw (.ptr (.loc d) 0)) { S with H:=ins (.loc d) (.rw,ti.zero.map .raw) S.H } else none
  | _,_=>none
def sBox (kt:Bool) (S:SSt U) (o:Oper) (e:TypeId) (x:Operand) (K:SV U→SSt U→Option ρ):Option ρ :=
  match tsize Y.Z.tb e,o.dst,(if kt then some (chunk (evS Y S.A x)) else dgSL S.B (fun _=>true) (chunk (evS Y S.A x))) with
  | some s,some d,some cs=>if csize Y.M (evS Y S.A x) = some s∧sdef S.B (evS Y S.A x) = true∧offS d (refsS (evS Y S.A x) ++ toksSL cs) = true∧sclear S d = true then K (.raw (.ptr (.loc d) 0)) { S with H:=ins (.loc d) (.rw,cs) S.H } else none
  | _,_,_=>none
variable {Y}
theorem sAlloc_ok {S:SSt U} {o:Oper} {e:TypeId} (ho:o.op = .alloc e) {K:SV U→SSt U→Option ρ} {r:ρ} (h:sAlloc Y S o e K = some r):∃ v S1,HFact Y S o (smNew o) v S1∧K v S1 = some r:=by
  unfold sAlloc at h
  split at h
  · rename_i ti d hti hd
    split at h
    · rename_i hc
      simp only [okZero,Bool.and_eq_true,Bool.not_eq_true',List.isEmpty_iff] at hc
      obtain ⟨⟨⟨⟨c1,c2⟩,c3⟩,c4⟩,c5⟩:=hc
      refine ⟨_,_,HFact.newObj hd c5 (by rw [ho]; rfl) (cfg:=c0) ?_,h⟩
      unfold evOp
      simp only [ho,hti,hd,c1,Bool.false_eq_true,if_false,evBox,c0,growCells,List.foldl_nil,boxToks,c3,List.nil_append,List.any_nil,cellOk_flat c2,cleanL_free _ c4,c4]
    · cases h
  · cases h
theorem sBox_ok {kt:Bool} {S:SSt U} {o:Oper} {e:TypeId} {x:Operand} (ho:o.op = .box e x) {K:SV U→SSt U→Option ρ} {r:ρ} (h:sBox Y kt S o e x K = some r):∃ v S1,HFact Y S o (smNew o) v S1∧K v S1 = some r:=by
  unfold sBox at h
  split at h
  · rename_i s d cs hs hd hcs
    split at h
    · rename_i hc
      obtain ⟨c1,c2,c3,c4⟩:=hc
      refine ⟨_,_,HFact.newObj hd c4 (by rw [ho]; rfl) (cfg:={ c0 with keep:=kt }) ?_,h⟩
      have hfl:boxToks kt (cellsOf (den Y.M S.B (evS Y S.A x))) = flat Y.M S.B cs:=by
        cases kt with
        | true=>
          simp only [if_true] at hcs
          cases hcs
          rw [chunk_ok Y.ok]; rfl
        | false=>
          simp only [Bool.false_eq_true,if_false] at hcs
          have hfl:=dgSF_ok Y.ok (B:=S.B) (B':=S.B) (p:=fun _=>true) (fun _ h=>by cases h) _ hcs
          rw [chunk_ok Y.ok] at hfl
          show cleanL _ = _
          rw [cleanL_dg,hfl]
      unfold evOp
      simp only [ho,evS_ok,hs,hd,csize_ok Y.ok S.B _ c1,sdef_ok Y.ok c2,and_self,if_true,evBox,c0,growCells,List.foldl_nil,hfl]
      rw [if_neg]
      rw [List.any_append,refsL_cells,refs_den Y.ok]
      have k1:=off_sub (fun b hb=>List.mem_append_left _ hb) c3
      have k2:=off_sub (l:=toksL (flat Y.M S.B cs)) (fun b hb=>List.mem_append_right _ (toks_flat Y.ok S.B cs b hb)) c3
      rw [show (fun o:AE.Oid=>decide (o.root = .loc d)) = rooted d from rfl,k1,k2]; simp
    · cases h
  · cases h
def scellOk (B:Bufs U):SV U→Bool
  | .raw a=>cellOk a && (toks a).isEmpty
  | .tip b=>(find B b).isSome
  | .agg _=>false
  | .arr _ _=>false
  | .tup _=>false
  | .fn _ a b=>(toksSL a).isEmpty && (toksSL b).isEmpty
  | _=>true
variable (Y)
def skeep (kt:Bool) (B:Bufs U) (o:Oid):Nat→List (SV U)→Option (List (SV U))
  | _,[]=>some []
  | j,c :: r=>match csize Y.M c,skeep kt B o (j + (csize Y.M c).getD 0) r with
    | some _,some r'=>if scellOk B c then (match c with
      | .tip b=>some ((if kt = true ∨ b = .cl o j then .tip b else (match find B b with | some ⟨i,l⟩=>.lst false i l | none=>.raw .undef)) :: r')
      | c=>some (c :: r')) else none
    | _,_=>none
variable {Y}
theorem toks_empty {M:TM U} {tb:List TI} (hM:TMOk M tb) {B:Bufs U} {v:SV U} (h:toksS v = []):toksL (cellsOf (den M B v)) = []:=by
  rw [toksL_cells,List.eq_nil_iff_forall_not_mem]
  intro b hb
  have:=toks_den hM B v b hb
  rw [h] at this; cases this
theorem keptToks_append (kt:Bool) (o:Oid) (a b:List AV) (j:Nat):keptToks kt o j (a ++ b) = keptToks kt o j a ++ keptToks kt o (j + a.length) b:=by
  unfold keptToks; split
  · rfl
  · exact keepToks_append o a b j
theorem keptToks_free (kt:Bool) (o:Oid) (a:List AV) (j:Nat) (h:toksL a = []):keptToks kt o j a = a:=by
  unfold keptToks; split
  · rfl
  · exact keepToks_free o a j h
theorem skeep_ok {kt:Bool} {B:Bufs U} {o:Oid}:∀ {l:List (SV U)} {j:Nat} {l':List (SV U)},skeep Y kt B o j l = some l'→keptToks kt o j (flat Y.M B l) = flat Y.M B l'∧(flat Y.M B l).all cellOk = true
  | [],j,l',h=>by simp only [skeep] at h; cases h; exact ⟨by cases kt <;> rfl,rfl⟩
  | c :: r,j,l',h=>by
    simp only [skeep] at h
    split at h
    · rename_i m r' hm hr
      rw [hm,Option.getD_some] at hr
      obtain ⟨k1,k2⟩:=skeep_ok hr
      have hl:=csize_ok Y.ok B _ hm
      split at h
      · rename_i hc
        simp only [flat,keptToks_append,hl,k1,List.all_append,k2,Bool.and_true]
        have free:toksS c = []→(cellsOf (den Y.M B c)).all cellOk = true→keptToks kt o j (cellsOf (den Y.M B c)) ++ flat Y.M B r' = flat Y.M B (c :: r')∧(cellsOf (den Y.M B c)).all cellOk = true:=fun h1 h2=>
          ⟨by rw [keptToks_free _ _ _ _ (toks_empty Y.ok h1)]; rfl,h2⟩
        split at h
        · rename_i b
          cases h
          simp only [scellOk] at hc
          cases hf:find B b with
          | none=>rw [hf] at hc; cases hc
          | some x=>
            obtain ⟨i,l⟩:=x
            simp only [den,hf,cellsOf,keptToks,keepToks,keepTok,flat,List.all_cons,cellOk,List.all_nil,Bool.and_true,and_true]
            cases kt with
            | true=>simp only [if_true,true_or,den,hf]
            | false=>
              simp only [Bool.false_eq_true,if_false,false_or]
              by_cases e:b = .cl o j
              · simp only [if_pos e,den,hf]
              · simp only [if_neg e,den,hf]; rfl
        · cases h
          cases c with
          | raw a=>simp only [scellOk,Bool.and_eq_true,List.isEmpty_iff] at hc; exact free (by simp only [toksS]; exact hc.2) (by simp only [den,cellsOf_one hc.1,List.all_cons,hc.1,List.all_nil,Bool.and_true])
          | typ i x=>exact free rfl (Y.ok.cells i x)
          | lst f i l=>exact free rfl rfl
          | tip b=>rename_i hx; exact (hx b rfl).elim
          | opt i x=>cases x <;> exact free rfl rfl
          | pint _ _ _=>exact free rfl rfl
          | arr _ _=>simp [scellOk] at hc
          | pin _=>exact free rfl rfl
          | agg _=>simp [scellOk] at hc
          | tup _=>simp [scellOk] at hc
          | fn f a b=>simp only [scellOk,Bool.and_eq_true,List.isEmpty_iff] at hc; exact free (by simp only [toksS,hc.1,hc.2,List.append_nil]) rfl
      · cases h
    · cases h
def cellsAt (b:Oid) (off:Nat):Nat→List (Oid × Nat)→List (Oid × Nat)
  | 0,l=>l
  | m + 1,l=>(b,off) :: cellsAt b (off + 1) m l
theorem cellsAt_mem {b:Oid}:∀ {m off:Nat} {l:List (Oid × Nat)} {x:Oid × Nat},x ∈ cellsAt b off m l ↔ (x.1 = b∧off ≤ x.2∧x.2 < off + m) ∨ x ∈ l
  | 0,off,l,x=>by simp only [cellsAt]; constructor <;> intro h <;> first | exact .inr h | skip; rcases h with h | h; omega; exact h
  | m + 1,off,l,x=>by
    simp only [cellsAt,List.mem_cons,cellsAt_mem (m:=m)]
    constructor
    · rintro (rfl | h | h)
      · exact .inl ⟨rfl,Nat.le_refl _,by simp⟩
      · exact .inl ⟨h.1,by omega,by omega⟩
      · exact .inr h
    · rintro (⟨h1,h2,h3⟩ | h)
      · by_cases e:x.2 = off
        · left; obtain ⟨a,c⟩:=x; simp at h1 e; rw [h1,e]
        · right; left; exact ⟨h1,by omega,by omega⟩
      · exact .inr (.inr h)
variable (Y)
def sStore (kt:Bool) (S:SSt U) (t:TypeId) (a x:Operand) (K:SV U→SSt U→Option ρ):Option ρ :=
  match Y.Z.tb[t]?,evS Y S.A a with
  | some ti,.raw (.ptr b off)=>match find S.H b,skeep Y kt S.B b off (chunk (evS Y S.A x)) with
    | some (.rw,cs),some l=>match setS Y.M off (.agg l) cs with
      | some cs'=>if b.root = b∧csize Y.M (evS Y S.A x) = some ti.size∧csizeL Y.M l = some ti.size then K (.raw (.tuple [])) { S with H:=ins b (.rw,cs') S.H,W:=cellsAt b off ti.size S.W } else none
      | none=>none
    | _,_=>none
  | _,_=>none
variable {Y}
theorem sStore_ok {kt:Bool} {S:SSt U} {o:Oper} {t:TypeId} {a x:Operand} (ho:o.op = .store t a x) {K:SV U→SSt U→Option ρ} {r:ρ} (h:sStore Y kt S t a x K = some r):∃ v S1,HFact Y S o (smAt (evS Y S.A a)) v S1∧K v S1 = some r:=by
  unfold sStore at h
  split at h
  · rename_i ti b off hti ha
    split at h
    · rename_i cs l hcs hl
      split at h
      · rename_i cs' hset
        split at h
        · rename_i hc
          obtain ⟨c1,c2,c3⟩:=hc
          obtain ⟨q1,q2⟩:=skeep_ok hl
          rw [chunk_ok Y.ok] at q1 q2
          obtain ⟨s1,s2,s3⟩:=setS_ok Y.ok S.B hset
          simp only [den,show ∀ z,cellsOf (AV.agg z) = z from fun _=>rfl] at s1 s2
          have hlv:=csize_ok Y.ok S.B _ c2
          have hll:=csizeL_ok Y.ok S.B _ c3
          refine ⟨_,_,⟨{ c0 with keep:=kt },{ v:=.tuple [],ws:=[(b,.cells .rw (flat Y.M S.B cs'))],rd:=[b] },?_,by rw [ho]; rfl,fun hf=>(by cases hf),by (rw [ha]; exact ⟨rfl,by simp [smAt],rfl⟩),⟨fun t=>?_,fun b' ob' hb=>⟨ob',?_,ObWk.refl _⟩,fun e he hs=>?_⟩,
            ⟨fun t ht=>?_,fun o' wr cs0 hf=>?_,fun b' x hb h1 h2=>?_,fun x hx=>?_,fun x hx=>by rw [putD_X]; exact hx,fun b' hb' hs=>?_⟩⟩,h⟩
          · unfold evOp
            simp only [ho,evS_ok,ha,den]
            unfold evStore
            simp only [hti,findH,hcs]
            rw [if_pos ⟨hlv,by rw [hlv]; omega,c1,q2⟩,q1,s1]
          · rw [getS_ok,getA_upd,getS_putD,putD_B]
            split
            · exact Wk.refl _
            · rw [getS_ok]; exact Wk.refl _
          · rw [findH,putD_H,putD_B] at hb
            rw [find_insAll]
            simp only [find_ins,find] at hb ⊢
            by_cases e:b = b'
            · rw [if_pos e] at hb ⊢; exact hb
            · rw [if_neg e] at hb ⊢; simp only; rw [findH]; exact hb
          · rw [find_insAll] at hs
            rw [findH,putD_H,putD_B]
            simp only [find_ins,find] at hs ⊢
            by_cases e':b = e
            · rw [if_pos e']; rfl
            · rw [if_neg e'] at hs ⊢; simp only at hs; rw [findH] at hs; exact hs
          · rw [getS_putD,putD_B,if_neg]
            intro e; exact ht (by rw [e]; simp)
          · rw [putD_H,putD_B,putD_W,find_ins]
            by_cases e:b = o'
            · subst e
              rw [hcs] at hf; cases hf
              refine ⟨cs',by rw [if_pos rfl],s3,fun j hj=>?_⟩
              rw [cellsAt_mem] at hj
              simp only [not_or,true_and] at hj
              rw [← s1,setRange_get _ _ _ _ (by rw [hll]; omega)]
            · exact ⟨cs0,by rw [if_neg e]; exact hf,rfl,fun _ _=>rfl⟩
          · rw [putD_H,putD_B]
            refine ⟨?_,h2⟩
            rw [find_ins,if_neg]
            · exact h1
            · intro e; subst e; rw [hcs] at h1; cases h1
          · rw [putD_W]; exact cellsAt_mem.2 (.inr hx)
          · rw [findH,putD_H,putD_B,find_ins] at hs
            rw [findH]
            by_cases e:b = b'
            · subst e; rw [hcs]; rfl
            · rw [if_neg e] at hs; exact hs
        · cases h
      · cases h
    · cases h
  · cases h
end
end Go.Proofs.YtjojaiomgdjhfaaGreatDoor.SY
namespace Go.Proofs.YtjojaiomgdjhfaaGreatDoor.SY
open Go AE F
section
variable {U:Nat→Type} {ρ:Type} (Y:SZ U)
def memAs (B:Bufs U) (i:Nat) (x:SV U):Option (List (U i)) :=
  match x with
  | .raw .nils=>some []
  | x=>match mem B x with
    | some ⟨j,l⟩=>if h:j = i then some (h ▸ l) else none
    | none=>none
def apTy (t u:TypeId):Option (Nat × Nat) :=
  match descOf Y.Z.tb t,descOf Y.Z.tb u with
  | some (.slice e),some (.slice _)=>match Y.Z.tb[e]?,Y.M.ofTy.lookup e with
    | some te,some i=>if !te.zero.isEmpty && te.zero.length == te.size then some (i,te.bytes) else none
    | _,_=>none
  | _,_=>none
def dgA' (B:Bufs U) (p:Oid→Bool):List (Nat × SV U)→Option (List (Nat × SV U))
  | []=>some []
  | (t,v) :: r=>match dgS B p v,dgA' B p r with | some v',some r'=>some ((t,v') :: r') | _,_=>none
def dgH' (B:Bufs U) (p:Oid→Bool):List (Oid × Fl × List (SV U))→Option (List (Oid × Fl × List (SV U)))
  | []=>some []
  | (o,w,l) :: r=>match dgSL B p l,dgH' B p r with | some l',some r'=>some ((o,w,l') :: r') | _,_=>none
def growB (S:SSt U) (b:Oid) (x:Bf U):Option (SSt U) :=
  match dgA' S.B (fun y=>y == b) S.A,dgH' S.B (fun y=>y == b) S.H with
  | some A,some H=>if (find S.H b).isNone then some { A,H,B:=ins b x S.B,W:=S.W,X:=b :: S.X } else none
  | _,_=>none
def sAppend (pl em:Bool) (S:SSt U) (o:Oper) (t u:TypeId) (s x:Operand) (K:SV U→SSt U→Option ρ):Option ρ :=
  match apTy Y t u,o.dst with
  | some (i,bytes),some d=>match memAs S.B i (evS Y S.A x) with
    | none=>none
    | some m=>
      match evS Y S.A s with
      | .tip b=>match find S.B b with
        | some ⟨j,l⟩=>if h:j = i then (if room bytes (l.length + m.length) then (match growB S b ⟨j,l ++ (h ▸ m)⟩ with | some S1=>K (.tip b) S1 | none=>none) else none) else none
        | none=>none
      | .raw .nils=>
        if pl then (if room bytes (0 + m.length) then K (.lst false i m) S else none)
        else if em then (match sclear S d,growB S (.loc d) ⟨i,m⟩ with
          | true,some S1=>if m.isEmpty then K (.raw .nils) S else if room bytes (0 + m.length) then K (.tip (.loc d)) S1 else none
          | _,_=>none)
        else match m.isEmpty,sclear S d,growB S (.loc d) ⟨i,m⟩ with
          | false,true,some S1=>if room bytes (0 + m.length) then K (.tip (.loc d)) S1 else none
          | _,_,_=>none
      | .lst f j l=>if f then (if h:j = i then
        (if pl then (if room bytes (l.length + m.length) then K (.lst false j (l ++ (h ▸ m))) S else none)
        else if em then (match sclear S d,growB S (.loc d) ⟨j,l ++ (h ▸ m)⟩ with
          | true,some S1=>if m.isEmpty then K (.lst true j l) S else if room bytes (l.length + m.length) then K (.tip (.loc d)) S1 else none
          | _,_=>none)
        else match m.isEmpty,sclear S d,growB S (.loc d) ⟨j,l ++ (h ▸ m)⟩ with
          | false,true,some S1=>if room bytes (l.length + m.length) then K (.tip (.loc d)) S1 else none
          | _,_,_=>none) else none) else none
      | _=>none
  | _,_=>none
variable {Y}
theorem dgA'_get {B:Bufs U} {p:Oid→Bool}:∀ {A A':List (Nat × SV U)},dgA' B p A = some A'→∀ t,dgS B p (getS A t) = some (getS A' t)
  | [],A',h,t=>by simp only [dgA'] at h; cases h; rfl
  | (k,v) :: r,A',h,t=>by
    simp only [dgA'] at h
    split at h
    · rename_i v' r' hv hr
      cases h
      have:=dgA'_get hr t
      simp only [getS,find] at this ⊢
      by_cases e:k = t
      · simp only [if_pos e]; exact hv
      · simp only [if_neg e]; exact this
    · cases h
theorem dgH'_get {B:Bufs U} {p:Oid→Bool}:∀ {H H':List (Oid × Fl × List (SV U))},dgH' B p H = some H'→∀ o,match find H o with
    | none=>find H' o = none
    | some (w,l)=>∃ l',dgSL B p l = some l'∧find H' o = some (w,l')
  | [],H',h,o=>by simp only [dgH'] at h; cases h; rfl
  | (k,w,l) :: r,H',h,o=>by
    simp only [dgH'] at h
    split at h
    · rename_i l' r' hl hr
      cases h
      have:=dgH'_get hr o
      simp only [find]
      by_cases e:k = o
      · simp only [if_pos e]; exact ⟨l',hl,rfl⟩
      · simp only [if_neg e]; exact this
    · cases h
theorem xp_cons {b:Oid} {X:List Oid}:∀ y,(y == b) = true→xp (b :: X) y = true:=by
  intro y hy
  simp only [xp,List.contains_cons,hy,Bool.true_or]
theorem growB_ok {S S1:SSt U} {b:Oid} {x:Bf U} {dst:Option Nat} {a:AV} {v:SV U} (h:growB S b x = some S1) (hex:(find S.B b).isSome = true ∨ ¬ IsExt b) (hv:Wk a (den Y.M S1.B v)) :
    SWf ⟨updO dst a (denS Y S).A,insAll (denS Y S).H [(b,.buf (Y.M.size x.i) x.l.length)]⟩ (denS Y (putD dst v S1))∧Fr Y dst.toList S (putD dst v S1):=by
  unfold growB at h
  split at h
  · rename_i A H hA hH
    split at h
    · rename_i hn
      cases h
      have hB:∀ y,(y == b) = false→find (ins b x S.B) y = find S.B y:=by
        intro y hy
        rw [find_ins,if_neg]
        intro e; subst e; simp at hy
      have gA:=dgA'_get hA
      have gH:=dgH'_get hH
      have hn':find S.H b = none:=by cases hq:find S.H b with | none=>rfl | some _=>rw [hq] at hn; cases hn
      have hX:=fun y=>xp_cons (b:=b) (X:=S.X) y
      refine ⟨⟨fun t=>?_,fun b' ob' hb=>?_,fun e he hs=>?_⟩,⟨fun t ht=>?_,fun o wr cs hf=>?_,fun b' x' hb h1 h2=>?_,fun x hx=>by rw [putD_W]; exact hx,fun x hx=>by rw [putD_X]; exact List.mem_cons_of_mem _ hx,fun b' hb' hs=>?_⟩⟩
      · rw [getS_ok,getA_upd,getS_putD,putD_B]
        split
        · exact hv
        · rw [getS_ok,dgS_ok Y.ok hB _ (gA t)]; exact Wk.dg _ _
      · rw [findH,putD_H,putD_B] at hb
        simp only at hb
        rw [find_insAll]
        simp only [find]
        by_cases e:b = b'
        · subst e
          have:=gH b
          rw [hn'] at this
          simp only at this
          rw [this] at hb
          simp only [find_ins,if_true,Option.map_some] at hb
          cases hb
          exact ⟨.buf _ _,by rw [if_pos rfl],rfl,rfl⟩
        · simp only [if_neg e]
          rw [findH]
          have:=gH b'
          cases hq:find S.H b' with
          | none=>
            rw [hq] at this
            simp only at this ⊢
            rw [this] at hb
            simp only [find_ins,if_neg e] at hb
            exact ⟨ob',hb,ObWk.refl _⟩
          | some p=>
            obtain ⟨w,l⟩:=p
            rw [hq] at this
            obtain ⟨l',h1,h2⟩:=this
            rw [h2] at hb
            cases hb
            refine ⟨_,rfl,rfl,?_⟩
            simp only
            rw [dgSF_ok Y.ok hB _ h1]; exact WkL.dg _ _
      · rw [find_insAll] at hs
        rw [findH,putD_H,putD_B]
        simp only [find] at hs ⊢
        by_cases e':b = e
        · subst e'
          have:=gH b
          rw [hn'] at this
          simp only at this
          simp only [this,find_ins,if_true]; rfl
        · simp only [if_neg e'] at hs
          rw [findH] at hs
          have:=gH e
          cases hq:find S.H e with
          | none=>
            rw [hq] at this hs
            simp only at this hs
            simp only [this,find_ins,if_neg e']; exact hs
          | some p=>
            obtain ⟨w,l⟩:=p
            rw [hq] at this
            obtain ⟨l',h1,h2⟩:=this
            rw [h2]; rfl
      · rw [getS_putD,putD_X,putD_B,if_neg (fun e=>ht (by rw [e]; simp))]
        simp only
        rw [dgS_ok Y.ok hB _ (gA t),dg_dg hX]
      · have:=gH o
        rw [hf] at this
        obtain ⟨l',h1,h2⟩:=this
        rw [putD_H,putD_B,putD_X]
        refine ⟨l',h2,?_,fun j _=>?_⟩
        · rw [dgSF_ok Y.ok hB _ h1,dgL_map,List.length_map]
        · simp only
          rw [dgSF_ok Y.ok hB _ h1,dgL_map,List.getElem?_map,Option.map_map]
          simp only [Function.comp_def,dg_dg hX]
      · rw [putD_X] at hb
        rw [putD_H,putD_B]
        have:=gH b'
        rw [h1] at this
        refine ⟨this,?_⟩
        simp only [find_ins]
        rw [if_neg]
        · exact h2
        · intro e; subst e; exact hb List.mem_cons_self
      · rw [findH,putD_H,putD_B] at hs
        simp only at hs
        rw [findH]
        have:=gH b'
        cases hq:find S.H b' with
        | some p=>rfl
        | none=>
          rw [hq] at this
          simp only at this ⊢
          rw [this] at hs
          simp only [find_ins] at hs
          by_cases e:b = b'
          · subst e
            rcases hex with hex | hex
            · rw [Option.isSome_map]; exact hex
            · exact (hex hb').elim
          · rw [if_neg e] at hs; exact hs
    · cases h
  · cases h
theorem memAs_ok {M:TM U} {B:Bufs U} {i:Nat} {x:SV U} {m:List (U i)} (h:memAs B i x = some m):srcOf (den M B x) = some (m.map (M.enc i))∧srcOk (M.size i) (den M B x) = true:=by
  unfold memAs at h
  split at h
  · cases h; exact ⟨rfl,rfl⟩
  · split at h
    · rename_i j l hm
      split at h
      · rename_i e
        subst e
        cases h
        obtain ⟨tok,hd⟩:=mem_ok (M:=M) hm
        rw [hd]
        exact ⟨rfl,by simp [srcOk]⟩
      · cases h
    · cases h
theorem apTy_ok {t u:TypeId} {i bytes:Nat} (h:apTy Y t u = some (i,bytes)):∃ e e' te,descOf Y.Z.tb t = some (.slice e)∧descOf Y.Z.tb u = some (.slice e')∧Y.Z.tb[e]? = some te∧te.zero.isEmpty = false∧(te.zero.length != te.size) = false∧te.size = Y.M.size i∧te.bytes = bytes:=by
  unfold apTy at h
  split at h
  · rename_i e e' h1 h2
    split at h
    · rename_i te j h3 h4
      split at h
      · rename_i hc
        cases h
        simp only [Bool.and_eq_true,Bool.not_eq_true',beq_iff_eq] at hc
        exact ⟨e,e',te,h1,h2,h3,hc.1,by simp [hc.2],(lookup_ty Y.ok h4 h3).1,rfl⟩
      · cases h
    · cases h
  · cases h
theorem sAppend_ok {pl em:Bool} {S:SSt U} {o:Oper} {c:Call} {t u:TypeId} {ts:List TypeId} {s x:Operand} {xs:List Operand} (ho:o.op = .call c) (hcal:c.callee = .builtin .append) (hts:c.argTypes.toList = t :: u :: ts) (hxs:c.args.toList = s :: x :: xs) {K:SV U→SSt U→Option ρ} {r:ρ}
    (h:sAppend Y pl em S o t u s x K = some r):∃ v S1,HFact Y S o (smAp o (evS Y S.A s) v) v S1∧K v S1 = some r:=by
  unfold sAppend at h
  split at h
  case h_2=>cases h
  rename_i i bytes d hty hd
  split at h
  case h_1=>cases h
  rename_i m hm
  obtain ⟨e,e',te,t1,t2,t3,t4,t5,t6,t7⟩:=apTy_ok hty
  obtain ⟨m1,m2⟩:=memAs_ok (M:=Y.M) hm
  have t5:(te.zero.length != Y.M.size i) = false:=t6 ▸ t5
  have hcv:isCallV o.op = false:=by rw [ho]; simp only [isCallV,hcal]
  have h0:∀ cfg:Cfg,evOp Y.Z.tb cfg noCall 0 (evalA Y.Z.gl (denS Y S).A) (denS Y S).H o = evAppend Y.Z.tb (cfg.plainAp 0 d) d (denS Y S).H t u (den Y.M S.B (evS Y S.A s)) (den Y.M S.B (evS Y S.A x)):=by
    intro cfg
    unfold evOp
    simp only [ho,hcal,hd,hts,hxs,List.map_cons,evS_ok]
  have hE:∀ (cfg:Cfg) (av:AV),den Y.M S.B (evS Y S.A s) = av→evOp Y.Z.tb cfg noCall 0 (evalA Y.Z.gl (denS Y S).A) (denS Y S).H o = (match av with
      | .nils=>if (cfg.plainAp 0 d) then (if roomy te.bytes (m.map (Y.M.enc i)).length then some { v:=.slice .none te.size (m.map (Y.M.enc i)) } else none) else if (m.map (Y.M.enc i)).isEmpty then some { v:=.nils } else
        if roomy te.bytes (m.map (Y.M.enc i)).length then
          some { v:=.slice (.buf (.loc d)) te.size (m.map (Y.M.enc i)),ws:=[(.loc d,.buf te.size (m.map (Y.M.enc i)).length)],fresh:=true } else none
      | .slice .full sz es=>
        if sz ≠ te.size then none else
        if (cfg.plainAp 0 d) then (if roomy te.bytes (es.length + (m.map (Y.M.enc i)).length) then some { v:=.slice .none sz (es ++ (m.map (Y.M.enc i))) } else none) else if (m.map (Y.M.enc i)).isEmpty then some { v:=.slice .full sz es } else
        if roomy te.bytes (es.length + (m.map (Y.M.enc i)).length) then
          some { v:=.slice (.buf (.loc d)) sz (es ++ (m.map (Y.M.enc i))),ws:=[(.loc d,.buf sz (es.length + (m.map (Y.M.enc i)).length))],fresh:=true } else none
      | .slice (.buf b) sz es=>
        if sz ≠ te.size then none else
        match find (denS Y S).H b with
        | some (.buf sz' n)=>
          if sz' = sz∧n = es.length∧roomy te.bytes (es.length + (m.map (Y.M.enc i)).length) then
            some { v:=.slice (.buf b) sz (es ++ (m.map (Y.M.enc i))),ws:=[(b,.buf sz (es.length + (m.map (Y.M.enc i)).length))],rd:=[b] } else none
        | _=>none
      | _=>none):=by
    intro cfg av hav
    rw [h0,hav]
    unfold evAppend
    simp only [t1,t2,m1,t3,srcTy,t4,t5,t6,m2,Bool.not_true,Bool.or_false,Bool.false_eq_true,if_false]
    cases av <;> rfl
  generalize evS Y S.A s = vs at h hE ⊢
  split at h
  · -- onto what is grown
    rename_i b
    split at h
    · rename_i j l hb
      split at h
      · rename_i hj
        subst hj
        split at h
        · rename_i hr
          split at h
          · rename_i S1 hg
            have hnone:find S.H b = none:=by
              unfold growB at hg
              split at hg
              · split at hg
                · rename_i hn; cases hq:find S.H b with | none=>rfl | some _=>rw [hq] at hn; cases hn
                · cases hg
              · cases hg
            have hB1:find S1.B b = some ⟨_,l ++ m⟩:=by
              unfold growB at hg
              split at hg
              · split at hg
                · cases hg; simp only [find_ins,if_true]
                · cases hg
              · cases hg
            have hden:den Y.M S1.B (.tip b) = .slice (.buf b) (Y.M.size j) (l.map (Y.M.enc j) ++ m.map (Y.M.enc j)):=by simp only [den,hB1,List.map_append]
            obtain ⟨g1,g3⟩:=growB_ok (Y:=Y) (dst:=o.dst) (v:=.tip b) hg (.inl (by rw [hb]; rfl)) (Wk.eq hden.symm)
            refine ⟨_,_,⟨c0,{ v:=.slice (.buf b) (Y.M.size j) (l.map (Y.M.enc j) ++ m.map (Y.M.enc j)),ws:=[(b,.buf (Y.M.size j) (l ++ m).length)],rd:=[b] },?_,hcv,fun hf=>by (cases hf),⟨rfl,by simp [smAp],rfl⟩,g1,g3⟩,h⟩
            rw [hE c0 (.slice (.buf b) (Y.M.size j) (l.map (Y.M.enc j))) (by simp only [den,hb])]
            simp only [findH,hnone,hb,Option.map_some,t6,ne_eq,not_true,if_false,t7,List.length_map,true_and]
            rw [if_pos (by rw [room_roomy] at hr; exact hr),List.length_append]
          · cases h
        · cases h
      · cases h
    · cases h
  · -- onto nil
    split at h
    · rename_i hpl
      split at h
      · rename_i hr
        refine ⟨_,_,⟨cP [d],{ v:=.slice .none (Y.M.size i) (m.map (Y.M.enc i)) },?_,hcv,fun hf=>by (cases hf),⟨rfl,by simp [smAp],rfl⟩,put_weak (Wk.refl _),Fr.put _ _⟩,h⟩
        rw [hE _ .nils rfl]
        simp only [cP,List.contains_cons,beq_self_eq_true,Bool.true_or,if_true,t6,t7,List.length_map]
        rw [if_pos (by rw [room_roomy,Nat.zero_add] at hr; exact hr)]
      · cases h
    · have grown:∀ {S1:SSt U},m.isEmpty = false→sclear S d = true→growB S (.loc d) ⟨i,m⟩ = some S1→room bytes (0 + m.length) = true→K (.tip (.loc d)) S1 = some r→∃ v S1,HFact Y S o (smAp o (.raw .nils) v) v S1∧K v S1 = some r:=by
        intro S1 hme hcl hg hr h
        have hB1:find S1.B (.loc d) = some ⟨i,m⟩:=by
          unfold growB at hg
          split at hg
          · split at hg
            · cases hg; simp only [find_ins,if_true]
            · cases hg
          · cases hg
        have hden:den Y.M S1.B (.tip (.loc d)) = .slice (.buf (.loc d)) (Y.M.size i) (m.map (Y.M.enc i)):=by simp only [den,hB1]
        obtain ⟨g1,g3⟩:=growB_ok (Y:=Y) (dst:=o.dst) (v:=.tip (.loc d)) hg (.inr (rooted_notExt (rooted_loc d))) (Wk.eq hden.symm)
        refine ⟨_,_,⟨c0,{ v:=.slice (.buf (.loc d)) (Y.M.size i) (m.map (Y.M.enc i)),ws:=[(.loc d,.buf (Y.M.size i) m.length)],fresh:=true },?_,hcv,fun _=>⟨d,hd,hcl⟩,(by simp only [smAp,smNew,hd]; exact ⟨rfl,by simp,rfl⟩),g1,g3⟩,h⟩
        rw [hE c0 .nils rfl]
        have hme':(m.map (Y.M.enc i)).isEmpty = false:=by cases m <;> simp_all
        simp only [c0,Bool.false_eq_true,if_false,hme',t6,t7,List.length_map]
        rw [if_pos (by rw [room_roomy,Nat.zero_add] at hr; exact hr)]
      split at h
      · split at h
        · rename_i S1 hcl hg
          split at h
          · rename_i hme
            refine ⟨_,_,⟨c0,{ v:=.nils },?_,hcv,fun hf=>by (cases hf),⟨rfl,by simp [smAp],rfl⟩,put_weak (Wk.refl _),Fr.put _ _⟩,h⟩
            rw [hE c0 .nils rfl]
            have hme':(m.map (Y.M.enc i)).isEmpty = true:=by cases m <;> simp_all
            simp only [c0,Bool.false_eq_true,if_false,hme',if_true]
          · rename_i hme
            rw [Bool.not_eq_true] at hme
            split at h
            · rename_i hr; exact grown hme hcl hg hr h
            · cases h
        · cases h
      · split at h
        · rename_i S1 hme hcl hg
          split at h
          · rename_i hr; exact grown hme hcl hg hr h
          · cases h
        · cases h
  · -- onto what is full
    rename_i f j l
    obtain rfl:f = true:=by
      cases f with
      | true=>rfl
      | false=>simp at h
    simp only [if_true] at h
    split at h
    · rename_i hj
      subst hj
      split at h
      · rename_i hpl
        split at h
        · rename_i hr
          refine ⟨_,_,⟨cP [d],{ v:=.slice .none (Y.M.size j) (l.map (Y.M.enc j) ++ m.map (Y.M.enc j)) },?_,hcv,fun hf=>by (cases hf),⟨rfl,by simp [smAp],rfl⟩,put_weak ?_,Fr.put _ _⟩,h⟩
          · rw [hE _ (.slice .full (Y.M.size j) (l.map (Y.M.enc j))) rfl]
            simp only [cP,List.contains_cons,beq_self_eq_true,Bool.true_or,if_true,t6,t7,List.length_map,ne_eq,not_true,if_false]
            rw [if_pos (by rw [room_roomy] at hr; exact hr)]
          · simp only [den,List.map_append,Bool.false_eq_true,if_false]; exact Wk.refl _
        · cases h
      · have grown:∀ {S1:SSt U},m.isEmpty = false→sclear S d = true→growB S (.loc d) ⟨j,l ++ m⟩ = some S1→room bytes (l.length + m.length) = true→K (.tip (.loc d)) S1 = some r→∃ v S1,HFact Y S o (smAp o (.lst true j l) v) v S1∧K v S1 = some r:=by
          intro S1 hme hcl hg hr h
          have hB1:find S1.B (.loc d) = some ⟨j,l ++ m⟩:=by
            unfold growB at hg
            split at hg
            · split at hg
              · cases hg; simp only [find_ins,if_true]
              · cases hg
            · cases hg
          have hden:den Y.M S1.B (.tip (.loc d)) = .slice (.buf (.loc d)) (Y.M.size j) (l.map (Y.M.enc j) ++ m.map (Y.M.enc j)):=by simp only [den,hB1,List.map_append]
          obtain ⟨g1,g3⟩:=growB_ok (Y:=Y) (dst:=o.dst) (v:=.tip (.loc d)) hg (.inr (rooted_notExt (rooted_loc d))) (Wk.eq hden.symm)
          refine ⟨_,_,⟨c0,{ v:=.slice (.buf (.loc d)) (Y.M.size j) (l.map (Y.M.enc j) ++ m.map (Y.M.enc j)),ws:=[(.loc d,.buf (Y.M.size j) (l ++ m).length)],fresh:=true },?_,hcv,fun _=>⟨d,hd,hcl⟩,(by simp only [smAp,smNew,hd]; exact ⟨rfl,by simp,rfl⟩),g1,g3⟩,h⟩
          rw [hE c0 (.slice .full (Y.M.size j) (l.map (Y.M.enc j))) rfl]
          have hme':(m.map (Y.M.enc j)).isEmpty = false:=by cases m <;> simp_all
          simp only [c0,Bool.false_eq_true,if_false,hme',t6,t7,List.length_map,ne_eq,not_true]
          rw [if_pos (by rw [room_roomy] at hr; exact hr),List.length_append]
        split at h
        · split at h
          · rename_i S1 hcl hg
            split at h
            · rename_i hme
              refine ⟨_,_,⟨c0,{ v:=.slice .full (Y.M.size j) (l.map (Y.M.enc j)) },?_,hcv,fun hf=>by (cases hf),⟨rfl,by simp [smAp],rfl⟩,put_weak (Wk.refl _),Fr.put _ _⟩,h⟩
              rw [hE c0 (.slice .full (Y.M.size j) (l.map (Y.M.enc j))) rfl]
              have hme':(m.map (Y.M.enc j)).isEmpty = true:=by cases m <;> simp_all
              simp only [c0,Bool.false_eq_true,if_false,hme',if_true,t6,ne_eq,not_true]
            · rename_i hme
              rw [Bool.not_eq_true] at hme
              split at h
              · rename_i hr; exact grown hme hcl hg hr h
              · cases h
          · cases h
        · split at h
          · rename_i S1 hme hcl hg
            split at h
            · rename_i hr; exact grown hme hcl hg hr h
            · cases h
          · cases h
    · cases h
  · cases h
end
end Go.Proofs.YtjojaiomgdjhfaaGreatDoor.SY
namespace Go.Proofs.YtjojaiomgdjhfaaGreatDoor.SY
open Go AE F
section
variable {U:Nat→Type} {ρ:Type} {Y:SZ U}
theorem HFact.write {S:SSt U} {o:Oper} {b:Oid} {f:Fl} {cs cs':List (SV U)} {off m:Nat} {cfg:Cfg} (hcs:find S.H b = some (f,cs)) (hlen:(flat Y.M S.B cs').length = (flat Y.M S.B cs).length)
    (hsame:∀ j,¬ (off ≤ j∧j < off + m)→(flat Y.M S.B cs)[j]? = (flat Y.M S.B cs')[j]?) (hcv:isCallV o.op = false)
    (hev:evOp Y.Z.tb cfg noCall 0 (evalA Y.Z.gl (denS Y S).A) (denS Y S).H o = some { v:=.tuple [],ws:=[(b,.cells f (flat Y.M S.B cs'))],rd:=[b] }) :
    HFact Y S o ⟨[b],[b],false⟩ (.raw (.tuple [])) { S with H:=ins b (f,cs') S.H,W:=cellsAt b off m S.W }:=by
  refine ⟨cfg,_,hev,hcv,fun hf=>(by cases hf),⟨rfl,by simp,rfl⟩,⟨fun t=>?_,fun b' ob' hb=>⟨ob',?_,ObWk.refl _⟩,fun e he hs=>?_⟩,
    ⟨fun t ht=>?_,fun o' wr cs0 hf=>?_,fun b' x hb h1 h2=>?_,fun x hx=>?_,fun x hx=>by rw [putD_X]; exact hx,fun b' hb' hs=>?_⟩⟩
  · rw [getS_ok,getA_upd,getS_putD,putD_B]
    split
    · exact Wk.refl _
    · rw [getS_ok]; exact Wk.refl _
  · rw [findH,putD_H,putD_B] at hb
    rw [find_insAll]
    simp only [find_ins,find] at hb ⊢
    by_cases e:b = b'
    · rw [if_pos e] at hb ⊢; exact hb
    · rw [if_neg e] at hb ⊢; simp only; rw [findH]; exact hb
  · rw [find_insAll] at hs
    rw [findH,putD_H,putD_B]
    simp only [find_ins,find] at hs ⊢
    by_cases e':b = e
    · rw [if_pos e']; rfl
    · rw [if_neg e'] at hs ⊢; simp only at hs; rw [findH] at hs; exact hs
  · rw [getS_putD,putD_B,if_neg]
    intro e; exact ht (by rw [e]; simp)
  · rw [putD_H,putD_B,putD_W,find_ins]
    by_cases e:b = o'
    · subst e
      rw [hcs] at hf; cases hf
      refine ⟨cs',by rw [if_pos rfl],hlen,fun j hj=>?_⟩
      rw [cellsAt_mem] at hj
      simp only [not_or,true_and] at hj
      rw [hsame j hj.1]
    · exact ⟨cs0,by rw [if_neg e]; exact hf,rfl,fun _ _=>rfl⟩
  · rw [putD_H,putD_B]
    refine ⟨?_,h2⟩
    rw [find_ins,if_neg]
    · exact h1
    · intro e; subst e; rw [hcs] at h1; cases h1
  · rw [putD_W]; exact cellsAt_mem.2 (.inr hx)
  · rw [findH,putD_H,putD_B,find_ins] at hs
    rw [findH]
    by_cases e:b = b'
    · subst e; rw [hcs]; rfl
    · rw [if_neg e] at hs; exact hs
def msetM {V:Type}:(k:MK)→MT U k→V→List (MT U k × V)→List (MT U k × V)
  | .int _,n,v,l=>msetI n v l
  | .str,s,v,l=>msetS s v l
  | _,_,_,l=>l
theorem msetM_ok {M:TM U} {vk kk:MK} {d:TD} (hd:keyMK d kk = true) {k:MT U kk} {v:MT U vk}:∀ (l:List (MT U kk × MT U vk)) (i:Nat),∃ q,findE (encK M kk k) ((l.map fun p=>encK M kk p.1).zip (l.map fun p=>encK M vk p.2)) i = some q ∧
    (match q with
    | none=>msetM kk k v l = l ++ [(k,v)]
    | some p=>∃ m,p.1 = i + m∧(msetM kk k v l).map (fun p=>encK M kk p.1) = l.map (fun p=>encK M kk p.1)∧(msetM kk k v l).map (fun p=>encK M vk p.2) = (l.map fun p=>encK M vk p.2).set m (encK M vk v)):=by
  intro l
  induction l with
  | nil=>
    intro i
    refine ⟨none,rfl,?_⟩
    cases kk <;> first | rfl | cases hd
  | cons p l ih=>
    intro i
    obtain ⟨q,h1,h2⟩:=ih (i + 1)
    cases kk with
    | int kd=>
      simp only [List.map_cons,List.zip_cons_cons,findE,encK,sameK,if_true,msetM,msetI]
      cases hb:(p.1 == k) with
      | true=>
        have hb':((p.1:Int) == k) = true:=hb
        simp only [hb',if_true]
        exact ⟨_,rfl,0,rfl,rfl,rfl⟩
      | false=>
        have hb':((p.1:Int) == k) = false:=hb
        simp only [hb',Bool.false_eq_true,if_false]
        refine ⟨q,h1,?_⟩
        cases q with
        | none=>simp only [msetM] at h2; simp only [h2]; rfl
        | some r=>
          obtain ⟨m,e1,e2,e3⟩:=h2
          simp only [msetM,encK] at e2 e3
          exact ⟨m + 1,by simp only [e1]; omega,by simp only [List.map_cons,e2],by simp only [List.map_cons,List.set_cons_succ,e3]⟩
    | str=>
      simp only [List.map_cons,List.zip_cons_cons,findE,encK,sameK,msetM,msetS]
      cases hb:(p.1 == k) with
      | true=>
        have hb':((p.1:List UInt8) == k) = true:=hb
        simp only [hb',if_true]
        exact ⟨_,rfl,0,rfl,rfl,rfl⟩
      | false=>
        have hb':((p.1:List UInt8) == k) = false:=hb
        simp only [hb',Bool.false_eq_true,if_false]
        refine ⟨q,h1,?_⟩
        cases q with
        | none=>simp only [msetM] at h2; simp only [h2]; rfl
        | some r=>
          obtain ⟨m,e1,e2,e3⟩:=h2
          simp only [msetM,encK] at e2 e3
          exact ⟨m + 1,by simp only [e1]; omega,by simp only [List.map_cons,e2],by simp only [List.map_cons,List.set_cons_succ,e3]⟩
    | bool=>cases hd
    | typ j=>cases hd
theorem encK_plain {M:TM U} {tb:List TI} (hM:TMOk M tb):∀ (k:MK) (x:MT U k),AE.clean (encK M k x) = encK M k x∧AE.refs (encK M k x) = []
  | .int _,_=>⟨rfl,rfl⟩
  | .bool,_=>⟨rfl,rfl⟩
  | .str,_=>⟨rfl,rfl⟩
  | .typ j,x=>⟨hM.clean j x,hM.refs j x⟩
variable (Y)
def sSetK (S:SSt U) (b:Oid) (kd:IntKind) (ks:List Int) (n:Nat) (cs:List (SV U)) (x:SV U) (k:Int) (K:SV U→SSt U→Option ρ):List Int→Nat→Option ρ
  | [],_=>none
  | k0 :: r,j=>if k0 == k then (match splitS Y.M 300 (j * n) cs,setS Y.M (j * n) x cs with
      | some p,some cs'=>match splitS Y.M 300 n p.2 with
        | some q=>if refsS x = refsSL q.1 then K (.raw (.tuple [])) { S with H:=ins b (.mk kd ks n,cs') S.H,W:=cellsAt b (j * n) n S.W } else none
        | none=>none
      | _,_=>none) else sSetK S b kd ks n cs x k K r (j + 1)
def sMapSet (S:SSt U) (t:TypeId) (m key x:Operand) (K:SV U→SSt U→Option ρ):Option ρ :=
  match descOf Y.Z.tb t,evS Y S.A m with
  | some (.map kt et),.raw (.mapr b)=>match descOf Y.Z.tb kt with
    | some d=>match find S.H b with
      | some (.mw,[.typ i x0])=>match Y.M.mp i with
        | some p=>if keyMK d p.kk = true∧b.root = b then (match ofS p.kk (evS Y S.A key),ofS p.vk (evS Y S.A x) with
          | some k,some v=>K (.raw (.tuple [])) { S with H:=ins b (.mw,[.typ i (p.back (msetM p.kk k v (p.list x0)))]) S.H,W:=cellsAt b 0 1 S.W }
          | _,_=>none) else none
        | none=>none
      | some (.mk kd ks n,cs)=>match evS Y S.A key with
        | .raw (.int kd' k)=>if kd' = kd∧d = .int kd∧b.root = b∧csizeL Y.M cs = some (ks.length * n)∧csize Y.M (evS Y S.A x) = some n∧isAgg Y.M (evS Y S.A x) = true then sSetK Y S b kd ks n cs (evS Y S.A x) k K ks 0 else none
        | _=>none
      | _=>none
    | none=>none
  | _,_=>none
def smMap:SV U→Sm
  | .raw (.mapr b)=>⟨[b],[b],false⟩
  | _=>⟨[],[],false⟩
variable {Y}
theorem sSetK_ok {S:SSt U} {o:Oper} {b:Oid} {kd:IntKind} {ks:List Int} {n:Nat} {cs:List (SV U)} {x:SV U} {k:Int} {K:SV U→SSt U→Option ρ} {r:ρ} (hcs:find S.H b = some (.mk kd ks n,cs)) (hcv:isCallV o.op = false) (hx:csize Y.M x = some n)
    (hev:∀ j cs',findE (.int kd k) (esOf kd n ks (flat Y.M S.B cs)) 0 = some (some j)→setRange (flat Y.M S.B cs) (j.1 * n) (cellsOf (den Y.M S.B x)) = flat Y.M S.B cs'→∃ cfg,evOp Y.Z.tb cfg noCall 0 (evalA Y.Z.gl (denS Y S).A) (denS Y S).H o = some { v:=.tuple [],ws:=[(b,.cells (.mk kd ks n) (flat Y.M S.B cs'))],rd:=[b] }) :
    ∀ (l:List Int) (j:Nat) (cs2:List AV),sSetK Y S b kd ks n cs x k K l j = some r→(∃ c2,findE (.int kd k) (esOf kd n ks (flat Y.M S.B cs)) 0 = findE (.int kd k) (esOf kd n l c2) j)→∃ v S1,HFact Y S o ⟨[b],[b],false⟩ v S1∧K v S1 = some r
  | [],j,_,h,_=>by cases h
  | k0 :: l,j,cs2,h,hf=>by
    obtain ⟨c2,hf⟩:=hf
    simp only [sSetK] at h
    cases hb:(k0 == k) with
    | true=>
      rw [hb,if_pos rfl] at h
      split at h
      case h_2=>cases h
      rename_i p cs' hp hset
      split at h
      case h_2=>cases h
      split at h
      case isFalse=>cases h
      have hfe:findE (.int kd k) (esOf kd n ks (flat Y.M S.B cs)) 0 = some (some (j,.agg (c2.take n))):=by
        rw [hf]; simp only [esOf,findE,sameK,if_true,hb]
      obtain ⟨s1,s2,s3⟩:=setS_ok Y.ok S.B hset
      obtain ⟨cfg,hev⟩:=hev _ cs' hfe s1
      have hxl:=csize_ok Y.ok S.B _ hx
      exact ⟨_,_,HFact.write (off:=j * n) (m:=n) hcs s3 (fun i hi=>by rw [← s1,setRange_get _ _ _ _ (by rw [hxl]; omega)]) hcv hev,h⟩
    | false=>
      rw [hb,if_neg (by simp)] at h
      refine sSetK_ok hcs hcv hx hev l (j + 1) cs2 h ⟨c2.drop n,?_⟩
      rw [hf]; simp only [esOf,findE,sameK,if_true,hb]
theorem sMapSet_ok {S:SSt U} {o:Oper} {t:TypeId} {m key x:Operand} (ho:o.op = .mapUpdate t m key x) {K:SV U→SSt U→Option ρ} {r:ρ} (h:sMapSet Y S t m key x K = some r):∃ v S1,HFact Y S o (smMap (evS Y S.A m)) v S1∧K v S1 = some r:=by
  have h0:∀ cfg,evOp Y.Z.tb cfg noCall 0 (evalA Y.Z.gl (denS Y S).A) (denS Y S).H o = evMapSet Y.Z.tb (denS Y S).H t (den Y.M S.B (evS Y S.A m)) (den Y.M S.B (evS Y S.A key)) (den Y.M S.B (evS Y S.A x)):=by
    intro cfg; unfold evOp; simp only [ho,evS_ok]
  have hcv:isCallV o.op = false:=by rw [ho]; rfl
  unfold sMapSet at h
  split at h
  case h_2=>cases h
  rename_i kt et b hd hm
  split at h
  case h_2=>cases h
  rename_i d hkt
  rw [hm] at h0 ⊢
  simp only [den] at h0
  split at h
  · rename_i i x0 hb
    split at h
    case h_2=>cases h
    rename_i p hp
    split at h
    case isFalse=>cases h
    rename_i hc
    obtain ⟨hkk,hroot⟩:=hc
    split at h
    case h_2=>cases h
    rename_i k v hk hv
    have dk:=ofS_ok (M:=Y.M) (B:=S.B) hk
    have dv:=ofS_ok (M:=Y.M) (B:=S.B) hv
    obtain ⟨hen,hbk⟩:=Y.ok.mp i p hp
    obtain ⟨q,q1,q2⟩:=msetM_ok (M:=Y.M) hkk (k:=k) (v:=v) (p.list x0) 0
    obtain ⟨k1,k2⟩:=keys_ok (M:=Y.M) (vk:=p.vk) hkk (p.list x0)
    obtain ⟨e1,e2⟩:=encK_plain Y.ok p.vk v
    have fl:∀ y,flat Y.M S.B [SV.typ i y] = [.mapf ((p.list y).map fun q=>encK Y.M p.kk q.1) ((p.list y).map fun q=>encK Y.M p.vk q.2)]:=by
      intro y; simp only [flat,den,hen,cellsOf,List.append_nil]
    refine ⟨_,_,HFact.write (off:=0) (m:=1) (cfg:=c0) hb (by rw [fl,fl]; rfl) (fun j hj=>?_) hcv ?_,h⟩
    · rw [fl,fl]
      cases j with
      | zero=>exact (hj ⟨Nat.le_refl _,by omega⟩).elim
      | succ j=>rfl
    · rw [h0]
      unfold evMapSet
      simp only [hd,hkt,findH,hb]
      rw [fl,fl,hbk]
      simp only [entsOf,List.length_map,if_true,dk,q1]
      cases q with
      | none=>
        simp only at q2
        simp only [Option.map_none,evSet,dv,e1,k2,k1,hroot,e2,q2,List.map_append,List.map_cons,List.map_nil]
        simp
      | some jp=>
        obtain ⟨mm,a1,a2,a3⟩:=q2
        simp only [Option.map_some,evSet,dv,e1,k2,k1,hroot,e2,a2,a3,a1]
        simp
  · rename_i kd ks n cs hb
    split at h
    case h_2=>cases h
    rename_i kd' k hkey
    split at h
    case isFalse=>cases h
    rename_i hc
    obtain ⟨rfl,rfl,hroot,hlen,hx,hag⟩:=hc
    have hl:=csizeL_ok Y.ok S.B _ hlen
    have hxl:=csize_ok Y.ok S.B _ hx
    refine sSetK_ok hb hcv hx (fun j cs' hj hset=>⟨c0,?_⟩) ks 0 [] h ⟨_,rfl⟩
    rw [h0,hkey]
    unfold evMapSet
    have hall:∀ (ks:List Int) (l:List AV),((esOf kd' n ks l).all fun e=>keyOk (.int kd') e.1) = true:=by
      intro ks
      induction ks with
      | nil=>intro l; rfl
      | cons a ks ih=>intro l; rw [esOf,List.all_cons,ih]; simp [keyOk]
    simp only [hd,hkt,findH,hb,entsOf,hl,if_true,den,hj,Option.map_some]
    rw [isAgg_true Y.ok S.B hag]
    simp only [evSet,hxl,and_self,if_true,setMk,hset,hall]
    simp [keyOk,hroot]
  · cases h
end
end Go.Proofs.YtjojaiomgdjhfaaGreatDoor.SY
namespace Go.Proofs.YtjojaiomgdjhfaaGreatDoor.SY
open Go AE F
inductive Ty0 where
  | int | bool | str | typ (i:Nat) | lst (i:Nat) | opt (i:Nat)
abbrev T0 (U:Nat→Type):Ty0→Type
  | .int=>Int
  | .bool=>Bool
  | .str=>List UInt8
  | .typ i=>U i
  | .lst i=>List (U i)
  | .opt i=>Option (U i)
def HT (U:Nat→Type):List Ty0→Type
  | []=>Unit
  | [a]=>T0 U a
  | a :: b :: r=>T0 U a × HT U (b :: r)
section
variable {U:Nat→Type}
def hcons:(a:Ty0)→(ts:List Ty0)→T0 U a→HT U ts→HT U (a :: ts)
  | _,[],x,_=>x
  | _,_ :: _,x,y=>(x,y)
def hhd:(a:Ty0)→(ts:List Ty0)→HT U (a :: ts)→T0 U a
  | _,[],x=>x
  | _,_ :: _,x=>x.1
def htl:(a:Ty0)→(ts:List Ty0)→HT U (a :: ts)→HT U ts
  | _,[],_=>()
  | _,_ :: _,x=>x.2
theorem hhd_cons (a:Ty0):∀ (ts:List Ty0) (x:T0 U a) (y:HT U ts),hhd a ts (hcons a ts x y) = x
  | [],_,_=>rfl
  | _ :: _,_,_=>rfl
theorem htl_cons (a:Ty0):∀ (ts:List Ty0) (x:T0 U a) (y:HT U ts),htl a ts (hcons a ts x y) = y
  | [],_,_=>rfl
  | _ :: _,_,_=>rfl
end
inductive VK where
  | int (k:IntKind) | bool | str
  | typ (i:Nat) | lst (i:Nat) | full (i:Nat) | lstf (i:Nat) | opt (i:Nat)
  | ptr (b:Oid) (off:Nat) | nils | nilp | nilf | unit | tip (b:Oid) | mapr (b:Oid)
  | nil | cons (v r:VK)
  | fn (f:FuncId) (a b:VK) | agg (l:VK) | tup (l:VK)
def VK.L:List VK→VK
  | []=>.nil
  | v :: r=>.cons v (VK.L r)
def tys:VK→List Ty0→List Ty0
  | .int _,ts=>.int :: ts
  | .bool,ts=>.bool :: ts
  | .str,ts=>.str :: ts
  | .typ i,ts=>.typ i :: ts
  | .lst i,ts=>.lst i :: ts
  | .full i,ts=>.lst i :: ts
  | .lstf i,ts=>.bool :: .lst i :: ts
  | .opt i,ts=>.opt i :: ts
  | .cons v r,ts=>tys v (tys r ts)
  | .fn _ a b,ts=>tys a (tys b ts)
  | .agg l,ts=>tys l ts
  | .tup l,ts=>tys l ts
  | .ptr _ _,ts=>ts
  | .nils,ts=>ts
  | .nilp,ts=>ts
  | .nilf,ts=>ts
  | .mapr _,ts=>ts
  | .unit,ts=>ts
  | .tip _,ts=>ts
  | .nil,ts=>ts
def vtips:VK→List Oid
  | .tip b=>[b]
  | .fn _ a b=>vtips a ++ vtips b
  | .cons a b=>vtips a ++ vtips b
  | .agg l=>vtips l
  | .tup l=>vtips l
  | _=>[]
section
variable {U:Nat→Type} (M:TM U)
def inj:(v:VK)→(ts:List Ty0)→HT U (tys v ts)→List (SV U) × HT U ts
  | .int k,ts,z=>([.raw (.int k (hhd .int ts z))],htl .int ts z)
  | .bool,ts,z=>([.raw (.bool (hhd .bool ts z))],htl .bool ts z)
  | .str,ts,z=>([.raw (.str (hhd .str ts z))],htl .str ts z)
  | .typ i,ts,z=>([.typ i (hhd (.typ i) ts z)],htl (.typ i) ts z)
  | .lst i,ts,z=>([.lst false i (hhd (.lst i) ts z)],htl (.lst i) ts z)
  | .full i,ts,z=>([.lst true i (hhd (.lst i) ts z)],htl (.lst i) ts z)
  | .lstf i,ts,z=>([.lst (hhd .bool (.lst i :: ts) z) i (hhd (.lst i) ts (htl .bool (.lst i :: ts) z))],htl (.lst i) ts (htl .bool (.lst i :: ts) z))
  | .opt i,ts,z=>([.opt i (hhd (.opt i) ts z)],htl (.opt i) ts z)
  | .ptr b off,ts,z=>([.raw (.ptr b off)],z)
  | .nils,ts,z=>([.raw .nils],z)
  | .nilp,ts,z=>([.raw .nilp],z)
  | .nilf,ts,z=>([.raw .nilf],z)
  | .mapr b,ts,z=>([.raw (.mapr b)],z)
  | .unit,ts,z=>([.raw (.tuple [])],z)
  | .tip b,ts,z=>([.tip b],z)
  | .nil,ts,z=>([],z)
  | .cons v r,ts,z=>((inj v (tys r ts) z).1 ++ (inj r ts (inj v (tys r ts) z).2).1,(inj r ts (inj v (tys r ts) z).2).2)
  | .fn f a b,ts,z=>([.fn f (inj a (tys b ts) z).1 (inj b ts (inj a (tys b ts) z).2).1],(inj b ts (inj a (tys b ts) z).2).2)
  | .agg l,ts,z=>([.agg (inj l ts z).1],(inj l ts z).2)
  | .tup l,ts,z=>([.tup (inj l ts z).1],(inj l ts z).2)
def vsize:VK→Option Nat
  | .typ i=>some (M.size i)
  | .agg _=>none
  | .tup _=>none
  | .unit=>none
  | .nil=>none
  | .cons _ _=>none
  | _=>some 1
def vagg:VK→Bool
  | .typ i=>M.agg i
  | _=>false
def wrap (ag:Bool):List (SV U)→SV U
  | [c]=>if isAgg M c = ag then c else .agg [c]
  | l=>.agg l
def ex0 (B:Bufs U):(v:VK)→(ts:List Ty0)→SV U→HT U ts→Option (HT U (tys v ts))
  | .int k,ts,s,y=>match s with
    | .raw (.int k' n)=>if k' = k then some (hcons .int ts n y) else none
    | _=>none
  | .bool,ts,s,y=>match s with
    | .raw (.bool b)=>some (hcons .bool ts b y)
    | _=>none
  | .str,ts,s,y=>match s with
    | .raw (.str b)=>some (hcons .str ts b y)
    | _=>none
  | .typ i,ts,s,y=>match s with
    | .typ j x=>if h:j = i then some (hcons (.typ i) ts (h ▸ x) y) else none
    | .raw .nilm=>match M.mp i with
      | some p=>some (hcons (.typ i) ts (p.back []) y)
      | none=>none
    | s=>if isAgg M s = true∧M.agg i = true then (match M.mkT i (chunk s) with
      | some x=>some (hcons (.typ i) ts x y)
      | none=>none) else none
  | .lst i,ts,s,y=>match memAs B i s with
    | some l=>some (hcons (.lst i) ts l y)
    | none=>none
  | .full i,ts,s,y=>match s with
    | .lst true j l=>if h:j = i then some (hcons (.lst i) ts (h ▸ l) y) else none
    | .raw .nils=>some (hcons (.lst i) ts [] y)
    | _=>none
  | .lstf i,ts,s,y=>match s with
    | .lst f j l=>if h:j = i then some (hcons .bool (.lst i :: ts) f (hcons (.lst i) ts (h ▸ l) y)) else none
    | .raw .nils=>some (hcons .bool (.lst i :: ts) true (hcons (.lst i) ts [] y))
    | s=>match memAs B i s with
      | some l=>some (hcons .bool (.lst i :: ts) false (hcons (.lst i) ts l y))
      | none=>none
  | .opt i,ts,s,y=>match s with
    | .opt j x=>if h:j = i then some (hcons (.opt i) ts (h ▸ x) y) else none
    | .pint j x 0=>if h:j = i then some (hcons (.opt i) ts (some (h ▸ x)) y) else none
    | .raw .nilp=>some (hcons (.opt i) ts none y)
    | _=>none
  | .ptr b off,ts,s,y=>match s with
    | .raw (.ptr b' off')=>if b' = b∧off' = off then some y else none
    | _=>none
  | .nils,ts,s,y=>match s with | .raw .nils=>some y | _=>none
  | .nilp,ts,s,y=>match s with | .raw .nilp=>some y | _=>none
  | .nilf,ts,s,y=>match s with | .raw .nilf=>some y | _=>none
  | .mapr b,ts,s,y=>match s with
    | .raw (.mapr b')=>if b' = b then some y else none
    | _=>none
  | .unit,ts,s,y=>match s with | .raw (.tuple [])=>some y | _=>none
  | .tip b,ts,s,y=>match s with
    | .tip b'=>if b' = b then some y else none
    | _=>none
  | .nil,_,_,_=>none
  | .cons _ _,_,_,_=>none
  | .fn _ _ _,_,_,_=>none
  | .agg _,_,_,_=>none
  | .tup _,_,_,_=>none
def unagg:List (SV U)→Option (List (SV U))
  | [s]=>if isAgg M s then some (chunk s) else none
  | _=>none
def untup:List (SV U)→Option (List (SV U))
  | [.tup vs]=>some vs
  | _=>none
def exl (B:Bufs U):(v:VK)→(ts:List Ty0)→Bool→List (SV U)→HT U ts→Option (HT U (tys v ts))
  | .nil,ts,c,l,y=>match l with | []=>some y | _=>none
  | .cons v r,ts,c,l,y=>
    match (if c then (match vsize M v with
      | some n=>(match splitS M 300 n l with | some p=>some ([wrap M (vagg M v) p.1],p.2) | none=>none)
      | none=>none) else (match l with | s :: l=>some ([s],l) | []=>none)) with
    | none=>none
    | some p=>match exl B r ts c p.2 y with
      | some z=>exl B v (tys r ts) false p.1 z
      | none=>none
  | .fn f a b,ts,c,l,y=>match l with
    | [.fn f' sa sb]=>if f' = f then (match exl B b ts false sb y with
      | some z=>exl B a (tys b ts) false sa z
      | none=>none) else none
    | _=>none
  | .agg k,ts,c,l,y=>(unagg M l).bind fun vs=>exl B k ts true vs y
  | .tup k,ts,c,l,y=>(untup l).bind fun vs=>exl B k ts false vs y
  | .int k,ts,c,l,y=>match l with | [s]=>ex0 M B (.int k) ts s y | _=>none
  | .bool,ts,c,l,y=>match l with | [s]=>ex0 M B (.bool) ts s y | _=>none
  | .str,ts,c,l,y=>match l with | [s]=>ex0 M B (.str) ts s y | _=>none
  | .typ i,ts,c,l,y=>match l with | [s]=>ex0 M B (.typ i) ts s y | _=>none
  | .lst i,ts,c,l,y=>match l with | [s]=>ex0 M B (.lst i) ts s y | _=>none
  | .full i,ts,c,l,y=>match l with | [s]=>ex0 M B (.full i) ts s y | _=>none
  | .lstf i,ts,c,l,y=>match l with | [s]=>ex0 M B (.lstf i) ts s y | _=>none
  | .opt i,ts,c,l,y=>match l with | [s]=>ex0 M B (.opt i) ts s y | _=>none
  | .ptr b off,ts,c,l,y=>match l with | [s]=>ex0 M B (.ptr b off) ts s y | _=>none
  | .nils,ts,c,l,y=>match l with | [s]=>ex0 M B (.nils) ts s y | _=>none
  | .nilp,ts,c,l,y=>match l with | [s]=>ex0 M B (.nilp) ts s y | _=>none
  | .nilf,ts,c,l,y=>match l with | [s]=>ex0 M B (.nilf) ts s y | _=>none
  | .mapr b,ts,c,l,y=>match l with | [s]=>ex0 M B (.mapr b) ts s y | _=>none
  | .unit,ts,c,l,y=>match l with | [s]=>ex0 M B (.unit) ts s y | _=>none
  | .tip b,ts,c,l,y=>match l with | [s]=>ex0 M B (.tip b) ts s y | _=>none
end
def Wc (a b:AV):Prop:=(∃ x y,a = .agg x∧b = .agg y∧WkL x y) ∨ (Wk a b∧cellsOf a = [a]∧cellsOf b = [b])
theorem Wc.wk {a b:AV} (h:Wc a b):Wk a b:=by
  rcases h with ⟨x,y,rfl,rfl,h⟩ | ⟨h,_,_⟩
  · exact Wk.agg h
  · exact h
theorem Wc.cells {a b:AV} (h:Wc a b):WkL (cellsOf a) (cellsOf b):=by
  rcases h with ⟨x,y,rfl,rfl,h⟩ | ⟨h,h1,h2⟩
  · exact h
  · rw [h1,h2]; exact ⟨h,trivial⟩
theorem wrap_ok {U:Nat→Type} {M:TM U} (B:Bufs U) (ag:Bool):∀ l:List (SV U),cellsOf (den M B (wrap M ag l)) = flat M B l
  | []=>rfl
  | [c]=>by
    simp only [wrap]
    split
    · simp [flat]
    · rfl
  | _ :: _ :: _=>rfl
section
variable {U:Nat→Type} {M:TM U} {tb:List TI} (hM:TMOk M tb)
include hM
theorem Wc.refl (B:Bufs U) (s:SV U):Wc (den M B s) (den M B s):=by
  cases h:isAgg M s with
  | true=>exact .inl ⟨_,_,isAgg_true hM B h,isAgg_true hM B h,WkL.refl _⟩
  | false=>exact .inr ⟨Wk.refl _,isAgg_false hM B h,isAgg_false hM B h⟩
theorem Wc.eq {B B':Bufs U} {s s':SV U} (h:den M B s = den M B' s'):Wc (den M B s) (den M B' s'):=h ▸ Wc.refl hM B s
theorem memAs_wc {B B':Bufs U} {i:Nat} {s:SV U} {l:List (U i)} (h:memAs B i s = some l):Wc (den M B s) (den M B' (.lst false i l)):=by
  unfold memAs at h
  split at h
  · cases h; exact .inr ⟨Wk.nils _ _,rfl,rfl⟩
  · split at h
    · rename_i j m hm
      split at h
      · rename_i e
        subst e
        cases h
        obtain ⟨tok,hd⟩:=mem_ok (M:=M) hm
        rw [hd]
        exact .inr ⟨Wk.tok _ _ _,rfl,rfl⟩
      · cases h
    · cases h
theorem ex0_ok {B B':Bufs U}:∀ (v:VK) (ts:List Ty0) (s:SV U) (y:HT U ts) {z:HT U (tys v ts)},(∀ b ∈ vtips v,find B b = find B' b)→ex0 M B v ts s y = some z→(inj v ts z).2 = y∧∃ s',(inj v ts z).1 = [s']∧Wc (den M B s) (den M B' s')
  | .int k,ts,s,y,z,hb,h=>by
    simp only [ex0] at h
    split at h
    · split at h
      · rename_i e; subst e; cases h
        simp only [inj,hhd_cons,htl_cons]
        exact ⟨trivial,_,rfl,Wc.eq hM rfl⟩
      · cases h
    · cases h
  | .bool,ts,s,y,z,hb,h=>by
    simp only [ex0] at h
    split at h
    · cases h; simp only [inj,hhd_cons,htl_cons]; exact ⟨trivial,_,rfl,Wc.eq hM rfl⟩
    · cases h
  | .str,ts,s,y,z,hb,h=>by
    simp only [ex0] at h
    split at h
    · cases h; simp only [inj,hhd_cons,htl_cons]; exact ⟨trivial,_,rfl,Wc.eq hM rfl⟩
    · cases h
  | .typ i,ts,s,y,z,hb,h=>by
    simp only [ex0] at h
    split at h
    · split at h
      · rename_i e; subst e; cases h
        simp only [inj,hhd_cons,htl_cons]
        exact ⟨trivial,_,rfl,Wc.eq hM rfl⟩
      · cases h
    · split at h
      · rename_i p hp
        cases h
        simp only [inj,hhd_cons,htl_cons]
        refine ⟨trivial,_,rfl,.inr ⟨?_,rfl,?_⟩⟩
        · obtain ⟨e1,e2⟩:=hM.mp i p hp
          simp only [den,e1,e2,List.map_nil]
          exact fun g v hv=>.inl ⟨rfl,rfl,hv⟩
        · obtain ⟨e1,e2⟩:=hM.mp i p hp
          simp only [den,e1,e2,List.map_nil]
          rfl
      · cases h
    · split at h
      · rename_i hc
        split at h
        · rename_i x hx
          cases h
          simp only [inj,hhd_cons,htl_cons]
          refine ⟨trivial,_,rfl,?_⟩
          have h1:=hM.mkT B i _ x hx
          rw [chunk_ok hM] at h1
          have h2:=hM.shape i x
          rw [if_pos hc.2] at h2
          obtain ⟨cs,e⟩:=h2
          rw [isAgg_true hM B hc.1]
          simp only [den]
          rw [e] at h1 ⊢
          exact .inl ⟨_,_,rfl,rfl,h1⟩
        · cases h
      · cases h
  | .lst i,ts,s,y,z,hb,h=>by
    simp only [ex0] at h
    split at h
    · rename_i l hl
      cases h
      simp only [inj,hhd_cons,htl_cons]
      exact ⟨trivial,_,rfl,memAs_wc hM hl⟩
    · cases h
  | .full i,ts,s,y,z,hb,h=>by
    simp only [ex0] at h
    split at h
    · split at h
      · rename_i e; subst e; cases h
        simp only [inj,hhd_cons,htl_cons]
        exact ⟨trivial,_,rfl,Wc.eq hM rfl⟩
      · cases h
    · cases h
      simp only [inj,hhd_cons,htl_cons]
      exact ⟨trivial,_,rfl,.inr ⟨Wk.nils _ _,rfl,rfl⟩⟩
    · cases h
  | .lstf i,ts,s,y,z,hb,h=>by
    simp only [ex0] at h
    split at h
    · split at h
      · rename_i e; subst e; cases h
        simp only [inj,hhd_cons,htl_cons]
        exact ⟨trivial,_,rfl,Wc.eq hM rfl⟩
      · cases h
    · cases h
      simp only [inj,hhd_cons,htl_cons]
      exact ⟨trivial,_,rfl,.inr ⟨Wk.nils _ _,rfl,rfl⟩⟩
    · split at h
      · rename_i l hl
        cases h
        simp only [inj,hhd_cons,htl_cons]
        exact ⟨trivial,_,rfl,memAs_wc hM hl⟩
      · cases h
  | .opt i,ts,s,y,z,hb,h=>by
    simp only [ex0] at h
    split at h
    · split at h
      · rename_i x e; subst e; cases h
        simp only [inj,hhd_cons,htl_cons]
        exact ⟨trivial,_,rfl,Wc.eq hM (by cases x <;> rfl)⟩
      · cases h
    · split at h
      · rename_i e; subst e; cases h
        simp only [inj,hhd_cons,htl_cons]
        exact ⟨trivial,_,rfl,Wc.eq hM (by simp only [den,List.drop_zero])⟩
      · cases h
    · cases h
      simp only [inj,hhd_cons,htl_cons]
      exact ⟨trivial,_,rfl,Wc.eq hM rfl⟩
    · cases h
  | .ptr b off,ts,s,y,z,hb,h=>by
    simp only [ex0] at h
    split at h
    · split at h
      · rename_i e; obtain ⟨rfl,rfl⟩:=e; cases h; exact ⟨rfl,_,rfl,Wc.eq hM rfl⟩
      · cases h
    · cases h
  | .nils,ts,s,y,z,hb,h=>by simp only [ex0] at h; split at h <;> cases h; exact ⟨rfl,_,rfl,Wc.eq hM rfl⟩
  | .nilp,ts,s,y,z,hb,h=>by simp only [ex0] at h; split at h <;> cases h; exact ⟨rfl,_,rfl,Wc.eq hM rfl⟩
  | .nilf,ts,s,y,z,hb,h=>by simp only [ex0] at h; split at h <;> cases h; exact ⟨rfl,_,rfl,Wc.eq hM rfl⟩
  | .mapr b,ts,s,y,z,hb,h=>by
    simp only [ex0] at h
    split at h
    · split at h
      · rename_i e; subst e; cases h; exact ⟨rfl,_,rfl,Wc.eq hM rfl⟩
      · cases h
    · cases h
  | .unit,ts,s,y,z,hb,h=>by simp only [ex0] at h; split at h <;> cases h; exact ⟨rfl,_,rfl,Wc.eq hM rfl⟩
  | .tip b,ts,s,y,z,hb,h=>by
    simp only [ex0] at h
    split at h
    · split at h
      · rename_i e; subst e; cases h
        refine ⟨rfl,_,rfl,Wc.eq hM ?_⟩
        simp only [den]
        rw [hb _ (by simp [vtips])]
      · cases h
    · cases h
  | .nil,_,_,_,_,_,h=>by cases h
  | .cons _ _,_,_,_,_,_,h=>by cases h
  | .fn _ _ _,_,_,_,_,_,h=>by cases h
  | .agg _,_,_,_,_,_,h=>by cases h
  | .tup _,_,_,_,_,_,h=>by cases h
theorem denL_append (B:Bufs U) (a b:List (SV U)):denL M B (a ++ b) = denL M B a ++ denL M B b:=by rw [denL_map,denL_map,denL_map,List.map_append]
def single:VK→Bool
  | .nil=>false
  | .cons _ _=>false
  | _=>true
def Ext (B B':Bufs U) (v:VK) (ts:List Ty0) (c:Bool) (l:List (SV U)) (y:HT U ts) (z:HT U (tys v ts)):Prop :=
  (inj v ts z).2 = y∧(c = false ∨ single v = true→WkL (denL M B l) (denL M B' (inj v ts z).1))∧(c = true ∨ single v = true→WkL (flat M B l) (flat M B' (inj v ts z).1))
theorem Ext.of {B B':Bufs U} {v:VK} {ts:List Ty0} {c:Bool} {s s':SV U} {y:HT U ts} {z:HT U (tys v ts)} (h1:(inj v ts z).2 = y) (h2:(inj v ts z).1 = [s']) (h3:Wc (den M B s) (den M B' s')):Ext (M:=M) B B' v ts c [s] y z:=by
  refine ⟨h1,fun _=>?_,fun _=>?_⟩
  · rw [h2]; exact ⟨h3.wk,trivial⟩
  · rw [h2]; exact WkL.append h3.cells trivial
theorem leaf_ok {B B':Bufs U} (v:VK) (ts:List Ty0) {c:Bool} {l:List (SV U)} (y:HT U ts) {z:HT U (tys v ts)} (hb:∀ b ∈ vtips v,find B b = find B' b) (hs:single v = true) (h:(match l with | [s]=>ex0 M B v ts s y | _=>none) = some z):Ext (M:=M) B B' v ts c l y z:=by
  split at h
  · obtain ⟨h1,s',h2,h3⟩:=ex0_ok hM v ts _ y hb h
    exact Ext.of hM h1 h2 h3
  · cases h
theorem single_of {v:VK} {n:Nat} (h:vsize M v = some n):single v = true:=by cases v <;> first | rfl | simp [vsize] at h
theorem exl_ok {B B':Bufs U}:∀ (v:VK) (ts:List Ty0) (c:Bool) (l:List (SV U)) (y:HT U ts) {z:HT U (tys v ts)},(∀ b ∈ vtips v,find B b = find B' b)→exl M B v ts c l y = some z→Ext (M:=M) B B' v ts c l y z
  | .nil,ts,c,l,y,z,hb,h=>by
    unfold exl at h
    split at h <;> cases h
    exact ⟨rfl,fun _=>trivial,fun _=>trivial⟩
  | .cons v r,ts,c,l,y,z,hb,h=>by
    unfold exl at h
    split at h
    · cases h
    rename_i p hp
    split at h
    · rename_i z1 hz1
      obtain ⟨p1,p2,p3⟩:=exl_ok r ts c p.2 y (fun x hx=>hb x (by simp [vtips,hx])) hz1
      obtain ⟨q1,q2,q3⟩:=exl_ok v _ false p.1 z1 (fun x hx=>hb x (by simp [vtips,hx])) h
      refine ⟨by simp only [inj]; rw [q1]; exact p1,fun hc=>?_,fun hc=>?_⟩
      · have hc:c = false:=hc.elim id fun h=>by cases h
        subst hc
        simp only [Bool.false_eq_true,if_false] at hp
        split at hp
        · cases hp
          have:=WkL.append (q2 (.inl rfl)) (p2 (.inl rfl))
          simp only [inj]
          rw [denL_append hM,q1]; exact this
        · cases hp
      · have hc:c = true:=hc.elim id fun h=>by cases h
        subst hc
        simp only [if_true] at hp
        split at hp
        · rename_i n hn
          split at hp
          · rename_i p' hp'
            cases hp
            obtain ⟨s1,s2⟩:=splitS_ok hM B _ _ _ hp'
            have:=WkL.append (q3 (.inr (single_of hM hn))) (p3 (.inl rfl))
            simp only [flat,wrap_ok,List.append_nil] at this
            simp only [inj]
            rw [flat_append,q1,s1]; exact this
          · cases hp
        · cases hp
    · cases h
  | .fn f a b,ts,c,l,y,z,hb,h=>by
    unfold exl at h
    split at h
    · rename_i f' sa sb
      split at h
      · rename_i e
        subst e
        split at h
        · rename_i z1 hz1
          obtain ⟨p1,p2,_⟩:=exl_ok b ts false sb y (fun x hx=>hb x (by simp [vtips,hx])) hz1
          obtain ⟨q1,q2,_⟩:=exl_ok a _ false sa z1 (fun x hx=>hb x (by simp [vtips,hx])) h
          refine Ext.of hM (by simp only [inj]; rw [q1]; exact p1) (by simp only [inj]; rfl) (.inr ⟨?_,rfl,rfl⟩)
          intro g v hv
          simp only [den,V] at hv ⊢
          obtain ⟨x,u,h1,h2,h3⟩:=hv
          exact ⟨x,u,h1,WkL.vl (q2 (.inl rfl)) h2,WkL.vl (by rw [q1]; exact p2 (.inl rfl)) h3⟩
        · cases h
      · cases h
    · cases h
  | .agg k,ts,c,l,y,z,hb,h=>by
    unfold exl at h
    obtain ⟨vs,hvs,h⟩:=(Option.bind_eq_some_iff (b:=(z:HT U (tys k ts)))).1 h
    unfold unagg at hvs
    split at hvs
    · rename_i s
      obtain ⟨hc,hvs⟩:=Opt.g hvs
      cases hvs
      obtain ⟨p1,_,p2⟩:=exl_ok k ts true (chunk s) y (fun x hx=>hb x (by simp [vtips,hx])) h
      have p2:=p2 (.inl rfl)
      rw [chunk_ok hM] at p2
      refine Ext.of hM (s':=.agg (inj k ts z).1) (by simp only [inj]; exact p1) (by simp only [inj]) ?_
      rw [isAgg_true hM B hc]
      exact .inl ⟨_,_,rfl,rfl,p2⟩
    · cases hvs
  | .tup k,ts,c,l,y,z,hb,h=>by
    unfold exl at h
    obtain ⟨vs,hvs,h⟩:=(Option.bind_eq_some_iff (b:=(z:HT U (tys k ts)))).1 h
    obtain ⟨p1,p2,_⟩:=exl_ok k ts false vs y (fun x hx=>hb x (by simp [vtips,hx])) h
    have e:l = [.tup vs]:=by
      unfold untup at hvs
      split at hvs <;> cases hvs
      rfl
    subst e
    refine Ext.of hM (s':=.tup (inj k ts z).1) (by simp only [inj]; exact p1) (by simp only [inj]) (.inr ⟨?_,rfl,rfl⟩)
    simp only [den]
    exact Wk.tuple (p2 (.inl rfl))
  | .int k,ts,c,l,y,z,hb,h=>leaf_ok hM (.int k) ts y hb rfl (by unfold exl at h; exact h)
  | .bool,ts,c,l,y,z,hb,h=>leaf_ok hM (.bool) ts y hb rfl (by unfold exl at h; exact h)
  | .str,ts,c,l,y,z,hb,h=>leaf_ok hM (.str) ts y hb rfl (by unfold exl at h; exact h)
  | .typ i,ts,c,l,y,z,hb,h=>leaf_ok hM (.typ i) ts y hb rfl (by unfold exl at h; exact h)
  | .lst i,ts,c,l,y,z,hb,h=>leaf_ok hM (.lst i) ts y hb rfl (by unfold exl at h; exact h)
  | .full i,ts,c,l,y,z,hb,h=>leaf_ok hM (.full i) ts y hb rfl (by unfold exl at h; exact h)
  | .lstf i,ts,c,l,y,z,hb,h=>leaf_ok hM (.lstf i) ts y hb rfl (by unfold exl at h; exact h)
  | .opt i,ts,c,l,y,z,hb,h=>leaf_ok hM (.opt i) ts y hb rfl (by unfold exl at h; exact h)
  | .ptr b off,ts,c,l,y,z,hb,h=>leaf_ok hM (.ptr b off) ts y hb rfl (by unfold exl at h; exact h)
  | .nils,ts,c,l,y,z,hb,h=>leaf_ok hM (.nils) ts y hb rfl (by unfold exl at h; exact h)
  | .nilp,ts,c,l,y,z,hb,h=>leaf_ok hM (.nilp) ts y hb rfl (by unfold exl at h; exact h)
  | .nilf,ts,c,l,y,z,hb,h=>leaf_ok hM (.nilf) ts y hb rfl (by unfold exl at h; exact h)
  | .mapr b,ts,c,l,y,z,hb,h=>leaf_ok hM (.mapr b) ts y hb rfl (by unfold exl at h; exact h)
  | .unit,ts,c,l,y,z,hb,h=>leaf_ok hM (.unit) ts y hb rfl (by unfold exl at h; exact h)
  | .tip b,ts,c,l,y,z,hb,h=>leaf_ok hM (.tip b) ts y hb rfl (by unfold exl at h; exact h)
end
end Go.Proofs.YtjojaiomgdjhfaaGreatDoor.SY
namespace Go.Proofs.YtjojaiomgdjhfaaGreatDoor.SY
open Go AE F
structure Sh where
  a:List (Nat × VK)
  c:List (Oid × Nat × VK)
  b:List (Oid × Nat)
def Sh.KA (s:Sh):VK:=VK.L (s.a.map (·.2))
def Sh.KC (s:Sh):VK:=VK.L (s.c.map (·.2.2))
def tysB:List (Oid × Nat)→List Ty0→List Ty0
  | [],ts=>ts
  | p :: r,ts=>.lst p.2 :: tysB r ts
def Sh.tys (s:Sh):List Ty0:=tysB s.b (SY.tys s.KA (SY.tys s.KC []))
def Sh.nb (s:Sh):List Oid:=s.b.map (·.1)
section
variable {U:Nat→Type}
mutual
def tipsS:SV U→List Oid
  | .raw a=>toks a
  | .tip b=>[b]
  | .pin l=>tipsSL l
  | .agg l=>tipsSL l
  | .tup l=>tipsSL l
  | .fn _ a b=>tipsSL a ++ tipsSL b
  | _=>[]
def tipsSL:List (SV U)→List Oid
  | []=>[]
  | v :: r=>tipsS v ++ tipsSL r
end
mutual
theorem toks_tips:∀ (v:SV U),∀ b ∈ toksS v,b ∈ tipsS v
  | .raw a=>fun b h=>h
  | .typ i x=>fun b h=>by simp [toksS] at h
  | .lst f _ _=>fun b h=>by simp [toksS] at h
  | .tip b=>fun b h=>h
  | .opt _ _=>fun b h=>by simp [toksS] at h
  | .pint _ _ _=>fun b h=>by simp [toksS] at h
  | .arr i l=>fun b h=>by simp [toksS] at h
  | .pin _=>fun b h=>by simp [toksS] at h
  | .agg l=>fun b h=>toks_tipsL l b h
  | .tup l=>fun b h=>toks_tipsL l b h
  | .fn f a b=>fun x h=>by
    simp only [toksS,tipsS,List.mem_append] at h ⊢
    exact h.elim (fun h=>.inl (toks_tipsL a x h)) fun h=>.inr (toks_tipsL b x h)
theorem toks_tipsL:∀ (l:List (SV U)),∀ b ∈ toksSL l,b ∈ tipsSL l
  | []=>fun b h=>h
  | v :: r=>fun b h=>by
    simp only [toksSL,tipsSL,List.mem_append] at h ⊢
    exact h.elim (fun h=>.inl (toks_tips v b h)) fun h=>.inr (toks_tipsL r b h)
end
section
variable {M:TM U} {B:Bufs U} {b:Oid} {x:Bf U}
mutual
theorem den_new:∀ (v:SV U),b ∉ tipsS v→den M (ins b x B) v = den M B v
  | .raw _,_=>rfl
  | .typ _ _,_=>rfl
  | .lst _ _ _,_=>rfl
  | .tip c,h=>by
    simp only [tipsS,List.mem_singleton] at h
    simp only [den,find_ins,if_neg h]
  | .opt _ none,_=>rfl
  | .opt _ (some _),_=>rfl
  | .pint _ _ _,_=>rfl
  | .arr _ _,_=>rfl
  | .pin l,h=>by simp only [tipsS] at h; simp only [den,flat_new l h]
  | .agg l,h=>by simp only [tipsS] at h; simp only [den,flat_new l h]
  | .tup l,h=>by simp only [tipsS] at h; simp only [den,denL_new l h]
  | .fn f p q,h=>by simp only [tipsS,List.mem_append,not_or] at h; simp only [den,denL_new p h.1,denL_new q h.2]
theorem denL_new:∀ (l:List (SV U)),b ∉ tipsSL l→denL M (ins b x B) l = denL M B l
  | [],_=>rfl
  | v :: r,h=>by simp only [tipsSL,List.mem_append,not_or] at h; simp only [denL,den_new v h.1,denL_new r h.2]
theorem flat_new:∀ (l:List (SV U)),b ∉ tipsSL l→flat M (ins b x B) l = flat M B l
  | [],_=>rfl
  | v :: r,h=>by simp only [tipsSL,List.mem_append,not_or] at h; simp only [flat,den_new v h.1,flat_new r h.2]
end
end
end
section
variable {U:Nat→Type} (Y:SZ U)
def exB (S:SSt U):(l:List (Oid × Nat))→(ts:List Ty0)→HT U ts→Option (HT U (tysB l ts))
  | [],ts,y=>some y
  | (b,i) :: r,ts,y=>match find S.B b,exB S r ts y with
    | some ⟨j,m⟩,some z=>if h:j = i then (if (find S.H b).isNone then some (hcons (.lst i) (tysB r ts) (h ▸ m) z) else none) else none
    | _,_=>none
def injB:(l:List (Oid × Nat))→(ts:List Ty0)→HT U (tysB l ts)→List (Oid × Bf U) × HT U ts
  | [],ts,z=>([],z)
  | (b,i) :: r,ts,z=>((b,⟨i,hhd (.lst i) (tysB r ts) z⟩) :: (injB r ts (htl (.lst i) (tysB r ts) z)).1,(injB r ts (htl (.lst i) (tysB r ts) z)).2)
def getC (S:SSt U):List (Oid × Nat × VK)→Option (List (SV U))
  | []=>some []
  | (o,off,k) :: r=>match vsize Y.M k,find S.H o,getC S r with
    | some n,some (_,cs),some l=>match splitS Y.M 300 off cs with
      | some p=>match splitS Y.M 300 n p.2 with
        | some q=>some (q.1 ++ l)
        | none=>none
      | none=>none
    | _,_,_=>none
def covered (sh:Sh) (w:Oid × Nat):Bool:=sh.c.any fun q=>decide (q.1 = w.1∧q.2.1 ≤ w.2∧w.2 < q.2.1 + (vsize Y.M q.2.2).getD 0)
def noTok (b:Oid) (S:SSt U):Bool:=(find S.H b).isNone && (find S.B b).isNone && !isExtB b && (S.A.all fun x=>!(tipsS x.2).contains b) && (S.H.all fun x=>!(tipsSL x.2.2).contains b)
def okWX (sh:Sh) (S0 S:SSt U):Bool:=S.W.all (fun w=>covered Y sh w || (find S0.H w.1).isNone) && S.X.all (fun b=>sh.nb.contains b || noTok b S0) && (vtips sh.KA ++ vtips sh.KC).all fun b=>sh.nb.contains b
def extSh (sh:Sh) (S0 S:SSt U):Option (HT U sh.tys) :=
  if okWX Y sh S0 S then
    match getC Y S sh.c with
    | some lc=>match exl Y.M S.B sh.KC [] true lc () with
      | some zc=>match exl Y.M S.B sh.KA (tys sh.KC []) false (sh.a.map fun p=>getS S.A p.1) zc with
        | some za=>exB S sh.b _ za
        | none=>none
      | none=>none
    | none=>none
  else none
def Sh.zb (sh:Sh) (z:HT U sh.tys):List (Oid × Bf U):=(injB sh.b (SY.tys sh.KA (SY.tys sh.KC [])) z).1
def Sh.za (sh:Sh) (z:HT U sh.tys):List (SV U):=(inj sh.KA (SY.tys sh.KC []) (injB sh.b (SY.tys sh.KA (SY.tys sh.KC [])) z).2).1
def Sh.zc (sh:Sh) (z:HT U sh.tys):List (SV U):=(inj sh.KC [] (inj sh.KA (SY.tys sh.KC []) (injB sh.b (SY.tys sh.KA (SY.tys sh.KC [])) z).2).2).1
def setC:List (Oid × Nat × VK)→List (SV U)→List (Oid × Fl × List (SV U))→Option (List (Oid × Fl × List (SV U)))
  | [],[],H=>some H
  | (o,off,k) :: r,v :: vs,H=>match find H o with
    | some (w,cs)=>match setS Y.M off v cs with
      | some cs'=>if csize Y.M v = vsize Y.M k then setC r vs (ins o (w,cs') H) else none
      | none=>none
    | none=>none
  | _,_,_=>none
def addW:List (Oid × Nat × VK)→List (Oid × Nat)→List (Oid × Nat)
  | [],l=>l
  | (o,off,k) :: r,l=>cellsAt o off ((vsize Y.M k).getD 0) (addW r l)
def baseA (nb:List Oid) (B:Bufs U) (A:List (Nat × SV U)):Option (List (Nat × SV U)) :=
  match nb with
  | []=>some A
  | _=>dgA' B (xp nb) A
def baseH (nb:List Oid) (B:Bufs U) (H:List (Oid × Fl × List (SV U))):Option (List (Oid × Fl × List (SV U))) :=
  match nb with
  | []=>some H
  | _=>dgH' B (xp nb) H
def injSh (D:List Nat) (sh:Sh) (z:HT U sh.tys) (S:SSt U):Option (SSt U) :=
  match baseA sh.nb S.B (S.A.filter fun x=>!D.contains x.1),baseH sh.nb S.B S.H with
  | some A,some H=>
    match setC Y sh.c (sh.zc z) H with
    | some H'=>some ⟨(sh.a.map (·.1)).zip (sh.za z) ++ A,H',sh.zb z ++ S.B.filter (fun x=>!sh.nb.contains x.1),addW Y sh.c S.W,sh.nb ++ S.X⟩
    | none=>none
  | _,_=>none
variable {Y}
theorem xp_nil:xp [] = fun _=>false:=by funext b; simp [xp]
theorem dgA_false (a:AV):dgA (fun _=>false) a = a:=dg_free a fun _ _=>rfl
theorem baseA_ok {nb:List Oid} {B B':Bufs U} {A A':List (Nat × SV U)} (hB:∀ b,xp nb b = false→find B' b = find B b) (h:baseA nb B A = some A') (t:Nat):den Y.M B' (getS A' t) = dgA (xp nb) (den Y.M B (getS A t)):=by
  unfold baseA at h
  split at h
  · cases h
    rw [xp_nil,dgA_false]
    have:∀ b,find B' b = find B b:=fun b=>hB b (by simp [xp])
    exact den_congr this _
  · exact dgS_ok Y.ok hB _ (dgA'_get h t)
where
  den_congr {B B':Bufs U} (h:∀ b,find B' b = find B b) (v:SV U):den Y.M B' v = den Y.M B v:=go h v
  go {B B':Bufs U} (h:∀ b,find B' b = find B b):∀ v:SV U,den Y.M B' v = den Y.M B v
    | .raw _=>rfl
    | .typ _ _=>rfl
    | .lst _ _ _=>rfl
    | .tip b=>by simp only [den,h b]
    | .opt _ none=>rfl
    | .opt _ (some _)=>rfl
    | .pint _ _ _=>rfl
    | .arr _ _=>rfl
    | .pin l=>by simp only [den,goF h l]
    | .agg l=>by simp only [den,goF h l]
    | .tup l=>by simp only [den,goL h l]
    | .fn f a b=>by simp only [den,goL h a,goL h b]
  goL {B B':Bufs U} (h:∀ b,find B' b = find B b):∀ l:List (SV U),denL Y.M B' l = denL Y.M B l
    | []=>rfl
    | v :: r=>by simp only [denL,go h v,goL h r]
  goF {B B':Bufs U} (h:∀ b,find B' b = find B b):∀ l:List (SV U),flat Y.M B' l = flat Y.M B l
    | []=>rfl
    | v :: r=>by simp only [flat,go h v,goF h r]
theorem baseH_ok {nb:List Oid} {B B':Bufs U} {H H':List (Oid × Fl × List (SV U))} (hB:∀ b,xp nb b = false→find B' b = find B b) (h:baseH nb B H = some H') (o:Oid):match find H o with
    | none=>find H' o = none
    | some (w,l)=>∃ l',flat Y.M B' l' = dgL (xp nb) (flat Y.M B l)∧find H' o = some (w,l'):=by
  unfold baseH at h
  split at h
  · cases h
    cases hf:find H o with
    | none=>rfl
    | some p=>
      obtain ⟨w,l⟩:=p
      refine ⟨l,?_,rfl⟩
      have:∀ b,find B' b = find B b:=fun b=>hB b (by simp [xp])
      rw [baseA_ok.goF this l,xp_nil,dgL_free]
      intro _ _; rfl
  · have:=dgH'_get h o
    cases hf:find H o with
    | none=>rw [hf] at this; exact this
    | some p=>
      obtain ⟨w,l⟩:=p
      rw [hf] at this
      obtain ⟨l',h1,h2⟩:=this
      exact ⟨l',dgSF_ok Y.ok hB l h1,h2⟩
theorem exB_ok {S:SSt U}:∀ {l:List (Oid × Nat)} {ts:List Ty0} {y:HT U ts} {z:HT U (tysB l ts)},exB S l ts y = some z→(injB l ts z).2 = y∧(∀ b x,find (injB l ts z).1 b = some x→find S.B b = some x∧find S.H b = none)∧∀ b,b ∈ l.map (·.1)→(find (injB l ts z).1 b).isSome = true
  | [],ts,y,z,h=>by
    simp only [exB] at h; cases h
    exact ⟨rfl,fun b x h=>(by cases h),fun b h=>(by simp at h)⟩
  | (b,i) :: r,ts,y,z,h=>by
    simp only [exB] at h
    split at h
    · rename_i j m z1 hf hr
      split at h
      · rename_i e
        subst e
        split at h
        · rename_i hn
          cases h
          obtain ⟨h0,h1,h2⟩:=exB_ok hr
          refine ⟨by simp only [injB,htl_cons]; exact h0,fun b' x hx=>?_,fun b' hb=>?_⟩
          · simp only [injB,find,hhd_cons,htl_cons] at hx
            split at hx
            · rename_i e; subst e; cases hx
              exact ⟨hf,by cases hq:find S.H b with | none=>rfl | some _=>rw [hq] at hn; cases hn⟩
            · exact h1 b' x hx
          · simp only [injB,find,hhd_cons,htl_cons]
            split
            · rfl
            · rename_i hne
              simp only [List.map_cons,List.mem_cons] at hb
              exact h2 b' (hb.resolve_left fun e=>hne e.symm)
        · cases h
      · cases h
    · cases h
theorem injB_keys:∀ {l:List (Oid × Nat)} {ts:List Ty0} {z:HT U (tysB l ts)} {b:Oid} {x:Bf U},find (injB l ts z).1 b = some x→b ∈ l.map (·.1)
  | [],ts,z,b,x,h=>by cases h
  | (b',i) :: r,ts,z,b,x,h=>by
    simp only [injB,find] at h
    simp only [List.map_cons,List.mem_cons]
    split at h
    · rename_i e; exact .inl e.symm
    · exact .inr (injB_keys h)
theorem injB_all:∀ {l:List (Oid × Nat)} {ts:List Ty0} {z:HT U (tysB l ts)} {b:Oid},b ∈ l.map (·.1)→(find (injB l ts z).1 b).isSome = true
  | [],ts,z,b,h=>by cases h
  | (b',i) :: r,ts,z,b,h=>by
    simp only [injB,find]
    split
    · rfl
    · rename_i hne
      simp only [List.map_cons,List.mem_cons] at h
      exact injB_all (h.resolve_left fun e=>hne e.symm)
theorem bufs_ok {sh:Sh} {z:HT U sh.tys} {B:Bufs U}:(∀ b,xp sh.nb b = false→find (sh.zb z ++ B.filter fun x=>!sh.nb.contains x.1) b = find B b)∧∀ b,(find (sh.zb z) b).isSome = true→find (sh.zb z ++ B.filter fun x=>!sh.nb.contains x.1) b = find (sh.zb z) b:=by
  refine ⟨fun b hb=>?_,fun b hb=>?_⟩
  · rw [find_append]
    cases hf:find (sh.zb z) b with
    | some x=>
      have:=injB_keys (ts:=tys sh.KA (tys sh.KC [])) hf
      exfalso
      simp only [xp] at hb
      rw [← Bool.not_eq_true,List.contains_iff_mem] at hb
      exact hb this
    | none=>
      simp only
      rw [find_filter (fun x:Oid × Bf U=>!sh.nb.contains x.1) (fun b=>!sh.nb.contains b) (fun _=>rfl)]
      have:sh.nb.contains b = false:=hb
      simp only [this,Bool.not_false,if_true]
  · rw [find_append]
    cases hf:find (sh.zb z) b with
    | some x=>rfl
    | none=>rw [hf] at hb; cases hb
theorem WkL.split:∀ {a b c d:List AV},WkL (a ++ c) (b ++ d)→a.length = b.length→WkL a b∧WkL c d
  | [],[],_,_,h,_=>⟨trivial,h⟩
  | _ :: _,[],_,_,_,h=>by simp at h
  | [],_ :: _,_,_,_,h=>by simp at h
  | a :: as,b :: bs,c,d,h,hl=>by
    obtain ⟨h1,h2⟩:=WkL.split (a:=as) (b:=bs) h.2 (by simpa using hl)
    exact ⟨⟨h.1,h1⟩,h2⟩
def RC (S:SSt U) (B:Bufs U):List (Oid × Nat × VK)→List (SV U)→Prop
  | [],[]=>True
  | (o,off,k) :: r,v :: vs=>(∃ n w cs P X R,vsize Y.M k = some n∧X.length = n∧find S.H o = some (w,cs)∧flat Y.M S.B cs = P ++ (X ++ R)∧P.length = off∧WkL X (cellsOf (den Y.M B v)))∧RC S B r vs
  | _,_=>False
theorem inj_one {v:VK} {n:Nat} (h:vsize Y.M v = some n) (B:Bufs U) (ts:List Ty0) (z:HT U (tys v ts)):∃ s,(inj v ts z).1 = [s]∧(cellsOf (den Y.M B s)).length = n:=by
  cases v <;> simp only [vsize] at h <;> first | (cases h; done) | cases h
  all_goals simp only [inj]
  all_goals first
    | exact ⟨_,rfl,Y.ok.size _ _⟩
    | exact ⟨_,rfl,rfl⟩
    | skip
  · rename_i i
    refine ⟨_,rfl,?_⟩
    cases hhd (.opt i) ts z <;> rfl
  · rename_i b
    refine ⟨_,rfl,?_⟩
    simp only [den]
    split <;> rfl
theorem getC_rc {S:SSt U} {B:Bufs U}:∀ {l:List (Oid × Nat × VK)} {ts:List Ty0} {z:HT U (tys (VK.L (l.map (·.2.2))) ts)} {L:List (SV U)},getC Y S l = some L→WkL (flat Y.M S.B L) (flat Y.M B (inj (VK.L (l.map (·.2.2))) ts z).1)→RC (Y:=Y) S B l (inj (VK.L (l.map (·.2.2))) ts z).1
  | [],ts,z,L,h,hw=>trivial
  | (o,off,k) :: r,ts,z,L,h,hw=>by
    simp only [getC] at h
    split at h
    · rename_i n w cs l hn hf hr
      split at h
      · rename_i p hp
        split at h
        · rename_i q hq
          cases h
          obtain ⟨s1,s2⟩:=splitS_ok Y.ok S.B _ _ _ hp
          obtain ⟨s3,s4⟩:=splitS_ok Y.ok S.B _ _ _ hq
          have hw:WkL (flat Y.M S.B (q.1 ++ l)) (flat Y.M B ((inj k (tys (VK.L (r.map (·.2.2))) ts) z).1 ++ (inj (VK.L (r.map (·.2.2))) ts (inj k (tys (VK.L (r.map (·.2.2))) ts) z).2).1)):=hw
          show RC (Y:=Y) S B ((o,off,k) :: r) ((inj k (tys (VK.L (r.map (·.2.2))) ts) z).1 ++ (inj (VK.L (r.map (·.2.2))) ts (inj k (tys (VK.L (r.map (·.2.2))) ts) z).2).1)
          obtain ⟨s,e1,e2⟩:=inj_one hn B (tys (VK.L (r.map (fun x:Oid × Nat × VK=>x.2.2))) ts) z
          rw [e1] at hw ⊢
          rw [flat_append,flat_append] at hw
          simp only [flat,List.append_nil] at hw
          obtain ⟨w1,w2⟩:=WkL.split hw (by rw [s4,e2])
          exact ⟨⟨n,w,cs,_,_,_,hn,s4,hf,by rw [s1,s3],s2,w1⟩,getC_rc hr w2⟩
        · cases h
      · cases h
    · cases h
def cov (l:List (Oid × Nat × VK)) (o:Oid) (j:Nat):Prop:=∃ q ∈ l,q.1 = o∧q.2.1 ≤ j∧j < q.2.1 + (vsize Y.M q.2.2).getD 0
def Good (S:SSt U) (B:Bufs U) (H:List (Oid × Fl × List (SV U))) (l:List (Oid × Nat × VK)):Prop :=
  ∀ o w cs,find H o = some (w,cs)→∃ cs',find S.H o = some (w,cs')∧(flat Y.M S.B cs').length = (flat Y.M B cs).length ∧
    ∀ (j:Nat) (x y:AV),(flat Y.M S.B cs')[j]? = some x→(flat Y.M B cs)[j]? = some y→cov (Y:=Y) l o j ∨ Wk x y
theorem setRange_in:∀ (vs cs:List AV) (off j:Nat),off ≤ j→j < off + vs.length→off + vs.length ≤ cs.length→(setRange cs off vs)[j]? = vs[j - off]?
  | [],_,_,_,h1,h2,_=>by simp at h2; omega
  | v :: vs,cs,off,j,h1,h2,h3=>by
    simp only [List.length_cons] at h2 h3
    simp only [setRange]
    by_cases e:j = off
    · subst e
      rw [setRange_get vs _ _ _ (.inl (by omega)),List.getElem?_set_self (by omega),Nat.sub_self]; rfl
    · rw [setRange_in vs _ _ _ (by omega) (by omega) (by rw [List.length_set]; omega),show j - off = (j - (off + 1)) + 1 by omega]; rfl
theorem setC_ok {S:SSt U} {B:Bufs U}:∀ {l:List (Oid × Nat × VK)} {vs:List (SV U)} {H H':List (Oid × Fl × List (SV U))},setC Y l vs H = some H'→RC (Y:=Y) S B l vs→Good (Y:=Y) S B H l→Good (Y:=Y) S B H' []∧(∀ o,(find H' o).isSome = (find H o).isSome)
  | [],[],H,H',h,_,hg=>by
    simp only [setC] at h; cases h
    exact ⟨hg,fun _=>rfl⟩
  | [],_ :: _,_,_,h,_,_=>by simp [setC] at h
  | _ :: _,[],_,_,h,_,_=>by simp [setC] at h
  | (o,off,k) :: r,v :: vs,H,H',h,hr,hg=>by
    simp only [setC] at h
    split at h
    · rename_i w cs hf
      split at h
      · rename_i cs1 hs
        split at h
        case isFalse=>cases h
        obtain ⟨s1,s2,s3⟩:=setS_ok Y.ok B hs
        obtain ⟨⟨n,w',cs',P,X,R,hn,hX,hf',hfl,hP,hwk⟩,hr'⟩:=hr
        have hlX:=WkL.len hwk
        have hg':Good (Y:=Y) S B (ins o (w,cs1) H) r:=by
          intro o2 w2 cs2 hf2
          rw [find_ins] at hf2
          by_cases e:o = o2
          · subst e
            rw [if_pos rfl] at hf2; cases hf2
            obtain ⟨cs3,g1,g2,g3⟩:=hg o w cs hf
            rw [hf'] at g1; cases g1
            refine ⟨cs',hf',by rw [g2,s3],fun j x y hx hy=>?_⟩
            rw [← s1] at hy
            by_cases hj:off ≤ j∧j < off + n
            · rw [setRange_in _ _ _ _ hj.1 (by rw [← hlX,hX]; exact hj.2) s2] at hy
              rw [hfl,List.getElem?_append_right (by omega),List.getElem?_append_left (by omega),hP] at hx
              exact .inr (WkL.get hwk hx hy)
            · rw [setRange_get _ _ _ _ (by rw [← hlX,hX]; omega)] at hy
              rcases g3 j x y hx hy with ⟨q,hq,h1,h2,h3⟩ | h
              · rcases List.mem_cons.1 hq with rfl | hq
                · exfalso
                  simp only [hn,Option.getD_some] at h2 h3
                  exact hj ⟨h2,h3⟩
                · exact .inl ⟨q,hq,h1,h2,h3⟩
              · exact .inr h
          · rw [if_neg e] at hf2
            obtain ⟨cs3,g1,g2,g3⟩:=hg o2 w2 cs2 hf2
            refine ⟨cs3,g1,g2,fun j x y hx hy=>?_⟩
            rcases g3 j x y hx hy with ⟨q,hq,h1,h2,h3⟩ | h
            · rcases List.mem_cons.1 hq with rfl | hq
              · exact (e h1).elim
              · exact .inl ⟨q,hq,h1,h2,h3⟩
            · exact .inr h
        obtain ⟨r1,r2⟩:=setC_ok h hr' hg'
        refine ⟨r1,fun o2=>?_⟩
        rw [r2 o2,find_ins]
        by_cases e:o = o2
        · subst e; rw [if_pos rfl,hf]; rfl
        · rw [if_neg e]
      · cases h
    · cases h
theorem setS_size {off:Nat} {v:SV U} {cs cs':List (SV U)} (h:setS Y.M off v cs = some cs') (B:Bufs U):csize Y.M v = some (cellsOf (den Y.M B v)).length:=by
  unfold setS at h
  split at h
  · rename_i p m _ hm
    rw [hm,csize_ok Y.ok B v hm]
  · cases h
theorem setC_rest {B:Bufs U}:∀ {l:List (Oid × Nat × VK)} {vs:List (SV U)} {H H':List (Oid × Fl × List (SV U))},setC Y l vs H = some H' →
    ∀ o w cs,find H o = some (w,cs)→∃ cs',find H' o = some (w,cs')∧(flat Y.M B cs').length = (flat Y.M B cs).length∧∀ j,¬ cov (Y:=Y) l o j→(flat Y.M B cs')[j]? = (flat Y.M B cs)[j]?
  | [],[],H,H',h,o,w,cs,hf=>by simp only [setC] at h; cases h; exact ⟨cs,hf,rfl,fun _ _=>rfl⟩
  | [],_ :: _,_,_,h,_,_,_,_=>by simp [setC] at h
  | _ :: _,[],_,_,h,_,_,_,_=>by simp [setC] at h
  | (o1,off,k) :: r,v :: vs,H,H',h,o,w,cs,hf=>by
    simp only [setC] at h
    split at h
    · rename_i w1 cs1 hf1
      split at h
      · rename_i cs2 hs
        split at h
        · rename_i hk
          obtain ⟨s1,s2,s3⟩:=setS_ok Y.ok B hs
          have hk:vsize Y.M k = some (cellsOf (den Y.M B v)).length:=by rw [← hk]; exact setS_size hs B
          by_cases e:o1 = o
          · subst e
            rw [hf1] at hf; cases hf
            obtain ⟨cs',k1,k2,k3⟩:=setC_rest h o1 w cs2 (by rw [find_ins,if_pos rfl])
            refine ⟨cs',k1,k2.trans s3,fun j hj=>?_⟩
            rw [k3 j fun ⟨q,hq,hh⟩=>hj ⟨q,List.mem_cons_of_mem _ hq,hh⟩,← s1]
            refine setRange_get _ _ _ _ ?_
            have:¬ (off ≤ j∧j < off + (cellsOf (den Y.M B v)).length):=fun hh=>hj ⟨_,List.mem_cons_self,rfl,hh.1,by simp only [hk,Option.getD_some]; exact hh.2⟩
            omega
          · obtain ⟨cs',k1,k2,k3⟩:=setC_rest h o w cs (by rw [find_ins,if_neg e]; exact hf)
            exact ⟨cs',k1,k2,fun j hj=>k3 j fun ⟨q,hq,hh⟩=>hj ⟨q,List.mem_cons_of_mem _ hq,hh⟩⟩
        · cases h
      · cases h
    · cases h
theorem setC_keys:∀ {l:List (Oid × Nat × VK)} {vs:List (SV U)} {H H':List (Oid × Fl × List (SV U))},setC Y l vs H = some H'→∀ o,(find H' o).isSome = (find H o).isSome
  | [],[],H,H',h,o=>by simp only [setC] at h; cases h; rfl
  | [],_ :: _,_,_,h,_=>by simp [setC] at h
  | _ :: _,[],_,_,h,_=>by simp [setC] at h
  | (o1,off,k) :: r,v :: vs,H,H',h,o=>by
    simp only [setC] at h
    split at h
    · rename_i w1 cs1 hf1
      split at h
      · split at h
        · rw [setC_keys h o,find_ins]
          by_cases e:o1 = o
          · subst e; rw [if_pos rfl,hf1]; rfl
          · rw [if_neg e]
        · cases h
      · cases h
    · cases h
end
end Go.Proofs.YtjojaiomgdjhfaaGreatDoor.SY
namespace Go.Proofs.YtjojaiomgdjhfaaGreatDoor.SY
open Go AE F
section
variable {U:Nat→Type} {Y:SZ U}
theorem RC.size {S:SSt U} {B:Bufs U}:∀ {l:List (Oid × Nat × VK)} {vs:List (SV U)},RC (Y:=Y) S B l vs→∀ (i:Nat) (q:Oid × Nat × VK) (v:SV U),l[i]? = some q→vs[i]? = some v→vsize Y.M q.2.2 = some (cellsOf (den Y.M B v)).length
  | [],[],_,i,q,v,h,_=>by simp at h
  | [],_ :: _,h,_,_,_,_,_=>h.elim
  | _ :: _,[],h,_,_,_,_,_=>h.elim
  | (o,off,k) :: r,v :: vs,h,0,q,v',h1,h2=>by
    simp at h1 h2
    subst h1; subst h2
    obtain ⟨⟨n,w,cs,P,X,R,hn,hX,_,_,_,hw⟩,_⟩:=h
    simp only
    rw [hn,← hX,WkL.len hw]
  | _ :: r,_ :: vs,h,i + 1,q,v',h1,h2=>RC.size h.2 i q v' (by simpa using h1) (by simpa using h2)
theorem addW_mem {l:List (Oid × Nat × VK)} {W:List (Oid × Nat)} {o:Oid} {j:Nat}:(o,j) ∈ addW Y l W ↔ cov (Y:=Y) l o j ∨ (o,j) ∈ W:=by
  induction l with
  | nil=>simp [addW,cov]
  | cons p r ih=>
    obtain ⟨o1,off,k⟩:=p
    simp only [addW,cellsAt_mem,ih,cov,List.mem_cons]
    constructor
    · rintro (⟨h1,h2,h3⟩ | ⟨q,hq,hh⟩ | h)
      · exact .inl ⟨_,.inl rfl,h1.symm,h2,h3⟩
      · exact .inl ⟨q,.inr hq,hh⟩
      · exact .inr h
    · rintro (⟨q,rfl | hq,h1,h2,h3⟩ | h)
      · exact .inl ⟨h1.symm,h2,h3⟩
      · exact .inr (.inl ⟨q,hq,h1,h2,h3⟩)
      · exact .inr (.inr h)
theorem zip_find:∀ {ts:List Nat} {la:List (SV U)} {t:Nat} {v:SV U},find (ts.zip la) t = some v→∃ k:Nat,ts[k]? = some t∧la[k]? = some v
  | [],la,t,v,h=>by simp [find] at h
  | _ :: _,[],t,v,h=>by simp [find] at h
  | x :: ts,y :: la,t,v,h=>by
    simp only [List.zip_cons_cons,find] at h
    split at h
    · rename_i e; subst e; cases h; exact ⟨0,rfl,rfl⟩
    · obtain ⟨k,h1,h2⟩:=zip_find h
      exact ⟨k + 1,by simpa using h1,by simpa using h2⟩
mutual
theorem dg_only {p q:Oid→Bool}:∀ a:AV,(∀ b ∈ toks a,p b = true→q b = true)→dgA q (dgA p a) = dgA q a
  | .slice (.buf b) s es,h=>by
    have:=h b (by simp [toks])
    simp only [dgA]
    by_cases hp:p b = true
    · simp only [hp,if_true,this hp,dgA]
    · simp only [hp,if_false,dgA]; rfl
  | .slice .none s es,_=>rfl
  | .slice .full s es,_=>rfl
  | .fn f a b,h=>by simp only [dgA]; rw [dgL_only a fun x hx=>h x (by simp [toks,hx]),dgL_only b fun x hx=>h x (by simp [toks,hx])]
  | .iface t x,h=>by simp only [dgA]; rw [dg_only x fun y hy=>h y (by simp [toks,hy])]
  | .agg cs,h=>by simp only [dgA]; rw [dgL_only cs fun y hy=>h y (by simp [toks,hy])]
  | .tuple cs,h=>by simp only [dgA]; rw [dgL_only cs fun y hy=>h y (by simp [toks,hy])]
  | .undef,_=>rfl
  | .bool _,_=>rfl
  | .int _ _,_=>rfl
  | .str _,_=>rfl
  | .nilp,_=>rfl
  | .ptr _ _,_=>rfl
  | .pin _,_=>rfl
  | .nils,_=>rfl
  | .mref _ _ _ _ _,_=>rfl
  | .nilm,_=>rfl
  | .mapr _,_=>rfl
  | .mapf _ _,_=>rfl
  | .nilf,_=>rfl
  | .nili,_=>rfl
theorem dgL_only {p q:Oid→Bool}:∀ a:List AV,(∀ b ∈ toksL a,p b = true→q b = true)→dgL q (dgL p a) = dgL q a
  | [],_=>rfl
  | a :: r,h=>by simp only [dgL]; rw [dg_only a fun y hy=>h y (by simp [toksL,hy]),dgL_only r fun y hy=>h y (by simp [toksL,hy])]
end
theorem dg_chain {p q:Oid→Bool} {a b:AV} (h:dgA p a = dgA p b) (hpq:∀ x ∈ toks a,p x = true→q x = true):Wk b (dgA q a):=by
  rw [← dg_only a hpq,h]
  exact (Wk.dg p b).trans (Wk.dg q _)
theorem noTok_A {b:Oid} {S:SSt U} (h:noTok b S = true) (t:Nat):b ∉ toks (den Y.M S.B (getS S.A t)):=by
  simp only [noTok,Bool.and_eq_true,Bool.not_eq_true',List.all_eq_true] at h
  intro hm
  have hm:=toks_tips _ b (toks_den Y.ok S.B _ b hm)
  unfold getS at hm
  cases hf:find S.A t with
  | none=>rw [hf] at hm; simp [tipsS,toks] at hm
  | some v=>
    rw [hf] at hm
    have:=h.1.2 _ (find_mem hf)
    rw [← Bool.not_eq_true,List.contains_iff_mem] at this
    exact this hm
theorem noTok_H {b:Oid} {S:SSt U} (h:noTok b S = true) {o:Oid} {p:Fl × List (SV U)} (hp:find S.H o = some p):b ∉ toksL (flat Y.M S.B p.2):=by
  simp only [noTok,Bool.and_eq_true,Bool.not_eq_true',List.all_eq_true] at h
  intro hm
  have hm:=toks_tipsL _ b (toks_flat Y.ok S.B _ b hm)
  have:=h.2 _ (find_mem hp)
  rw [← Bool.not_eq_true,List.contains_iff_mem] at this
  exact this hm
theorem toksL_mem {a:AV} {b:Oid} (hb:b ∈ toks a):∀ {l:List AV},a ∈ l→b ∈ toksL l
  | x :: l,h=>by
    simp only [toksL,List.mem_append]
    rcases List.mem_cons.1 h with rfl | h
    · exact .inl hb
    · exact .inr (toksL_mem hb h)
theorem inject_ok {S S' S1:SSt U} {D D':List Nat} {sh:Sh} {z:HT U sh.tys} (hf:Fr Y D S S') (hx:extSh Y sh S S' = some z) (hi:injSh Y D' sh z S = some S1) (hD:∀ t ∈ D,t ∈ D' ∨ t ∈ sh.a.map (·.1)) :
    SWf (denS Y S') (denS Y S1)∧Fr Y (D' ++ sh.a.map (·.1)) S S1:=by
  unfold extSh at hx
  split at hx
  case isFalse=>cases hx
  rename_i hok
  split at hx
  case h_2=>cases hx
  rename_i lc hlc
  split at hx
  case h_2=>cases hx
  rename_i zc hzc
  split at hx
  case h_2=>cases hx
  rename_i za hza
  simp only [okWX,Bool.and_eq_true,List.all_eq_true] at hok
  obtain ⟨⟨okW,okX⟩,okT⟩:=hok
  unfold injSh at hi
  split at hi
  case h_2=>cases hi
  rename_i A H hA hH
  split at hi
  case h_2=>cases hi
  rename_i H' hH'
  have hi:=Option.some.inj hi
  -- the spares
  obtain ⟨b0,b1,b2⟩:=exB_ok hx
  have hz2:(inj sh.KA (tys sh.KC []) za).2 = zc:=(exl_ok Y.ok (B:=S'.B) (B':=S'.B) _ _ _ _ _ (fun _ _=>rfl) hza).1
  have eza:sh.za z = (inj sh.KA (tys sh.KC []) za).1:=by simp only [Sh.za,b0]
  have ezc:sh.zc z = (inj sh.KC [] zc).1:=by simp only [Sh.zc,b0,hz2]
  rw [eza] at hi
  rw [ezc] at hH'
  obtain ⟨c1,c2⟩:=bufs_ok (sh:=sh) (z:=z) (B:=S.B)
  have hB1:S1.B = sh.zb z ++ S.B.filter (fun x=>!sh.nb.contains x.1):=by rw [← hi]
  have hA1:S1.A = (sh.a.map (·.1)).zip (inj sh.KA (tys sh.KC []) za).1 ++ A:=by rw [← hi]
  have hH1:S1.H = H':=by rw [← hi]
  have hX1:S1.X = sh.nb ++ S.X:=by rw [← hi]
  have hW1:S1.W = addW Y sh.c S.W:=by rw [← hi]
  clear hi
  have hnb:∀ b,xp sh.nb b = false→find S1.B b = find S.B b:=by rw [hB1]; exact c1
  have hin:∀ b,b ∈ sh.nb→∃ x,find S1.B b = some x∧find S'.B b = some x∧find S'.H b = none:=by
    intro b hb
    have h2:(find (sh.zb z) b).isSome = true:=b2 b hb
    rw [hB1,c2 b h2]
    cases hq:find (sh.zb z) b with
    | none=>rw [hq] at h2; cases h2
    | some x=>exact ⟨x,rfl,b1 b x hq⟩
  have hxp:∀ b,xp S'.X b = true→xp sh.nb b = true ∨ noTok b S = true:=by
    intro b hb
    simp only [xp,List.contains_iff_mem] at hb ⊢
    have:=okX b hb
    simp only [Bool.or_eq_true,List.contains_iff_mem] at this
    exact this
  have htip:∀ b ∈ vtips sh.KA ++ vtips sh.KC,find S'.B b = find S1.B b:=by
    intro b hb
    have:=okT b hb
    rw [List.contains_iff_mem] at this
    obtain ⟨x,h1,h2,_⟩:=hin b this
    rw [h1,h2]
  obtain ⟨_,e2,_⟩:=exl_ok Y.ok (B:=S'.B) (B':=S1.B) _ _ _ _ _ (fun b hb=>htip b (List.mem_append_left _ hb)) hza
  obtain ⟨_,_,e4⟩:=exl_ok Y.ok (B:=S'.B) (B':=S1.B) _ _ _ _ _ (fun b hb=>htip b (List.mem_append_right _ hb)) hzc
  have e2:=e2 (.inl rfl)
  have hrc:RC (Y:=Y) S' S1.B sh.c (inj sh.KC [] zc).1:=getC_rc hlc (e4 (.inl rfl))
  -- the slots behind
  have hbase:∀ t,den Y.M S1.B (getS A t) = dgA (xp sh.nb) (den Y.M S.B (if D'.contains t then .raw .undef else getS S.A t)):=by
    intro t
    rw [baseA_ok hnb hA t]
    congr 2
    simp only [getS]
    rw [find_filter (fun x:Nat × SV U=>!D'.contains x.1) (fun t=>!D'.contains t) (fun _=>rfl)]
    cases D'.contains t <;> rfl
  have hlen:(inj sh.KA (tys sh.KC []) za).1.length = (sh.a.map (·.1)).length:=by
    have:=WkL.len e2
    rw [denL_map,denL_map,List.length_map,List.length_map,List.length_map] at this
    rw [← this,List.length_map]
  have hslot:∀ t,(∃ (k:Nat) (v:SV U),(sh.a.map (·.1))[k]? = some t∧(inj sh.KA (tys sh.KC []) za).1[k]? = some v∧getS S1.A t = v) ∨ (t ∉ sh.a.map (·.1)∧getS S1.A t = getS A t):=by
    intro t
    simp only [getS,hA1]
    rw [find_append]
    cases hq:find ((sh.a.map (·.1)).zip (inj sh.KA (tys sh.KC []) za).1) t with
    | some v=>
      obtain ⟨k,h1,h2⟩:=zip_find hq
      exact .inl ⟨k,v,h1,h2,rfl⟩
    | none=>
      refine .inr ⟨fun hm=>?_,rfl⟩
      have:∀ {ts:List Nat} {la:List (SV U)},la.length = ts.length→t ∈ ts→(find (ts.zip la) t).isSome = true:=by
        intro ts
        induction ts with
        | nil=>intro la _ h; cases h
        | cons a ts ih=>
          intro la hl h
          cases la with
          | nil=>cases hl
          | cons y la=>
            simp only [List.zip_cons_cons,find]
            split
            · rfl
            · rename_i hne
              exact ih (by simpa using hl) ((List.mem_cons.1 h).resolve_left fun e=>hne e.symm)
      have:=this hlen hm
      rw [hq] at this; cases this
  -- the objects
  have hbH:=baseH_ok (Y:=Y) hnb hH
  have hgood:Good (Y:=Y) S' S1.B H sh.c:=by
    intro o w cs hfo
    have:=hbH o
    cases hq:find S.H o with
    | none=>rw [hq] at this; simp only at this; rw [this] at hfo; cases hfo
    | some p=>
      obtain ⟨w',l⟩:=p
      rw [hq] at this
      obtain ⟨l',k1,k2⟩:=this
      rw [k2] at hfo; cases hfo
      obtain ⟨cs',q1,q2,q3⟩:=hf.h o w l hq
      refine ⟨cs',q1,by rw [q2,k1,dgL_map,List.length_map],fun j x y hx hy=>?_⟩
      by_cases hw:(o,j) ∈ S'.W
      · have h0:=okW _ hw
        simp only [hq,Option.isNone_some,Bool.or_false,covered,List.any_eq_true,decide_eq_true_eq] at h0
        obtain ⟨q,hq,h1,h2,h3⟩:=h0
        exact .inl ⟨q,hq,h1,h2,h3⟩
      · have h3:=q3 j hw
        rw [hx] at h3
        rw [k1,dgL_map,List.getElem?_map] at hy
        cases hz:(flat Y.M S.B l)[j]? with
        | none=>rw [hz] at hy; cases hy
        | some u=>
          rw [hz] at hy h3
          simp only [Option.map_some,Option.some.injEq] at hy h3
          rw [← hy]
          exact .inr (dg_chain h3 fun b hb hx=>(hxp b hx).resolve_right fun hn=>noTok_H (Y:=Y) hn hq (toksL_mem hb (List.mem_of_getElem? hz)))
  obtain ⟨g1,g2⟩:=setC_ok hH' hrc hgood
  have hkeyH:∀ o,(find S1.H o).isSome = (find S.H o).isSome:=by
    intro o
    rw [hH1,g2 o]
    have:=hbH o
    cases hq:find S.H o with
    | none=>rw [hq] at this; simp only at this; rw [this]
    | some p=>obtain ⟨w',l⟩:=p; rw [hq] at this; obtain ⟨l',_,k2⟩:=this; rw [k2]; rfl
  have hnone:∀ o,find S1.H o = none ↔ find S.H o = none:=by
    intro o
    have:=hkeyH o
    constructor <;> intro h <;> rw [h] at this
    · cases hq:find S.H o with
      | none=>rfl
      | some p=>rw [hq] at this; cases this
    · cases hq:find S1.H o with
      | none=>rfl
      | some p=>rw [hq] at this; cases this
  refine ⟨⟨fun t=>?_,fun b ob' hb=>?_,fun e he hs=>?_⟩,⟨fun t ht=>?_,fun o w l ho=>?_,fun b x hb h1 h2=>?_,fun x hx=>?_,fun x hx=>?_,fun b hb hs=>?_⟩⟩
  · rw [getS_ok,getS_ok]
    rcases hslot t with ⟨k,v,h1,h2,h3⟩ | ⟨h1,h2⟩
    · rw [h3]
      refine WkL.get e2 (i:=k) ?_ (denL_get h2)
      rw [List.getElem?_map] at h1
      cases hq:sh.a[k]? with
      | none=>rw [hq] at h1; cases h1
      | some p=>
        rw [hq] at h1
        simp only [Option.map_some,Option.some.injEq] at h1
        rw [denL_map,List.getElem?_map,List.getElem?_map,hq]
        simp only [Option.map_some,h1]
    · rw [h2,hbase t]
      by_cases hd:D'.contains t = true
      · rw [if_pos hd]; exact fun _ _ _=>trivial
      · rw [if_neg hd]
        have htD:t ∉ D:=fun hh=>(hD t hh).elim (fun h=>hd (by rw [List.contains_iff_mem]; exact h)) h1
        exact dg_chain (hf.a t htD) fun b hb hx=>(hxp b hx).resolve_right fun hn=>noTok_A (Y:=Y) hn t hb
  · rw [findH] at hb
    cases hq:find S1.H b with
    | some p=>
      obtain ⟨w,cs⟩:=p
      rw [hq] at hb
      cases hb
      rw [hH1] at hq
      obtain ⟨cs',k1,k2,k3⟩:=g1 b w cs hq
      rw [findH,k1]
      refine ⟨_,rfl,rfl,WkL.of_get k2 fun j x y hx hy=>?_⟩
      rcases k3 j x y hx hy with ⟨q,hq,_⟩ | h
      · cases hq
      · exact h
    | none=>
      rw [hq] at hb
      simp only at hb
      by_cases hm:b ∈ sh.nb
      · obtain ⟨x,k1,k2,k3⟩:=hin b hm
        rw [k1] at hb
        rw [findH,k3]
        simp only
        rw [k2]
        exact ⟨ob',hb,ObWk.refl _⟩
      · have hxn:xp sh.nb b = false:=by
          simp only [xp]; rw [← Bool.not_eq_true,List.contains_iff_mem]; exact hm
        rw [hnb b hxn] at hb
        cases hz:find S.B b with
        | none=>rw [hz] at hb; cases hb
        | some x=>
          have hnX:b ∉ S'.X:=fun hh=>by
            have:=okX b hh
            simp only [Bool.or_eq_true,List.contains_iff_mem] at this
            rcases this with h | h
            · exact hm h
            · simp only [noTok,Bool.and_eq_true,Option.isNone_iff_eq_none] at h
              rw [h.1.1.1.2] at hz; cases hz
          obtain ⟨k1,k2⟩:=hf.b b x hnX ((hnone b).1 hq) hz
          rw [hz] at hb
          rw [findH,k1]
          simp only
          rw [k2]
          exact ⟨ob',hb,ObWk.refl _⟩
  · have h0:=hf.e e he hs
    rw [findH] at h0 ⊢
    cases hq:find S.H e with
    | some p=>
      have:=hkeyH e
      rw [hq] at this
      cases hz:find S1.H e with
      | some p=>rfl
      | none=>rw [hz] at this; cases this
    | none=>
      rw [hq] at h0
      rw [(hnone e).2 hq]
      simp only [Option.isSome_map] at h0 ⊢
      by_cases hm:e ∈ sh.nb
      · obtain ⟨x,k1,_⟩:=hin e hm
        rw [k1]; rfl
      · rw [hnb e (by simp only [xp]; rw [← Bool.not_eq_true,List.contains_iff_mem]; exact hm)]; exact h0
  · simp only [List.mem_append,not_or] at ht
    rcases hslot t with ⟨k,v,h1,h2,h3⟩ | ⟨h1,h2⟩
    · exact (ht.2 (List.mem_of_getElem? h1)).elim
    · rw [h2,hbase t,if_neg (by rw [List.contains_iff_mem]; exact ht.1)]
      rw [dg_dg fun b hb=>?_]
      rw [hX1]
      simp only [xp,List.contains_iff_mem] at hb ⊢
      exact List.mem_append_left _ hb
  · have:=hbH o
    rw [ho] at this
    obtain ⟨l',k1,k2⟩:=this
    obtain ⟨cs',m1,m2,m3⟩:=setC_rest (Y:=Y) (B:=S1.B) hH' o w l' k2
    refine ⟨cs',by rw [hH1]; exact m1,by rw [m2,k1,dgL_map,List.length_map],fun j hj=>?_⟩
    rw [m3 j fun hc=>hj (by rw [hW1]; exact addW_mem.2 (.inl hc)),k1,dgL_map,List.getElem?_map,Option.map_map]
    congr 1
    funext u
    simp only [Function.comp]
    rw [dg_dg fun b hb=>?_]
    rw [hX1]
    simp only [xp,List.contains_iff_mem] at hb ⊢
    exact List.mem_append_left _ hb
  · refine ⟨(hnone b).2 h1,?_⟩
    rw [hnb b ?_]
    · exact h2
    · simp only [xp]
      rw [← Bool.not_eq_true,List.contains_iff_mem]
      exact fun hh=>hb (by rw [hX1]; exact List.mem_append_left _ hh)
  · rw [hW1]
    obtain ⟨o,j⟩:=x
    exact addW_mem.2 (.inr hx)
  · rw [hX1]; exact List.mem_append_right _ hx
  · rw [findH] at hs
    cases hq:find S1.H b with
    | some p=>
      have:=hkeyH b
      rw [hq] at this
      rw [findH]
      cases hz:find S.H b with
      | some p=>rfl
      | none=>rw [hz] at this; cases this
    | none=>
      rw [hq] at hs
      simp only [Option.isSome_map] at hs
      by_cases hm:b ∈ sh.nb
      · obtain ⟨x,k1,k2,k3⟩:=hin b hm
        refine hf.e b hb ?_
        rw [findH,k3]
        simp only
        rw [k2]; rfl
      · rw [hnb b (by simp only [xp]; rw [← Bool.not_eq_true,List.contains_iff_mem]; exact hm)] at hs
        rw [findH,(hnone b).1 hq]
        simp only [Option.isSome_map]; exact hs
end
end Go.Proofs.YtjojaiomgdjhfaaGreatDoor.SY
namespace Go.Proofs.YtjojaiomgdjhfaaGreatDoor.SY
open Go AE F
mutual
theorem ren_plain (σ:Oid→Option Oid):∀ (a:AV),refs a = []→toks a = []→ren σ a = some a
  | .ptr b off,h,_=>by simp [refs] at h
  | .mref _ _ _ _ _,h,_=>by simp [refs] at h
  | .mapr b,h,_=>by simp [refs] at h
  | .slice .none s es,_,_=>by simp [ren]
  | .slice .full s es,_,_=>by simp [ren]
  | .slice (.buf b) s es,_,h=>by simp [toks] at h
  | .fn f a b,h1,h2=>by
    simp only [refs,toks,List.append_eq_nil_iff] at h1 h2
    simp only [ren,renL_plain σ a h1.1 h2.1,renL_plain σ b h1.2 h2.2]
  | .iface t v,h1,h2=>by
    simp only [refs,toks] at h1 h2
    simp only [ren,ren_plain σ v h1 h2]
  | .agg cs,h1,h2=>by
    simp only [refs,toks] at h1 h2
    simp only [ren,renL_plain σ cs h1 h2]
  | .tuple cs,h1,h2=>by
    simp only [refs,toks] at h1 h2
    simp only [ren,renL_plain σ cs h1 h2]
  | .undef,_,_=>rfl
  | .bool _,_,_=>rfl
  | .int _ _,_,_=>rfl
  | .str _,_,_=>rfl
  | .nilp,_,_=>rfl
  | .pin _,_,_=>rfl
  | .nils,_,_=>rfl
  | .nilm,_,_=>rfl
  | .mapf _ _,_,_=>rfl
  | .nilf,_,_=>rfl
  | .nili,_,_=>rfl
theorem renL_plain (σ:Oid→Option Oid):∀ (as:List AV),refsL as = []→toksL as = []→renL σ as = some as
  | [],_,_=>rfl
  | a :: as,h1,h2=>by
    simp only [refsL,toksL,List.append_eq_nil_iff] at h1 h2
    simp only [renL,ren_plain σ a h1.1 h2.1,renL_plain σ as h1.2 h2.2]
end
theorem renL_append (σ:Oid→Option Oid):∀ (a b:List AV) {a' b':List AV},renL σ a = some a'→renL σ b = some b'→renL σ (a ++ b) = some (a' ++ b')
  | [],b,a',b',h1,h2=>by simp only [renL] at h1; cases h1; exact h2
  | x :: a,b,a',b',h1,h2=>by
    simp only [renL] at h1
    split at h1
    · rename_i x' r' hx hr
      cases h1
      simp only [List.cons_append,renL,hx,renL_append σ a b hr h2]
    · cases h1
theorem ren_cells (σ:Oid→Option Oid) {a a':AV} (h:ren σ a = some a'):renL σ (cellsOf a) = some (cellsOf a'):=by
  by_cases hc:∀ cs,a ≠ .agg cs
  · have hc':∀ cs,a' ≠ .agg cs:=by
      intro cs e
      subst e
      cases a with
      | agg cs=>exact hc cs rfl
      | slice tok s es=>cases tok <;> simp only [ren] at h <;> first | (cases h; done) | (split at h <;> cases h)
      | _=>simp only [ren] at h <;> first | (cases h; done) | (split at h <;> cases h)
    rw [cells_nonagg a hc,cells_nonagg a' hc']
    simp only [renL,h]
  · have:∃ cs,a = .agg cs:=by
      cases a with
      | agg cs=>exact ⟨cs,rfl⟩
      | _=>exact (hc (by intro cs e; cases e)).elim
    obtain ⟨cs,rfl⟩:=this
    simp only [ren] at h
    split at h
    · rename_i cs' hcs; cases h; simp only [cellsOf,hcs]
    · cases h
section
variable {U:Nat→Type} {ρ:Type} {M:TM U} {tb:List TI}
mutual
def sren (σ:Oid→Option Oid) (B:Bufs U):SV U→Option (SV U)
  | .raw a=>match ren σ a with | some a'=>some (.raw a') | none=>none
  | .tip b=>match σ b with
    | some b'=>some (.tip b')
    | none=>match find B b with
      | some ⟨i,l⟩=>some (.lst false i l)
      | none=>some (.raw .undef)
  | .pin l=>if noTipL l then some (.pin l) else none
  | .agg l=>match srenL σ B l with | some l'=>some (.agg l') | none=>none
  | .tup l=>match srenL σ B l with | some l'=>some (.tup l') | none=>none
  | .fn f a b=>match srenL σ B a,srenL σ B b with | some a',some b'=>some (.fn f a' b') | _,_=>none
  | v=>some v
def srenL (σ:Oid→Option Oid) (B:Bufs U):List (SV U)→Option (List (SV U))
  | []=>some []
  | v :: r=>match sren σ B v,srenL σ B r with | some v',some r'=>some (v' :: r') | _,_=>none
end
mutual
theorem sren_ok (hM:TMOk M tb) {σ:Oid→Option Oid} {B B':Bufs U} (hB:∀ b b',σ b = some b'→find B' b' = find B b):∀ (v:SV U) {v':SV U},sren σ B v = some v'→ren σ (den M B v) = some (den M B' v')
  | .raw a,v',h=>by
    simp only [sren] at h
    split at h
    · rename_i a' ha; cases h; exact ha
    · cases h
  | .typ i x,v',h=>by simp only [sren] at h; cases h; exact ren_plain σ _ (hM.refs i x) (hM.toks i x)
  | .lst f i l,v',h=>by simp only [sren] at h; cases h; cases f <;> rfl
  | .tip b,v',h=>by
    simp only [sren] at h
    split at h
    · rename_i b' hb
      cases h
      simp only [den]
      rw [hB b b' hb]
      cases find B b with
      | none=>rfl
      | some x=>simp only [ren,hb]
    · rename_i hb
      split at h
      · rename_i i l hf; cases h; simp only [den,hf,ren,hb]; rfl
      · rename_i hf; cases h; simp only [den,hf]; rfl
  | .opt i none,v',h=>by simp only [sren] at h; cases h; rfl
  | .opt i (some x),v',h=>by simp only [sren] at h; cases h; rfl
  | .pint _ _ _,v',h=>by simp only [sren] at h; cases h; rfl
  | .arr i l,v',h=>by simp only [sren] at h; cases h; simp only [den]; exact ren_plain σ _ (by simp only [refs]; exact members_refs hM l) (by simp only [toks]; exact members_toks hM l)
  | .pin l,v',h=>by
    simp only [sren] at h
    split at h
    · rename_i hn; cases h; simp only [den,ren]; rw [noTip_flat (B':=B') l hn]
    · cases h
  | .agg l,v',h=>by
    simp only [sren] at h
    split at h
    · rename_i l' hl; cases h; simp only [den,ren,srenF_ok hM hB l hl]
    · cases h
  | .tup l,v',h=>by
    simp only [sren] at h
    split at h
    · rename_i l' hl; cases h; simp only [den,ren,srenL_ok hM hB l hl]
    · cases h
  | .fn f a b,v',h=>by
    simp only [sren] at h
    split at h
    · rename_i a' b' ha hb; cases h; simp only [den,ren,srenL_ok hM hB a ha,srenL_ok hM hB b hb]
    · cases h
theorem srenL_ok (hM:TMOk M tb) {σ:Oid→Option Oid} {B B':Bufs U} (hB:∀ b b',σ b = some b'→find B' b' = find B b):∀ (l:List (SV U)) {l':List (SV U)},srenL σ B l = some l'→renL σ (denL M B l) = some (denL M B' l')
  | [],l',h=>by simp only [srenL] at h; cases h; rfl
  | v :: r,l',h=>by
    simp only [srenL] at h
    split at h
    · rename_i v' r' hv hr; cases h; simp only [denL,renL,sren_ok hM hB v hv,srenL_ok hM hB r hr]
    · cases h
theorem srenF_ok (hM:TMOk M tb) {σ:Oid→Option Oid} {B B':Bufs U} (hB:∀ b b',σ b = some b'→find B' b' = find B b):∀ (l:List (SV U)) {l':List (SV U)},srenL σ B l = some l'→renL σ (flat M B l) = some (flat M B' l')
  | [],l',h=>by simp only [srenL] at h; cases h; rfl
  | v :: r,l',h=>by
    simp only [srenL] at h
    split at h
    · rename_i v' r' hv hr; cases h; simp only [flat]; exact renL_append σ _ _ (ren_cells σ (sren_ok hM hB v hv)) (srenF_ok hM hB r hr)
    · cases h
end
def srenH (σ:Oid→Option Oid) (B:Bufs U):List (Oid × Fl × List (SV U))→Option (List (Oid × Fl × List (SV U)))
  | []=>some []
  | (o,w,l) :: r=>match σ o with
    | none=>srenH σ B r
    | some o'=>match srenL σ B l,srenH σ B r with
      | some l',some r'=>some ((o',w,l') :: r')
      | _,_=>none
def srenB (σ:Oid→Option Oid):Bufs U→Bufs U
  | []=>[]
  | (b,x) :: r=>match σ b with
    | none=>srenB σ r
    | some b'=>(b',x) :: srenB σ r
theorem renHeap_append (σ:Oid→Option Oid):∀ (a b:Heap) {a' b':Heap},renHeap σ a = some a'→renHeap σ b = some b'→renHeap σ (a ++ b) = some (a' ++ b')
  | [],b,a',b',h1,h2=>by simp only [renHeap] at h1; cases h1; exact h2
  | (o,ob) :: a,b,a',b',h1,h2=>by
    simp only [renHeap] at h1
    simp only [List.cons_append,renHeap]
    split at h1
    · rename_i ho; exact renHeap_append σ a b h1 h2
    · rename_i o' ho
      split at h1
      · rename_i ob' r' hob hr
        cases h1
        simp only [hob,renHeap_append σ a b hr h2,List.cons_append]
      · cases h1
theorem srenH_ok (hM:TMOk M tb) {σ:Oid→Option Oid} {B B':Bufs U} (hB:∀ b b',σ b = some b'→find B' b' = find B b):∀ (H:List (Oid × Fl × List (SV U))) {H':List (Oid × Fl × List (SV U))},srenH σ B H = some H' →
    renHeap σ (H.map fun x=>(x.1,Ob.cells x.2.1 (flat M B x.2.2))) = some (H'.map fun x=>(x.1,Ob.cells x.2.1 (flat M B' x.2.2)))
  | [],H',h=>by simp only [srenH] at h; cases h; rfl
  | (o,w,l) :: r,H',h=>by
    simp only [srenH] at h
    simp only [List.map_cons,renHeap]
    split at h
    · rename_i ho; simp only [ho]; exact srenH_ok hM hB r h
    · rename_i o' ho
      split at h
      · rename_i l' r' hl hr
        cases h
        simp only [ho,renOb,srenF_ok hM hB l hl,Option.map_some,srenH_ok hM hB r hr,List.map_cons]
      · cases h
theorem srenB_ok (M:TM U) (σ:Oid→Option Oid):∀ B:Bufs U,renHeap σ (B.map fun x=>(x.1,Ob.buf (M.size x.2.i) x.2.l.length)) = some ((srenB σ B).map fun x=>(x.1,Ob.buf (M.size x.2.i) x.2.l.length))
  | []=>rfl
  | (b,x) :: r=>by
    simp only [List.map_cons,renHeap,srenB]
    cases hb:σ b with
    | none=>exact srenB_ok M σ r
    | some b'=>simp only [renOb,srenB_ok M σ r,List.map_cons]
theorem srenB_find {σ τ:Oid→Option Oid} (hτ:∀ b b',σ b = some b'→τ b' = some b):∀ (B:Bufs U) {b b':Oid},σ b = some b'→find (srenB σ B) b' = find B b
  | [],b,b',_=>rfl
  | (c,x) :: r,b,b',h=>by
    simp only [srenB,find]
    cases hc:σ c with
    | none=>
      rw [if_neg (fun e=>by subst e; rw [hc] at h; cases h)]
      exact srenB_find hτ r h
    | some c'=>
      simp only [find]
      by_cases e:c = b
      · subst e
        rw [h] at hc; cases hc
        rw [if_pos rfl,if_pos rfl]
      · rw [if_neg e,if_neg]
        · exact srenB_find hτ r h
        · intro e'
          subst e'
          have h1:=hτ _ _ h
          have h2:=hτ _ _ hc
          rw [h1] at h2; cases h2
          exact e rfl
theorem srenB_keys {σ:Oid→Option Oid}:∀ (B:Bufs U) {b':Oid} {x:Bf U},find (srenB σ B) b' = some x→∃ b,σ b = some b'
  | [],b',x,h=>by cases h
  | (c,y) :: r,b',x,h=>by
    simp only [srenB] at h
    split at h
    · exact srenB_keys r h
    · rename_i c' hc
      simp only [find] at h
      split at h
      · rename_i e; subst e; exact ⟨c,hc⟩
      · exact srenB_keys r h
theorem srenH_keys {σ:Oid→Option Oid} {B:Bufs U}:∀ {H H':List (Oid × Fl × List (SV U))} {b':Oid} {p:Fl × List (SV U)},srenH σ B H = some H'→find H' b' = some p→∃ b,σ b = some b'∧(find H b).isSome = true
  | [],H',b',p,h,hf=>by simp only [srenH] at h; cases h; cases hf
  | (o,w,l) :: r,H',b',p,h,hf=>by
    simp only [srenH] at h
    have up:∀ b,(find r b).isSome = true→(find ((o,w,l) :: r) b).isSome = true:=by
      intro b hb
      simp only [find]; split
      · rfl
      · exact hb
    split at h
    · obtain ⟨b,h1,h2⟩:=srenH_keys h hf
      exact ⟨b,h1,up b h2⟩
    · rename_i o' ho
      split at h
      · rename_i l' r' hl hr
        cases h
        simp only [find] at hf
        split at hf
        · rename_i e; subst e; exact ⟨o,ho,by simp only [find,if_true]; rfl⟩
        · obtain ⟨b,h1,h2⟩:=srenH_keys hr hf
          exact ⟨b,h1,up b h2⟩
      · cases h
def sreach (H:List (Oid × Fl × List (SV U))):Nat→List Oid→List Oid→Option (List Oid)
  | 0,_,_=>none
  | _ + 1,[],seen=>some seen
  | n + 1,o :: todo,seen=>
    if seen.contains o then sreach H n todo seen else
    match find H o with
    | some p=>sreach H n (todo ++ refsSL p.2) (seen ++ [o])
    | none=>none
end
section
variable {U:Nat→Type} {ρ:Type} {Y:SZ U}
theorem sreach_ok {S:SSt U}:∀ (n:Nat) (todo seen:List Oid) {ids:List Oid},sreach S.H n todo seen = some ids→reach (denS Y S).H n todo seen = some ids
  | 0,_,_,_,h=>by cases h
  | n + 1,[],seen,ids,h=>by simp only [sreach] at h; simp only [reach]; exact h
  | n + 1,o :: todo,seen,ids,h=>by
    simp only [sreach] at h
    simp only [reach]
    split at h
    · rename_i hc; rw [if_pos hc]; exact sreach_ok n _ _ h
    · rename_i hc
      rw [if_neg hc]
      split at h
      · rename_i p hp
        rw [findH,hp]
        simp only [Ob.refs,refs_flat Y.ok]
        exact sreach_ok n _ _ h
      · cases h
variable (Y)
def renS (σ:Oid→Option Oid) (S:SSt U):Option (SSt U) :=
  match srenH σ S.B S.H with
  | some H=>some ⟨[],H,srenB σ S.B,[],[]⟩
  | none=>none
variable {Y}
theorem renS_ok {σ τ:Oid→Option Oid} (hτ:∀ b b',σ b = some b'→τ b' = some b) {S T:SSt U} (h:renS σ S = some T):renHeap σ (denS Y S).H = some (denS Y T).H∧(∀ b b',σ b = some b'→find T.B b' = find S.B b):=by
  unfold renS at h
  split at h
  · rename_i H hH
    cases h
    have hB:∀ b b',σ b = some b'→find (srenB σ S.B) b' = find S.B b:=fun b b' hb=>srenB_find hτ S.B hb
    exact ⟨renHeap_append σ _ _ (srenH_ok Y.ok hB S.H hH) (srenB_ok Y.M σ S.B),hB⟩
  · cases h
end
end Go.Proofs.YtjojaiomgdjhfaaGreatDoor.SY
namespace Go.Proofs.YtjojaiomgdjhfaaGreatDoor.SY
open Go AE F
mutual
theorem ren_dg {σ τ:Oid→Option Oid} (hτ:∀ b b',σ b = some b'→τ b' = some b) {p p':Oid→Bool} (hp:∀ b b',σ b = some b'→p b' = p' b):∀ (a:AV) {y:AV},(∀ b ∈ toks a,(σ b).isSome = true)→ren σ a = some y→ren τ (dgA p y) = some (dgA p' a)
  | .slice (.buf b) s es,y,ht,h=>by
    simp only [ren] at h
    have:=ht b (by simp [toks])
    cases hb:σ b with
    | none=>rw [hb] at this; cases this
    | some b'=>
      rw [hb] at h
      cases h
      simp only [dgA,hp b b' hb]
      by_cases hq:p' b = true
      · simp only [hq,if_true,ren]
      · simp only [hq,Bool.false_eq_true,if_false,ren,hτ b b' hb]
  | .slice .none s es,y,ht,h=>by simp only [ren] at h; cases h; rfl
  | .slice .full s es,y,ht,h=>by simp only [ren] at h; cases h; rfl
  | .ptr b off,y,ht,h=>by
    simp only [ren] at h
    split at h
    · rename_i b' hb; cases h; simp only [dgA,ren,hτ b b' hb]
    · cases h
  | .mref b s o l c,y,ht,h=>by
    simp only [ren] at h
    split at h
    · rename_i b' hb; cases h; simp only [dgA,ren,hτ b b' hb]
    · cases h
  | .mapr b,y,ht,h=>by
    simp only [ren] at h
    split at h
    · rename_i b' hb; cases h; simp only [dgA,ren,hτ b b' hb]
    · cases h
  | .fn f a b,y,ht,h=>by
    simp only [ren] at h
    split at h
    · rename_i a' b' ha hb
      cases h
      simp only [dgA,ren,renL_dg hτ hp a (fun x hx=>ht x (by simp [toks,hx])) ha,renL_dg hτ hp b (fun x hx=>ht x (by simp [toks,hx])) hb]
    · cases h
  | .iface t v,y,ht,h=>by
    simp only [ren] at h
    split at h
    · rename_i v' hv
      cases h
      simp only [dgA,ren,ren_dg hτ hp v (fun x hx=>ht x (by simp [toks,hx])) hv]
    · cases h
  | .agg cs,y,ht,h=>by
    simp only [ren] at h
    split at h
    · rename_i cs' hc
      cases h
      simp only [dgA,ren,renL_dg hτ hp cs (fun x hx=>ht x (by simp [toks,hx])) hc]
    · cases h
  | .tuple cs,y,ht,h=>by
    simp only [ren] at h
    split at h
    · rename_i cs' hc
      cases h
      simp only [dgA,ren,renL_dg hτ hp cs (fun x hx=>ht x (by simp [toks,hx])) hc]
    · cases h
  | .undef,y,_,h=>by simp only [ren] at h; cases h; rfl
  | .bool _,y,_,h=>by simp only [ren] at h; cases h; rfl
  | .int _ _,y,_,h=>by simp only [ren] at h; cases h; rfl
  | .str _,y,_,h=>by simp only [ren] at h; cases h; rfl
  | .nilp,y,_,h=>by simp only [ren] at h; cases h; rfl
  | .pin _,y,_,h=>by simp only [ren] at h; cases h; rfl
  | .nils,y,_,h=>by simp only [ren] at h; cases h; rfl
  | .nilm,y,_,h=>by simp only [ren] at h; cases h; rfl
  | .mapf _ _,y,_,h=>by simp only [ren] at h; cases h; rfl
  | .nilf,y,_,h=>by simp only [ren] at h; cases h; rfl
  | .nili,y,_,h=>by simp only [ren] at h; cases h; rfl
theorem renL_dg {σ τ:Oid→Option Oid} (hτ:∀ b b',σ b = some b'→τ b' = some b) {p p':Oid→Bool} (hp:∀ b b',σ b = some b'→p b' = p' b):∀ (a:List AV) {y:List AV},(∀ b ∈ toksL a,(σ b).isSome = true)→renL σ a = some y→renL τ (dgL p y) = some (dgL p' a)
  | [],y,_,h=>by simp only [renL] at h; cases h; rfl
  | a :: r,y,ht,h=>by
    simp only [renL] at h
    split at h
    · rename_i a' r' ha hr
      cases h
      simp only [dgL,renL,ren_dg hτ hp a (fun x hx=>ht x (by simp [toksL,hx])) ha,renL_dg hτ hp r (fun x hx=>ht x (by simp [toksL,hx])) hr]
    · cases h
end
theorem renL_get {σ:Oid→Option Oid}:∀ {a y:List AV},renL σ a = some y→a.length = y.length∧∀ (j:Nat) (x:AV),a[j]? = some x→∃ x',y[j]? = some x'∧ren σ x = some x'
  | [],y,h=>by simp only [renL] at h; cases h; exact ⟨rfl,fun j x h=>by simp at h⟩
  | a :: r,y,h=>by
    simp only [renL] at h
    split at h
    · rename_i a' r' ha hr
      cases h
      obtain ⟨h1,h2⟩:=renL_get hr
      refine ⟨by simp [h1],fun j x hx=>?_⟩
      cases j with
      | zero=>simp at hx; subst hx; exact ⟨a',rfl,ha⟩
      | succ j=>obtain ⟨x',k1,k2⟩:=h2 j x (by simpa using hx); exact ⟨x',by simpa using k1,k2⟩
    · cases h
structure Sig where
  args:List VK
  objs:List (List VK)
  bufs:List (Oid × Nat)
  res:VK
  upd:List (Oid × Nat × VK)
  ubufs:List (Oid × Nat)
  fls:List Fl
def flAt:List Fl→Nat→Fl
  | [],_=>.rw
  | f :: _,0=>f
  | _ :: r,i + 1=>flAt r i
def Sig.KA (s:Sig):VK:=VK.L s.args
def objK:List (List VK)→VK
  | []=>.nil
  | l :: r=>.cons (.agg (VK.L l)) (objK r)
def Sig.KO (s:Sig):VK:=objK s.objs
def Sig.ins (s:Sig):List Ty0:=tys s.KA (tys s.KO (tysB s.bufs []))
def Sig.out (s:Sig):Sh:=⟨[(0,s.res)],s.upd,s.ubufs⟩
section
variable {U:Nat→Type} {ρ:Type}
def argS:Nat→List (SV U)→List (Nat × SV U)
  | _,[]=>[]
  | i,v :: r=>(i,v) :: argS (i + 1) r
def objL (fl:List Fl):Nat→List (SV U)→List (Oid × Fl × List (SV U))
  | _,[]=>[]
  | i,v :: r=>(.ext i,flAt fl i,chunk v) :: objL fl (i + 1) r
def Sig.av (s:Sig) (z:HT U s.ins):List (SV U):=(inj s.KA (tys s.KO (tysB s.bufs [])) z).1
def Sig.st (s:Sig) (z:HT U s.ins):SSt U :=
  ⟨argS 0 (s.av z),objL s.fls 0 (inj s.KO (tysB s.bufs []) (inj s.KA (tys s.KO (tysB s.bufs [])) z).2).1,(injB s.bufs [] (inj s.KO (tysB s.bufs []) (inj s.KA (tys s.KO (tysB s.bufs [])) z).2).2).1,[],[]⟩
def Sig.st0 (s:Sig) (z:HT U s.ins):SSt U:=⟨[],(s.st z).H,(s.st z).B,[],[]⟩
structure Ent (U:Nat→Type) where
  f:FuncId
  v:Nat
  sig:Sig
  F:Nat→HT U sig.ins→Option (HT U sig.out.tys)
def OkE (Y:SZ U) (k:Nat) (e:Ent U):Prop :=
  ∀ z y S1,e.F k z = some y→injSh Y [] e.sig.out y (e.sig.st0 z) = some S1 →
    SF Y.Z e.f (denL Y.M (e.sig.st z).B (e.sig.av z)) (denS Y (e.sig.st z)).H (den Y.M S1.B (getS S1.A 0)) (denS Y S1).H
variable (Y:SZ U)
def exact1:VK→SV U→Bool
  | .int k,.raw (.int k' _)=>decide (k' = k)
  | .bool,.raw (.bool _)=>true
  | .str,.raw (.str _)=>true
  | .typ i,.typ j _=>j == i
  | .lst i,.lst false j _=>j == i
  | .full i,.lst true j _=>j == i
  | .opt i,.opt j _=>j == i
  | .ptr b o,.raw (.ptr b' o')=>decide (b' = b∧o' = o)
  | .nils,.raw .nils=>true
  | .nilp,.raw .nilp=>true
  | .nilf,.raw .nilf=>true
  | .mapr b,.raw (.mapr b')=>decide (b' = b)
  | .tip b,.tip b'=>decide (b' = b)
  | .fn f .nil .nil,.fn f' [] []=>decide (f' = f)
  | _,_=>false
def exactL:VK→List (SV U)→Bool
  | .nil,[]=>true
  | .cons v r,s :: l=>exact1 v s && (match csize Y.M s,vsize Y.M v with | some m,some n=>m == n && decide (0 < n) && (isAgg Y.M s == vagg Y.M v) | _,_=>false) && exactL r l
  | _,_=>false
variable {Y}
theorem exact1_ok {M:TM U} {B:Bufs U} {v:VK} {s:SV U} {ts:List Ty0} {c:Bool} {y:HT U ts} {z:HT U (tys v ts)} (he:exact1 v s = true) (h:exl M B v ts c [s] y = some z):(inj v ts z).1 = [s]:=by
  unfold exact1 at he
  split at he <;> first | (cases he; done) | skip
  all_goals (unfold exl at h; simp only [ex0] at h)
  · split at h
    · rename_i e; subst e; cases h; simp only [inj,hhd_cons]
    · cases h
  · cases h; simp only [inj,hhd_cons]
  · cases h; simp only [inj,hhd_cons]
  · split at h
    · rename_i e; subst e; cases h; simp only [inj,hhd_cons]
    · cases h
  · rw [beq_iff_eq] at he
    subst he
    simp only [memAs,mem] at h
    split at h
    · rename_i l hl
      simp only [dite_true,Option.some.injEq] at hl
      cases h; subst hl; simp only [inj,hhd_cons]
    · cases h
  · split at h
    · rename_i e; subst e; cases h; simp only [inj,hhd_cons]
    · cases h
  · split at h
    · rename_i e; subst e; cases h; simp only [inj,hhd_cons]
    · cases h
  · split at h
    · rename_i e; obtain ⟨rfl,rfl⟩:=e; cases h; rfl
    · cases h
  · cases h; rfl
  · cases h; rfl
  · cases h; rfl
  · split at h
    · rename_i e; subst e; cases h; rfl
    · cases h
  · split at h
    · rename_i e; subst e; cases h; rfl
    · cases h
  · split at h
    · rename_i e
      subst e
      simp only [exl] at h
      cases h; rfl
    · cases h
theorem exactL_ok {B:Bufs U}:∀ {v:VK} {l:List (SV U)} {ts:List Ty0} {y:HT U ts} {z:HT U (tys v ts)},exactL Y v l = true→exl Y.M B v ts true l y = some z→(inj v ts z).1 = l
  | .nil,[],ts,y,z,he,h=>rfl
  | .cons v r,s :: l,ts,y,z,he,h=>by
    simp only [exactL,Bool.and_eq_true] at he
    obtain ⟨⟨e1,e2⟩,e3⟩:=he
    split at e2
    · rename_i m n hm hn
      simp only [Bool.and_eq_true,beq_iff_eq,decide_eq_true_eq] at e2
      obtain ⟨⟨rfl,e4⟩,e5⟩:=e2
      unfold exl at h
      simp only [if_true,hn] at h
      obtain ⟨k,rfl⟩:∃ k,m = k + 1:=⟨m - 1,by omega⟩
      have hs:splitS Y.M 300 (k + 1) (s :: l) = some ([s],l):=by
        show splitS Y.M (299 + 1) (k + 1) (s :: l) = _
        simp only [splitS,hm,Nat.le_refl,if_true,Nat.sub_self]
      rw [hs] at h
      simp only [wrap,e5,if_true] at h
      split at h
      · rename_i z1 hz1
        have hq:=exact1_ok e1 h
        simp only [inj]
        rw [hq]
        have h2:(inj v (tys r ts) z).2 = z1:=(exl_ok Y.ok (B':=B) v _ false [s] z1 (fun _ _=>rfl) h).1
        rw [h2,exactL_ok e3 hz1]; rfl
      · cases h
    · cases e2
  | .nil,_ :: _,_,_,_,he,_=>by simp [exactL] at he
  | .cons _ _,[],_,_,_,he,_=>by simp [exactL] at he
  | .int _,_,_,_,_,he,_=>by simp [exactL] at he
  | .bool,_,_,_,_,he,_=>by simp [exactL] at he
  | .str,_,_,_,_,he,_=>by simp [exactL] at he
  | .typ _,_,_,_,_,he,_=>by simp [exactL] at he
  | .lst _,_,_,_,_,he,_=>by simp [exactL] at he
  | .full _,_,_,_,_,he,_=>by simp [exactL] at he
  | .lstf _,_,_,_,_,he,_=>by simp [exactL] at he
  | .opt _,_,_,_,_,he,_=>by simp [exactL] at he
  | .ptr _ _,_,_,_,_,he,_=>by simp [exactL] at he
  | .nils,_,_,_,_,he,_=>by simp [exactL] at he
  | .nilp,_,_,_,_,he,_=>by simp [exactL] at he
  | .nilf,_,_,_,_,he,_=>by simp [exactL] at he
  | .mapr _,_,_,_,_,he,_=>by simp [exactL] at he
  | .unit,_,_,_,_,he,_=>by simp [exactL] at he
  | .tip _,_,_,_,_,he,_=>by simp [exactL] at he
  | .fn _ _ _,_,_,_,_,he,_=>by simp [exactL] at he
  | .agg _,_,_,_,_,he,_=>by simp [exactL] at he
  | .tup _,_,_,_,_,he,_=>by simp [exactL] at he
end
end Go.Proofs.YtjojaiomgdjhfaaGreatDoor.SY
